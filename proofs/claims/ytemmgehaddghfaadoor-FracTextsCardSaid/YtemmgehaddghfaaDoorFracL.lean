/- THE WALKS over package frac: Add. -/
import Derived.Test.YtemmgehaddghfaaDoorFracK
import Derived.Deep.RegionHeld3
namespace Go.Proofs.YtemmgehaddghfaaDoor
open Go.RowKit

theorem below_drew' {B : Nat} {a w : World} (h : Below B a w) : Below B a w.drew := below_drewN' h 1

/-- a new box of three cells, still as it was made -/
def BoxAt (H : Nat) (a b c : Value) (V : World) : Prop := V.cell? ⟨H, 0, none⟩ = some a ∧ V.cell? ⟨H, 1, none⟩ = some b ∧ V.cell? ⟨H, 2, none⟩ = some c ∧ V.frozen? ⟨H, 0, none⟩ = false ∧ V.frozen? ⟨H, 1, none⟩ = false ∧ V.frozen? ⟨H, 2, none⟩ = false ∧ H < V.heap.size

theorem box_trans {H : Nat} {a b c : Value} {V w' : World} (h : BoxAt H a b c V) (hb : Below V.heap.size V w') : BoxAt H a b c w' := by
  obtain ⟨x0, x1, x2, y0, y1, y2, yh⟩ := h
  obtain ⟨hc, hf⟩ := bcell hb
  have := hb.size
  exact ⟨(hc _ _ yh).trans x0, (hc _ _ yh).trans x1, (hc _ _ yh).trans x2, (hf _ _ yh).trans y0, (hf _ _ yh).trans y1, (hf _ _ yh).trans y2, by omega⟩

theorem box_facts {V w' : World} {a b c : Value} {t : TypeId} (hb : Below (V.alloc (.cells #[a, b, c] t)).heap.size (V.alloc (.cells #[a, b, c] t)) w') : BoxAt V.heap.size a b c w' := by
  refine box_trans ⟨?_, ?_, ?_, ?_, ?_, ?_, ?_⟩ hb
  all_goals go_simp

theorem box_facts' {V w' : World} {a b c : Value} {t : TypeId} (hb : Below (V.alloc (.cells #[a, b, c] t)).drew.heap.size (V.alloc (.cells #[a, b, c] t)).drew w') : BoxAt V.heap.size a b c w' := by
  refine box_trans ⟨?_, ?_, ?_, ?_, ?_, ?_, ?_⟩ hb
  all_goals go_simp

/-- where the fraction 0 lies -/
def ZeroAt (w : World) : Prop := w.cell? ⟨0, 0, none⟩ = some (.int .i64 0) ∧ w.cell? ⟨0, 1, none⟩ = some (.int .i64 1) ∧ 0 < w.heap.size

theorem ZeroAt.below {w w' : World} (h : ZeroAt w) (hb : Below w.heap.size w w') : ZeroAt w' := by
  obtain ⟨h0, h1, hs⟩ := h
  obtain ⟨hc, hf⟩ := bcell hb
  have := hb.size
  exact ⟨(hc _ _ hs).trans h0, (hc _ _ hs).trans h1, by omega⟩

/-- what Add's frame holds behind its sum -/
def AddSt (w : World) (H : Nat) (ad bd : Int) (s : Bool) (h l : Int) (V : World) : Prop :=
  Below w.heap.size w V ∧ (w.heap.size + 1 + 1 < H ∧ H < V.heap.size) ∧ V.cell? ⟨w.heap.size, 1, none⟩ = some (.int .i64 ad) ∧ V.cell? ⟨w.heap.size + 1, 1, none⟩ = some (.int .i64 bd) ∧
  (V.cell? ⟨w.heap.size + 1 + 1, 0, none⟩ = some (.int .i64 0) ∧ V.frozen? ⟨w.heap.size + 1 + 1, 0, none⟩ = false) ∧ (V.cell? ⟨w.heap.size + 1 + 1, 1, none⟩ = some (.int .i64 0) ∧ V.frozen? ⟨w.heap.size + 1 + 1, 1, none⟩ = false) ∧
  (V.cell? ⟨H, 0, none⟩ = some (.bool s) ∧ V.cell? ⟨H, 1, none⟩ = some (.int .u64 h) ∧ V.cell? ⟨H, 2, none⟩ = some (.int .u64 l)) ∧
  (V.cell? ⟨0, 0, none⟩ = some (.int .i64 0) ∧ V.cell? ⟨0, 1, none⟩ = some (.int .i64 1) ∧ 0 < w.heap.size)

theorem AddSt.step {w : World} {H : Nat} {ad bd : Int} {s : Bool} {h l : Int} {V V' : World} (q : AddSt w H ad bd s h l V) (hb : Below V.heap.size V V') : AddSt w H ad bd s h l V' := by
  obtain ⟨q0, ⟨q1, q2⟩, q3, q4, ⟨q5, q6⟩, ⟨q7, q8⟩, ⟨q9, q10, q11⟩, q12, q13, q14⟩ := q
  obtain ⟨hc, hf⟩ := bcell hb
  have hs := hb.size
  exact ⟨below_step q0 hb, ⟨q1, by omega⟩, (hc _ _ (by omega)).trans q3, (hc _ _ (by omega)).trans q4, ⟨(hc _ _ (by omega)).trans q5, (hf _ _ (by omega)).trans q6⟩, ⟨(hc _ _ (by omega)).trans q7, (hf _ _ (by omega)).trans q8⟩, ⟨(hc _ _ (by omega)).trans q9, (hc _ _ (by omega)).trans q10, (hc _ _ (by omega)).trans q11⟩, (hc _ _ (by omega)).trans q12, (hc _ _ (by omega)).trans q13, q14⟩

theorem AddSt.start {w W wc : World} {H : Nat} {ad bd : Int} {s : Bool} {h l : Int} (hz : ZeroAt w) (hbB : Below w.heap.size w W) (hbX : Below (w.heap.size + 1 + 1 + 1) W wc)
    (d1 : W.cell? ⟨w.heap.size, 1, none⟩ = some (.int .i64 ad)) (d3 : W.cell? ⟨w.heap.size + 1, 1, none⟩ = some (.int .i64 bd))
    (d4 : W.cell? ⟨w.heap.size + 1 + 1, 0, none⟩ = some (.int .i64 0)) (g4 : W.frozen? ⟨w.heap.size + 1 + 1, 0, none⟩ = false)
    (d5 : W.cell? ⟨w.heap.size + 1 + 1, 1, none⟩ = some (.int .i64 0)) (g5 : W.frozen? ⟨w.heap.size + 1 + 1, 1, none⟩ = false)
    (hH : w.heap.size + 1 + 1 < H) (hbox : BoxAt H (.bool s) (.int .u64 h) (.int .u64 l) wc) : AddSt w H ad bd s h l wc := by
  have hc : ∀ b o, b < w.heap.size + 1 + 1 + 1 → wc.cell? ⟨b, o, none⟩ = W.cell? ⟨b, o, none⟩ := fun b o k => hbX.cell (p := ⟨b, o, none⟩) k
  have hf : ∀ b o, b < w.heap.size + 1 + 1 + 1 → wc.frozen? ⟨b, o, none⟩ = W.frozen? ⟨b, o, none⟩ := fun b o k => hbX.frozen (p := ⟨b, o, none⟩) k
  have hb : Below w.heap.size w wc := hbB.trans (hbX.mono (by omega))
  obtain ⟨x0, x1, x2, -, -, -, yh⟩ := hbox
  obtain ⟨z0, z1, z2⟩ := hz
  obtain ⟨hc0, -⟩ := bcell hb
  exact ⟨hb, ⟨hH, yh⟩, (hc _ _ (by omega)).trans d1, (hc _ _ (by omega)).trans d3, ⟨(hc _ _ (by omega)).trans d4, (hf _ _ (by omega)).trans g4⟩, ⟨(hc _ _ (by omega)).trans d5, (hf _ _ (by omega)).trans g5⟩, ⟨x0, x1, x2⟩, (hc0 _ _ z2).trans z0, (hc0 _ _ z2).trans z1, z2⟩

theorem num_Gcd_below (a b : Int) (w : World) :
    Calls Tryd.prog 34 #[.int .i64 a, .int .i64 b] w fun e w' => e = .returned (.int .i64 (gcdV a b)) ∧ Below w.heap.size w w' :=
  (num_Gcd a b w).mono fun e w' ⟨h, n, hn⟩ => ⟨h, by rw [hn]; exact below_drewN' (Below.refl _ _) n⟩

theorem wide_mod_i (s : Bool) (h l : Int) (m : Nat) (y : Int) (w : World) (W : WB h l m) (hy1 : 1 ≤ y) (hy : y ≤ 1000000000000000) :
    Calls Tryd.prog 40 #[.agg #[.bool s, .int .u64 h, .int .u64 l], .int .u64 y] w fun e w' => e = .returned (.int .u64 (m % y.toNat : Nat)) ∧ Below w.heap.size w w' := by
  have hk := wide_mod s h l m y.toNat w W (by omega) (by omega)
  rw [show ((y.toNat : Nat) : Int) = y from by omega] at hk
  exact hk

theorem wide_over_i (s : Bool) (h l : Int) (m : Nat) (y : Int) (w : World) (W : WB h l m) (hy1 : 1 ≤ y) (hy : y ≤ 1000000000000000) :
    Calls Tryd.prog 41 #[.agg #[.bool s, .int .u64 h, .int .u64 l], .int .u64 y] w fun e w' => e = .returned (.tuple #[.int .i64 (overV s m y.toNat), .bool (overB m y.toNat)]) ∧ Below w.heap.size w w' := by
  have hk := wide_over s h l m y.toNat w W (by omega) (by omega)
  rw [show ((y.toNat : Nat) : Int) = y from by omega] at hk
  exact hk

set_option maxHeartbeats 3200000 in
theorem frac_Add_yes (an ad bn bd : Int) (w : World) (hZ0 : ZeroAt w) (ha : validB an ad = true) (hb : validB bn bd = true) :
    Calls Tryd.prog 14 #[.agg #[.int .i64 an, .int .i64 ad], .agg #[.int .i64 bn, .int .i64 bd]] w (FracIs (addS an ad bn bd) w) := by
  obtain ⟨a1, a2, ⟨a3, a4⟩, -⟩ := validB_iff.1 ha
  obtain ⟨b1, b2, ⟨b3, b4⟩, -⟩ := validB_iff.1 hb
  have HZ0 := Lib.hid hZ0
  clear hZ0
  have HGD : Hid (cgcd ad bd ∣ bd) := cgcd_right ad bd
  have hO := Lib.hid (addS_formula ha hb)
  have hZ := Lib.hid (addS_zero ha hb)
  obtain ⟨e1, e2⟩ := cgcd_bounds (n := ad) (show bd ≠ 0 by omega) ⟨by omega, by omega⟩
  obtain ⟨q1, -, -, q4, q5⟩ := quo_facts e1 (cgcd_left ad bd) ⟨by omega, by omega⟩
  obtain ⟨p1, -, -, p4, p5⟩ := quo_facts e1 (cgcd_right ad bd) ⟨by omega, by omega⟩
  have hg : gcdV ad bd = cgcd ad bd := gcdV_yes (inB_true.2 ⟨by omega, by omega⟩) (inB_true.2 ⟨by omega, by omega⟩)
  generalize cgcd ad bd = g at *
  generalize ad / g = C at *
  generalize bd / g = D at *
  have J1 : IntKind.i64.wrap D = D := IntWalk.i64_in _ ⟨by omega, by omega⟩
  have J2 : IntKind.i64.wrap C = C := IntWalk.i64_in _ ⟨by omega, by omega⟩
  have M1 := mul_lt_wide (a := an) (b := D) ⟨a3, a4⟩ ⟨p4, p5⟩
  have M2 := mul_lt_wide (a := bn) (b := C) ⟨b3, b4⟩ ⟨q4, q5⟩
  have hg00 : ¬ g = 0 := by omega
  have hg0 : (g == 0) = false := beq_eq_false_iff_ne.2 (by omega)
  go_enter Tryd.func14, Tryd.ntmps14
  go_wp2_with (go_at_call 11; refine (frac_Valid _ _ _).mono ?_; rintro e w' ⟨rfl, hbb⟩; obtain ⟨hc, hf⟩ := bcell hbb; have c0 : w'.cell? ⟨w.heap.size, 0, none⟩ = some (.int .i64 an) := (hc _ _ (by first | omega | (simp; done) | (simp; omega))).trans (by go_simp); have f0 : w'.frozen? ⟨w.heap.size, 0, none⟩ = false := (hf _ _ (by first | omega | (simp; done) | (simp; omega))).trans (by go_simp); have c1 : w'.cell? ⟨w.heap.size, 1, none⟩ = some (.int .i64 ad) := (hc _ _ (by first | omega | (simp; done) | (simp; omega))).trans (by go_simp); have f1 : w'.frozen? ⟨w.heap.size, 1, none⟩ = false := (hf _ _ (by first | omega | (simp; done) | (simp; omega))).trans (by go_simp); have c2 : w'.cell? ⟨w.heap.size + 1, 0, none⟩ = some (.int .i64 bn) := (hc _ _ (by first | omega | (simp; done) | (simp; omega))).trans (by go_simp); have f2 : w'.frozen? ⟨w.heap.size + 1, 0, none⟩ = false := (hf _ _ (by first | omega | (simp; done) | (simp; omega))).trans (by go_simp); have c3 : w'.cell? ⟨w.heap.size + 1, 1, none⟩ = some (.int .i64 bd) := (hc _ _ (by first | omega | (simp; done) | (simp; omega))).trans (by go_simp); have f3 : w'.frozen? ⟨w.heap.size + 1, 1, none⟩ = false := (hf _ _ (by first | omega | (simp; done) | (simp; omega))).trans (by go_simp); have c4 : w'.cell? ⟨w.heap.size + 1 + 1, 0, none⟩ = some (.int .i64 0) := (hc _ _ (by first | omega | (simp; done) | (simp; omega))).trans (by go_simp); have f4 : w'.frozen? ⟨w.heap.size + 1 + 1, 0, none⟩ = false := (hf _ _ (by first | omega | (simp; done) | (simp; omega))).trans (by go_simp); have c5 : w'.cell? ⟨w.heap.size + 1 + 1, 1, none⟩ = some (.int .i64 0) := (hc _ _ (by first | omega | (simp; done) | (simp; omega))).trans (by go_simp); have f5 : w'.frozen? ⟨w.heap.size + 1 + 1, 1, none⟩ = false := (hf _ _ (by first | omega | (simp; done) | (simp; omega))).trans (by go_simp); have hz : w.heap.size + 1 + 1 < w'.heap.size := (by have hs := hbb.size; first | omega | (simp at hs; done) | (simp at hs; omega)); have hbA : Below w.heap.size w w' := Below.trans (b := _) (by repeat (first | with_reducible exact Below.refl _ _ | with_reducible assumption | with_reducible refine below_drewN' ?_ _ | (with_reducible refine Below.setCell ?_ (by first | (simp; done) | (simp; omega)) _) | (with_reducible refine Below.alloc ?_ (by first | exact Nat.le_refl _ | (simp; done) | (simp; omega)) _))) (hbb.mono (by first | omega | (simp; done) | (simp; omega))); clear hc hf hbb)
  refine (num_Gcd _ _ _).mono ?_
  rintro e w' ⟨rfl, nn, rfl⟩
  go_wp2_with fail
  refine forget_world (fun W => (Below w.heap.size w W ∧ w.heap.size + 1 + 1 < W.heap.size) ∧ (W.cell? ⟨w.heap.size, 0, none⟩ = some (.int .i64 an) ∧ W.frozen? ⟨w.heap.size, 0, none⟩ = false) ∧ (W.cell? ⟨w.heap.size, 1, none⟩ = some (.int .i64 ad) ∧ W.frozen? ⟨w.heap.size, 1, none⟩ = false) ∧ (W.cell? ⟨w.heap.size + 1, 0, none⟩ = some (.int .i64 bn) ∧ W.frozen? ⟨w.heap.size + 1, 0, none⟩ = false) ∧ (W.cell? ⟨w.heap.size + 1, 1, none⟩ = some (.int .i64 bd) ∧ W.frozen? ⟨w.heap.size + 1, 1, none⟩ = false) ∧ (W.cell? ⟨w.heap.size + 1 + 1, 0, none⟩ = some (.int .i64 0) ∧ W.frozen? ⟨w.heap.size + 1 + 1, 0, none⟩ = false) ∧ (W.cell? ⟨w.heap.size + 1 + 1, 1, none⟩ = some (.int .i64 0) ∧ W.frozen? ⟨w.heap.size + 1 + 1, 1, none⟩ = false)) ⟨⟨(by repeat (first | with_reducible exact Below.refl _ _ | with_reducible assumption | with_reducible refine below_drewN' ?_ _ | (with_reducible refine Below.setCell ?_ (by first | (simp; done) | (simp; omega)) _) | (with_reducible refine Below.alloc ?_ (by first | exact Nat.le_refl _ | (simp; done) | (simp; omega)) _))), by go_simp⟩, ⟨by go_simp, by go_simp⟩, ⟨by go_simp, by go_simp⟩, ⟨by go_simp, by go_simp⟩, ⟨by go_simp, by go_simp⟩, ⟨by go_simp, by go_simp⟩, ⟨by go_simp, by go_simp⟩⟩ ?_
  rintro W ⟨⟨hbB, hzB⟩, ⟨d0, g0⟩, ⟨d1, g1⟩, ⟨d2, g2⟩, ⟨d3, g3⟩, ⟨d4, g4⟩, ⟨d5, g5⟩⟩
  clear hz hbA c0 c1 c2 c3 c4 c5 f0 f1 f2 f3 f4 f5
  have hn0 : ¬ w.heap.size = W.heap.size := by omega
  have hm0 : ¬ W.heap.size = w.heap.size := by omega
  have hn1 : ¬ w.heap.size + 1 = W.heap.size := by omega
  have hm1 : ¬ W.heap.size = w.heap.size + 1 := by omega
  have hn2 : ¬ w.heap.size + 1 + 1 = W.heap.size := by omega
  have hm2 : ¬ W.heap.size = w.heap.size + 1 + 1 := by omega
  go_cut [7] (fun p wx => ∃ (H : Nat) (h l : Int), p = .pointer (some ⟨H, 0, none⟩) ∧ (w.heap.size + 1 + 1 < H ∧ Below (w.heap.size + 1 + 1 + 1) W wx) ∧ BoxAt H (.bool (plusW (decide (an < 0) != decide (D < 0)) (an.natAbs * D.natAbs) (decide (bn < 0) != decide (C < 0)) (bn.natAbs * C.natAbs)).1) (.int .u64 h) (.int .u64 l) wx ∧ WB h l (plusW (decide (an < 0) != decide (D < 0)) (an.natAbs * D.natAbs) (decide (bn < 0) != decide (C < 0)) (bn.natAbs * C.natAbs)).2)
  case first =>
    go_region_held3 (fun V => V.cell? ⟨w.heap.size, 0, none⟩ = some (.int .i64 an) ∧ V.cell? ⟨w.heap.size, 1, none⟩ = some (.int .i64 ad) ∧ V.cell? ⟨w.heap.size + 1, 0, none⟩ = some (.int .i64 bn) ∧ V.cell? ⟨w.heap.size + 1, 1, none⟩ = some (.int .i64 bd) ∧ Below (w.heap.size + 1 + 1 + 1) W V ∧ w.heap.size + 1 + 1 < V.heap.size) ((exact ⟨(by first | (go_simp; done) | exact ((bcell (W := w') (by repeat (first | with_reducible exact Below.refl _ _ | with_reducible assumption | with_reducible refine below_drew' ?_ | with_reducible refine below_drewN' ?_ _ | (with_reducible refine Below.setCell ?_ (by first | omega | (simp; done) | (simp; omega)) _) | (with_reducible refine Below.alloc ?_ (by first | exact Nat.le_refl _ | omega | (simp; done) | (simp; omega)) _)))).1 _ _ (by omega)).trans (by go_simp) | exact ((bcell (W := W) (by repeat (first | with_reducible exact Below.refl _ _ | with_reducible assumption | with_reducible refine below_drew' ?_ | with_reducible refine below_drewN' ?_ _ | (with_reducible refine Below.setCell ?_ (by first | omega | (simp; done) | (simp; omega)) _) | (with_reducible refine Below.alloc ?_ (by first | exact Nat.le_refl _ | omega | (simp; done) | (simp; omega)) _)))).1 _ _ (by omega)).trans (by go_simp)), (by first | (go_simp; done) | exact ((bcell (W := w') (by repeat (first | with_reducible exact Below.refl _ _ | with_reducible assumption | with_reducible refine below_drew' ?_ | with_reducible refine below_drewN' ?_ _ | (with_reducible refine Below.setCell ?_ (by first | omega | (simp; done) | (simp; omega)) _) | (with_reducible refine Below.alloc ?_ (by first | exact Nat.le_refl _ | omega | (simp; done) | (simp; omega)) _)))).1 _ _ (by omega)).trans (by go_simp) | exact ((bcell (W := W) (by repeat (first | with_reducible exact Below.refl _ _ | with_reducible assumption | with_reducible refine below_drew' ?_ | with_reducible refine below_drewN' ?_ _ | (with_reducible refine Below.setCell ?_ (by first | omega | (simp; done) | (simp; omega)) _) | (with_reducible refine Below.alloc ?_ (by first | exact Nat.le_refl _ | omega | (simp; done) | (simp; omega)) _)))).1 _ _ (by omega)).trans (by go_simp)), (by first | (go_simp; done) | exact ((bcell (W := w') (by repeat (first | with_reducible exact Below.refl _ _ | with_reducible assumption | with_reducible refine below_drew' ?_ | with_reducible refine below_drewN' ?_ _ | (with_reducible refine Below.setCell ?_ (by first | omega | (simp; done) | (simp; omega)) _) | (with_reducible refine Below.alloc ?_ (by first | exact Nat.le_refl _ | omega | (simp; done) | (simp; omega)) _)))).1 _ _ (by omega)).trans (by go_simp) | exact ((bcell (W := W) (by repeat (first | with_reducible exact Below.refl _ _ | with_reducible assumption | with_reducible refine below_drew' ?_ | with_reducible refine below_drewN' ?_ _ | (with_reducible refine Below.setCell ?_ (by first | omega | (simp; done) | (simp; omega)) _) | (with_reducible refine Below.alloc ?_ (by first | exact Nat.le_refl _ | omega | (simp; done) | (simp; omega)) _)))).1 _ _ (by omega)).trans (by go_simp)), (by first | (go_simp; done) | exact ((bcell (W := w') (by repeat (first | with_reducible exact Below.refl _ _ | with_reducible assumption | with_reducible refine below_drew' ?_ | with_reducible refine below_drewN' ?_ _ | (with_reducible refine Below.setCell ?_ (by first | omega | (simp; done) | (simp; omega)) _) | (with_reducible refine Below.alloc ?_ (by first | exact Nat.le_refl _ | omega | (simp; done) | (simp; omega)) _)))).1 _ _ (by omega)).trans (by go_simp) | exact ((bcell (W := W) (by repeat (first | with_reducible exact Below.refl _ _ | with_reducible assumption | with_reducible refine below_drew' ?_ | with_reducible refine below_drewN' ?_ _ | (with_reducible refine Below.setCell ?_ (by first | omega | (simp; done) | (simp; omega)) _) | (with_reducible refine Below.alloc ?_ (by first | exact Nat.le_refl _ | omega | (simp; done) | (simp; omega)) _)))).1 _ _ (by omega)).trans (by go_simp)), (by repeat (first | with_reducible exact Below.refl _ _ | with_reducible assumption | with_reducible refine below_drew' ?_ | (have hh := ‹_ ∧ _ ∧ _ ∧ _ ∧ _ ∧ _›; with_reducible exact hh.2.2.2.2.1) | with_reducible refine below_drewN' ?_ _ | (with_reducible refine Below.setCell ?_ (by first | omega | (simp; done) | (simp; omega)) _) | (with_reducible refine Below.alloc ?_ (by first | exact Nat.le_refl _ | omega | (simp; done) | (simp; omega)) _))), by first | omega | (simp; omega) | (have hh := ‹_ ∧ _ ∧ _ ∧ _ ∧ _ ∧ _›; have := hh.2.2.2.2.2; simp at this; simp; omega)⟩)) (first | (go_at_call 37; refine (frac_product _ _ _ ⟨by omega, by omega⟩ ⟨by omega, by omega⟩).mono ?_; rintro e w' ⟨h, l, rfl, HW, hbb⟩; obtain ⟨s0, s1, s2, s3, s4, s5⟩ := ‹_ ∧ _ ∧ _ ∧ _ ∧ _ ∧ _›; (first | have cb := box_facts hbb | have cb := box_facts' hbb | have cb := box_trans (by assumption) hbb | skip); (first | (obtain ⟨x0, x1, x2, y0, y1, y2, yh⟩ := id cb; have yn := Nat.ne_of_gt yh; have ym := Nat.ne_of_lt yh) | skip); obtain ⟨hc, hf⟩ := bcell hbb; have c0 : w'.cell? ⟨w.heap.size, 0, none⟩ = some (.int .i64 an) := (hc _ _ (by first | omega | (simp; done) | (simp; omega))).trans (by go_simp); have c1 : w'.cell? ⟨w.heap.size, 1, none⟩ = some (.int .i64 ad) := (hc _ _ (by first | omega | (simp; done) | (simp; omega))).trans (by go_simp); have c2 : w'.cell? ⟨w.heap.size + 1, 0, none⟩ = some (.int .i64 bn) := (hc _ _ (by first | omega | (simp; done) | (simp; omega))).trans (by go_simp); have c3 : w'.cell? ⟨w.heap.size + 1, 1, none⟩ = some (.int .i64 bd) := (hc _ _ (by first | omega | (simp; done) | (simp; omega))).trans (by go_simp); have hz : w.heap.size + 1 + 1 < w'.heap.size := (by have hs := hbb.size; first | omega | (simp at hs s5; omega)); have hbA : Below (w.heap.size + 1 + 1 + 1) W w' := Below.trans s4 (hbb.mono (by first | omega | (simp at s5; omega))); have hn0 : ¬ w.heap.size = w'.heap.size := (by omega); have hm0 : ¬ w'.heap.size = w.heap.size := (by omega); have hn1 : ¬ w.heap.size + 1 = w'.heap.size := (by omega); have hm1 : ¬ w'.heap.size = w.heap.size + 1 := (by omega); have hn2 : ¬ w.heap.size + 1 + 1 = w'.heap.size := (by omega); have hm2 : ¬ w'.heap.size = w.heap.size + 1 + 1 := (by omega); clear hc hf hbb s0 s1 s2 s3 s4 s5) | (go_at_call 38; refine Calls.mono (wide_plus (m1 := ?ma) (m2 := ?mb) _ _ _ _ _ _ _ (W1 := ?wa) (W2 := ?wb) ?wc) ?_; (case wa => assumption); (case wb => assumption); (case wc => exact Nat.lt_of_le_of_lt (Nat.add_le_add M1 M2) (by decide)); rintro e w' ⟨h, l, rfl, HP, hbb⟩; obtain ⟨s0, s1, s2, s3, s4, s5⟩ := ‹_ ∧ _ ∧ _ ∧ _ ∧ _ ∧ _›; (first | have cb := box_facts hbb | have cb := box_facts' hbb | have cb := box_trans (by assumption) hbb | skip); (first | (obtain ⟨x0, x1, x2, y0, y1, y2, yh⟩ := id cb; have yn := Nat.ne_of_gt yh; have ym := Nat.ne_of_lt yh) | skip); obtain ⟨hc, hf⟩ := bcell hbb; have c0 : w'.cell? ⟨w.heap.size, 0, none⟩ = some (.int .i64 an) := (hc _ _ (by first | omega | (simp; done) | (simp; omega))).trans (by go_simp); have c1 : w'.cell? ⟨w.heap.size, 1, none⟩ = some (.int .i64 ad) := (hc _ _ (by first | omega | (simp; done) | (simp; omega))).trans (by go_simp); have c2 : w'.cell? ⟨w.heap.size + 1, 0, none⟩ = some (.int .i64 bn) := (hc _ _ (by first | omega | (simp; done) | (simp; omega))).trans (by go_simp); have c3 : w'.cell? ⟨w.heap.size + 1, 1, none⟩ = some (.int .i64 bd) := (hc _ _ (by first | omega | (simp; done) | (simp; omega))).trans (by go_simp); have hz : w.heap.size + 1 + 1 < w'.heap.size := (by have hs := hbb.size; first | omega | (simp at hs s5; omega)); have hbA : Below (w.heap.size + 1 + 1 + 1) W w' := Below.trans s4 (hbb.mono (by first | omega | (simp at s5; omega))); have hn0 : ¬ w.heap.size = w'.heap.size := (by omega); have hm0 : ¬ w'.heap.size = w.heap.size := (by omega); have hn1 : ¬ w.heap.size + 1 = w'.heap.size := (by omega); have hm1 : ¬ w'.heap.size = w.heap.size + 1 := (by omega); have hn2 : ¬ w.heap.size + 1 + 1 = w'.heap.size := (by omega); have hm2 : ¬ w'.heap.size = w.heap.size + 1 + 1 := (by omega); clear hc hf hbb s0 s1 s2 s3 s4 s5))
    all_goals
      with_reducible apply_assumption
      refine Met.intro ?_
      with_reducible apply_assumption
      repeat apply Exists.intro
      refine ⟨?_, rfl⟩
      refine ⟨_, _, _, rfl, ⟨by assumption, ?_⟩, ⟨?_, ?_, ?_, ?_, ?_, ?_, ?_⟩, by assumption⟩
    all_goals first | (go_simp; done) | (simp; omega) | exact (by repeat (first | with_reducible exact Below.refl _ _ | with_reducible assumption | with_reducible refine below_drewN' ?_ _ | (with_reducible refine Below.setCell ?_ (by first | (simp; done) | (simp; omega)) _) | (with_reducible refine Below.alloc ?_ (by first | exact Nat.le_refl _ | (simp; done) | (simp; omega)) _))) | skip
  case rest =>
    obtain ⟨H, h, l, rfl, ⟨hH, hbX⟩, hbox, hWB⟩ := hcut
    have hT := Lib.hid ((wval_plus (decide (an < 0) != decide (D < 0)) (an.natAbs * D.natAbs) (decide (bn < 0) != decide (C < 0)) (bn.natAbs * C.natAbs)).trans (by rw [wval_product, wval_product]))
    generalize (plusW (decide (an < 0) != decide (D < 0)) (an.natAbs * D.natAbs) (decide (bn < 0) != decide (C < 0)) (bn.natAbs * C.natAbs)).1 = s at *
    generalize (plusW (decide (an < 0) != decide (D < 0)) (an.natAbs * D.natAbs) (decide (bn < 0) != decide (C < 0)) (bn.natAbs * C.natAbs)).2 = m at *
    have st := Lib.hid (AddSt.start HZ0.out hbB hbX d1 d3 d4 g4 d5 g5 hH hbox)
    have HWB := Lib.hid hWB
    clear hWB hbox hbX hbB hzB d0 d1 d2 d3 d4 d5 g0 g1 g2 g3 g4 g5 hn0 hm0 hn1 hm1 hn2 hm2 hH M1 M2
    obtain ⟨q0, ⟨q1', q2⟩, q3, q4', ⟨q5', q6⟩, ⟨q7, q8⟩, ⟨q9, q10, q11⟩, q12, q13, q14⟩ := st.out
    have HX : ∃ x : Int, Hid (sgnW s m = x) := ⟨_, rfl⟩
    obtain ⟨x, HX⟩ := HX
    have HXZ : Hid ((x == 0) = decide (an * D + bn * C = 0)) := by
      have hxx := HX.out
      have htt := hT.out
      show (x == 0) = _
      rw [← hxx, sgnW_zero, htt]
    have HS := Lib.hid (fun w => wide_sign s h l m w HWB.out)
    rw [HX.out] at HS
    go_wp2_with fail
    refine (HS.out _).mono ?_
    rintro e w1 ⟨rfl, hb1⟩
    have st1 := Lib.hid (st.out.step hb1)
    clear q0 q1' q2 q3 q4' q5' q6 q7 q8 q9 q10 q11 q12 q13 q14
    obtain ⟨q0, ⟨q1', q2⟩, q3, q4', ⟨q5', q6⟩, ⟨q7, q8⟩, ⟨q9, q10, q11⟩, q12, q13, q14⟩ := st1.out
    by_cases hT0 : an * D + bn * C = 0
    · have hx : (x == 0) = true := by rw [HXZ.out]; exact decide_eq_true hT0
      have HO : Hid (addS an ad bn bd = (0, 1, true)) := hZ.out hT0
      clear hT0
      go_wp2_with fail
      refine bodyPost_ret (v := .tuple #[.agg #[.int .i64 0, .int .i64 1], .bool true]) (by simp [results, Tryd.results14, go_sem, q5', q7]) rfl ?_
      rw [HO.out]
      exact ⟨rfl, (by repeat (first | with_reducible exact Below.refl _ _ | with_reducible assumption | with_reducible refine below_drewN' ?_ _ | (with_reducible refine Below.setCell ?_ (by first | (simp; done) | (simp; omega)) _) | (with_reducible refine Below.alloc ?_ (by first | exact Nat.le_refl _ | (simp; done) | (simp; omega)) _)))⟩
    · have hx : (x == 0) = false := by rw [HXZ.out]; exact decide_eq_false hT0
      clear hT0
      have HM := Lib.hid (fun w => wide_mod_i s h l m g w HWB.out e1 e2)
      have HR : ∃ r : Int, Hid (((m % g.toNat : Nat) : Int) = r) ∧ 0 ≤ r ∧ r ≤ 1000000000000000 := ⟨_, rfl, by omega, by have := Nat.mod_lt m (show 0 < g.toNat by omega); omega⟩
      obtain ⟨r, HR, r0, r1⟩ := HR
      have HK : Hid (cgcd r g = cgcd (an * D + bn * C) g) := by rw [← HR.out]; exact cgcd_mod m _ g (by rw [← hT.out, wval_abs]) e1
      rw [HR.out] at HM
      go_wp2_with (go_at_call 40; refine (HM.out _).mono ?_; rintro e w2 ⟨rfl, hb2⟩)
      refine (num_Gcd_below _ _ _).mono ?_
      rintro e w3 ⟨rfl, hb3⟩
      have st3 := Lib.hid ((st1.out.step hb2).step hb3)
      clear hb2 hb3
      clear q0 q1' q2 q3 q4' q5' q6 q7 q8 q9 q10 q11 q12 q13 q14
      obtain ⟨q0, ⟨q1', q2⟩, q3, q4', ⟨q5', q6⟩, ⟨q7, q8⟩, ⟨q9, q10, q11⟩, q12, q13, q14⟩ := st3.out
      have hgr : gcdV r g = cgcd r g := gcdV_yes (inB_true.2 ⟨by omega, by omega⟩) (inB_true.2 ⟨by omega, by omega⟩)
      rw [hgr]
      clear hgr
      obtain ⟨k1, k2⟩ := cgcd_bounds (n := r) (show g ≠ 0 by omega) ⟨by omega, by omega⟩
      have HKG : Hid (cgcd r g ∣ bd) := Int.dvd_trans (cgcd_right r g) HGD.out
      have HKT : Hid (cgcd r g ∣ an * D + bn * C) := by have hkk := HK.out; show _ ∣ _; rw [hkk]; exact cgcd_left _ _
      have HO : Hid (addS an ad bn bd = cutS ((an * D + bn * C) / cgcd r g) (C * (bd / cgcd r g))) := by have hkk := HK.out; have hoo := hO.out; show _ = _; rw [hkk]; exact hoo
      generalize cgcd r g = k at *
      obtain ⟨t1, -, -, t4, t5⟩ := quo_facts k1 HKG.out ⟨by omega, by omega⟩
      generalize bd / k = E at *
      have hk0 : (k == 0) = false := beq_eq_false_iff_ne.2 (by omega)
      have hk00 : ¬ k = 0 := by omega
      have HV := Lib.hid (fun w => wide_over_i s h l m k w HWB.out k1 k2)
      have HOV : Hid (inB ((an * D + bn * C) / k) = overB m k.toNat ∧ (overB m k.toNat = true → overV s m k.toNat = (an * D + bn * C) / k)) := by
        have ho := over_div s m k.toNat (by omega) (by rw [hT.out, show ((k.toNat : Nat) : Int) = k from by omega]; exact HKT.out)
        rw [hT.out, show ((k.toNat : Nat) : Int) = k from by omega] at ho
        exact ho
      generalize overV s m k.toNat = ov at *
      generalize overB m k.toNat = ob at *
      have HO2 : Hid (addS an ad bn bd = if ob && mulB C E then (ov, mulV C E, true) else (0, 0, false)) := by
        have hoo := HO.out
        obtain ⟨v1, v2⟩ := HOV.out
        have hm : mulB C E = inB (C * E) := by unfold mulB bothB; rw [inB_true.2 ⟨q4, q5⟩, inB_true.2 ⟨t4, t5⟩]; rfl
        show _ = _
        rw [hoo]
        unfold cutS
        rw [v1, hm]
        cases ob
        · rfl
        · rw [v2 rfl]
          cases h2 : inB (C * E)
          · rfl
          · rw [mul_yes (by rw [hm, h2])]
      go_wp2_with fail
      refine (HV.out _).mono ?_
      rintro e w4 ⟨rfl, hb4⟩
      have st4 := Lib.hid (st3.out.step hb4)
      clear hb4
      clear q0 q1' q2 q3 q4' q5' q6 q7 q8 q9 q10 q11 q12 q13 q14
      obtain ⟨q0, ⟨q1', q2⟩, q3, q4', ⟨q5', q6⟩, ⟨q7, q8⟩, ⟨q9, q10, q11⟩, q12, q13, q14⟩ := st4.out
      go_wp2_with fail
      cases hq : mulB C E
      all_goals
        go_quiet ((go_at_call 42; refine (num_Mul _ _ _).mono ?_; rintro e w' ⟨rfl, rfl⟩; exact ⟨rfl, _, rfl⟩))
        go_wp2_with fail
        rw [hq] at HO2
      · refine bodyPost_ret (v := .tuple #[.agg #[.int .i64 0, .int .i64 0], .bool false]) (by simp [results, Tryd.results14, go_sem, q5', q7]) rfl ?_
        rw [HO2.out, show ob = true from by simpa using ‹ob = true›]
        exact ⟨rfl, (by repeat (first | with_reducible exact Below.refl _ _ | with_reducible assumption | with_reducible refine below_drewN' ?_ _ | (with_reducible refine Below.setCell ?_ (by first | (simp; done) | (simp; omega)) _) | (with_reducible refine Below.alloc ?_ (by first | exact Nat.le_refl _ | (simp; done) | (simp; omega)) _)))⟩
      · refine bodyPost_ret (v := .tuple #[.agg #[.int .i64 0, .int .i64 0], .bool false]) (by simp [results, Tryd.results14, go_sem, q5', q7]) rfl ?_
        rw [HO2.out, show ob = false from by simpa using ‹¬ ob = true›]
        exact ⟨rfl, (by repeat (first | with_reducible exact Below.refl _ _ | with_reducible assumption | with_reducible refine below_drewN' ?_ _ | (with_reducible refine Below.setCell ?_ (by first | (simp; done) | (simp; omega)) _) | (with_reducible refine Below.alloc ?_ (by first | exact Nat.le_refl _ | (simp; done) | (simp; omega)) _)))⟩
      · refine bodyPost_ret (v := .tuple #[.agg #[.int .i64 ov, .int .i64 (mulV C E)], .bool true]) (by simp [results, Tryd.results14, go_sem, q5', q7]) rfl ?_
        rw [HO2.out, show ob = true from by simpa using ‹ob = true›]
        exact ⟨rfl, (by repeat (first | with_reducible exact Below.refl _ _ | with_reducible assumption | with_reducible refine below_drewN' ?_ _ | (with_reducible refine Below.setCell ?_ (by first | (simp; done) | (simp; omega)) _) | (with_reducible refine Below.alloc ?_ (by first | exact Nat.le_refl _ | (simp; done) | (simp; omega)) _)))⟩
      · refine bodyPost_ret (v := .tuple #[.agg #[.int .i64 0, .int .i64 0], .bool false]) (by simp [results, Tryd.results14, go_sem, q5', q7]) rfl ?_
        rw [HO2.out, show ob = false from by simpa using ‹¬ ob = true›]
        exact ⟨rfl, (by repeat (first | with_reducible exact Below.refl _ _ | with_reducible assumption | with_reducible refine below_drewN' ?_ _ | (with_reducible refine Below.setCell ?_ (by first | (simp; done) | (simp; omega)) _) | (with_reducible refine Below.alloc ?_ (by first | exact Nat.le_refl _ | (simp; done) | (simp; omega)) _)))⟩

set_option maxHeartbeats 1600000 in
theorem frac_Add_no (an ad bn bd : Int) (w : World) (h : validB an ad = false ∨ validB an ad = true ∧ validB bn bd = false) :
    Calls Tryd.prog 14 #[.agg #[.int .i64 an, .int .i64 ad], .agg #[.int .i64 bn, .int .i64 bd]] w (FracIs (addS an ad bn bd) w) := by
  have HO : Hid (addS an ad bn bd = (0, 0, false)) := by
    unfold addS
    rcases h with h | ⟨h, h'⟩
    · rw [h]; rfl
    · rw [h, h']; rfl
  rcases h with ha | ⟨ha, hb⟩
  all_goals
    go_enter Tryd.func14, Tryd.ntmps14
    go_wp2_with (go_at_call 11; refine (frac_Valid _ _ _).mono ?_; rintro e w' ⟨rfl, hbb⟩; obtain ⟨hc, hf⟩ := bcell hbb; have c0 : w'.cell? ⟨w.heap.size, 0, none⟩ = some (.int .i64 an) := (hc _ _ (by first | omega | (simp; done) | (simp; omega))).trans (by go_simp); have f0 : w'.frozen? ⟨w.heap.size, 0, none⟩ = false := (hf _ _ (by first | omega | (simp; done) | (simp; omega))).trans (by go_simp); have c1 : w'.cell? ⟨w.heap.size, 1, none⟩ = some (.int .i64 ad) := (hc _ _ (by first | omega | (simp; done) | (simp; omega))).trans (by go_simp); have f1 : w'.frozen? ⟨w.heap.size, 1, none⟩ = false := (hf _ _ (by first | omega | (simp; done) | (simp; omega))).trans (by go_simp); have c2 : w'.cell? ⟨w.heap.size + 1, 0, none⟩ = some (.int .i64 bn) := (hc _ _ (by first | omega | (simp; done) | (simp; omega))).trans (by go_simp); have f2 : w'.frozen? ⟨w.heap.size + 1, 0, none⟩ = false := (hf _ _ (by first | omega | (simp; done) | (simp; omega))).trans (by go_simp); have c3 : w'.cell? ⟨w.heap.size + 1, 1, none⟩ = some (.int .i64 bd) := (hc _ _ (by first | omega | (simp; done) | (simp; omega))).trans (by go_simp); have f3 : w'.frozen? ⟨w.heap.size + 1, 1, none⟩ = false := (hf _ _ (by first | omega | (simp; done) | (simp; omega))).trans (by go_simp); have c4 : w'.cell? ⟨w.heap.size + 1 + 1, 0, none⟩ = some (.int .i64 0) := (hc _ _ (by first | omega | (simp; done) | (simp; omega))).trans (by go_simp); have f4 : w'.frozen? ⟨w.heap.size + 1 + 1, 0, none⟩ = false := (hf _ _ (by first | omega | (simp; done) | (simp; omega))).trans (by go_simp); have c5 : w'.cell? ⟨w.heap.size + 1 + 1, 1, none⟩ = some (.int .i64 0) := (hc _ _ (by first | omega | (simp; done) | (simp; omega))).trans (by go_simp); have f5 : w'.frozen? ⟨w.heap.size + 1 + 1, 1, none⟩ = false := (hf _ _ (by first | omega | (simp; done) | (simp; omega))).trans (by go_simp); have hz : w.heap.size + 1 + 1 < w'.heap.size := (by have hs := hbb.size; first | omega | (simp at hs; done) | (simp at hs; omega)); have hbA : Below w.heap.size w w' := Below.trans (b := _) (by repeat (first | with_reducible exact Below.refl _ _ | with_reducible assumption | with_reducible refine below_drewN' ?_ _ | (with_reducible refine Below.setCell ?_ (by first | (simp; done) | (simp; omega)) _) | (with_reducible refine Below.alloc ?_ (by first | exact Nat.le_refl _ | (simp; done) | (simp; omega)) _))) (hbb.mono (by first | omega | (simp; done) | (simp; omega))); clear hc hf hbb)
    refine bodyPost_ret (v := .tuple #[.agg #[.int .i64 0, .int .i64 0], .bool false]) (by simp [results, Tryd.results14, go_sem, c4, c5]) rfl ?_
    rw [HO.out]
    exact ⟨rfl, (by repeat (first | with_reducible exact Below.refl _ _ | with_reducible assumption | with_reducible refine below_drewN' ?_ _ | (with_reducible refine Below.setCell ?_ (by first | (simp; done) | (simp; omega)) _) | (with_reducible refine Below.alloc ?_ (by first | exact Nat.le_refl _ | (simp; done) | (simp; omega)) _)))⟩

theorem frac_Add (an ad bn bd : Int) (w : World) (hZ0 : ZeroAt w) :
    Calls Tryd.prog 14 #[.agg #[.int .i64 an, .int .i64 ad], .agg #[.int .i64 bn, .int .i64 bd]] w (FracIs (addS an ad bn bd) w) := by
  cases ha : validB an ad
  · exact frac_Add_no _ _ _ _ w (.inl ha)
  · cases hb : validB bn bd
    · exact frac_Add_no _ _ _ _ w (.inr ⟨ha, hb⟩)
    · exact frac_Add_yes _ _ _ _ w hZ0 ha hb

end Go.Proofs.YtemmgehaddghfaaDoor
