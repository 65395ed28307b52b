/- PARTS OF THE WALKS, joined: FracL, FracM, Vd. -/
import Derived.Test.YtbjddimafilflaaGreatDoorP08
import Derived.Deep.RegionHeld3
import Derived.Test.YtbjddimafilflaaGreatDoorP07
/- THE WALKS over package frac: Add. -/
namespace Go.Proofs.YtbjddimafilflaaGreatDoor
open Go.RowKit
theorem below_drew' {B : Nat} {a w : World} (h : Below B a w) : Below B a w.drew := below_drewN' h 1
/-- a new box of three cells, still as it was made -/
def BoxAt (H : Nat) (a b c : Value) (V : World) : Prop := V.cell? ⟨H, 0, none⟩ = some a ∧ V.cell? ⟨H, 1, none⟩ = some b ∧ V.cell? ⟨H, 2, none⟩ = some c ∧ V.frozen? ⟨H, 0, none⟩ = false ∧ V.frozen? ⟨H, 1, none⟩ = false ∧ V.frozen? ⟨H, 2, none⟩ = false ∧ H < V.heap.size
/-- where the fraction 0 lies -/
def ZeroAt (w : World) : Prop := w.cell? ⟨0, 0, none⟩ = some (.int .i64 0) ∧ w.cell? ⟨0, 1, none⟩ = some (.int .i64 1) ∧ 0 < w.heap.size
theorem ZeroAt.below {w w' : World} (h : ZeroAt w) (hb : Below w.heap.size w w') : ZeroAt w' := by
  obtain ⟨h0, h1, hs⟩ := h
  obtain ⟨hc, hf⟩ := bcell hb
  have := hb.size
  exact ⟨(hc _ _ hs).trans h0, (hc _ _ hs).trans h1, by omega⟩
/-- what Add's frame holds behind its sum -/
def AddSt (w : World) (H : Nat) (ad bd : Int) (s : Bool) (h l : Int) (V : World) : Prop :=
  Below w.heap.size w V ∧ (w.heap.size + 1 + 1 < H ∧ H < V.heap.size) ∧ V.cell? ⟨w.heap.size, 1, none⟩ = some (.int .i64 ad) ∧ V.cell? ⟨w.heap.size + 1, 1, none⟩ = some (.int .i64 bd) ∧
  (V.cell? ⟨w.heap.size + 1 + 1, 0, none⟩ = some (.int .i64 0) ∧ V.frozen? ⟨w.heap.size + 1 + 1, 0, none⟩ = false) ∧ (V.cell? ⟨w.heap.size + 1 + 1, 1, none⟩ = some (.int .i64 0) ∧ V.frozen? ⟨w.heap.size + 1 + 1, 1, none⟩ = false) ∧
  (V.cell? ⟨H, 0, none⟩ = some (.bool s) ∧ V.cell? ⟨H, 1, none⟩ = some (.int .u64 h) ∧ V.cell? ⟨H, 2, none⟩ = some (.int .u64 l)) ∧
  (V.cell? ⟨0, 0, none⟩ = some (.int .i64 0) ∧ V.cell? ⟨0, 1, none⟩ = some (.int .i64 1) ∧ 0 < w.heap.size)
theorem AddSt.step {w : World} {H : Nat} {ad bd : Int} {s : Bool} {h l : Int} {V V' : World} (q : AddSt w H ad bd s h l V) (hb : Below V.heap.size V V') : AddSt w H ad bd s h l V' := by
  obtain ⟨q0, ⟨q1, q2⟩, q3, q4, ⟨q5, q6⟩, ⟨q7, q8⟩, ⟨q9, q10, q11⟩, q12, q13, q14⟩ := q
  obtain ⟨hc, hf⟩ := bcell hb
  have hs := hb.size
  exact ⟨below_step q0 hb, ⟨q1, by omega⟩, (hc _ _ (by omega)).trans q3, (hc _ _ (by omega)).trans q4, ⟨(hc _ _ (by omega)).trans q5, (hf _ _ (by omega)).trans q6⟩, ⟨(hc _ _ (by omega)).trans q7, (hf _ _ (by omega)).trans q8⟩, ⟨(hc _ _ (by omega)).trans q9, (hc _ _ (by omega)).trans q10, (hc _ _ (by omega)).trans q11⟩, (hc _ _ (by omega)).trans q12, (hc _ _ (by omega)).trans q13, q14⟩
theorem AddSt.start {w W wc : World} {H : Nat} {ad bd : Int} {s : Bool} {h l : Int} (hz : ZeroAt w) (hbB : Below w.heap.size w W) (hbX : Below (w.heap.size + 1 + 1 + 1) W wc)
    (d1 : W.cell? ⟨w.heap.size, 1, none⟩ = some (.int .i64 ad)) (d3 : W.cell? ⟨w.heap.size + 1, 1, none⟩ = some (.int .i64 bd))
    (d4 : W.cell? ⟨w.heap.size + 1 + 1, 0, none⟩ = some (.int .i64 0)) (g4 : W.frozen? ⟨w.heap.size + 1 + 1, 0, none⟩ = false)
    (d5 : W.cell? ⟨w.heap.size + 1 + 1, 1, none⟩ = some (.int .i64 0)) (g5 : W.frozen? ⟨w.heap.size + 1 + 1, 1, none⟩ = false)
    (hH : w.heap.size + 1 + 1 < H) (hbox : BoxAt H (.bool s) (.int .u64 h) (.int .u64 l) wc) : AddSt w H ad bd s h l wc := by
  have hc : ∀ b o, b < w.heap.size + 1 + 1 + 1 → wc.cell? ⟨b, o, none⟩ = W.cell? ⟨b, o, none⟩ := fun b o k => hbX.cell (p := ⟨b, o, none⟩) k
  have hf : ∀ b o, b < w.heap.size + 1 + 1 + 1 → wc.frozen? ⟨b, o, none⟩ = W.frozen? ⟨b, o, none⟩ := fun b o k => hbX.frozen (p := ⟨b, o, none⟩) k
  have hb : Below w.heap.size w wc := hbB.trans (hbX.mono (by omega))
  obtain ⟨x0, x1, x2, -, -, -, yh⟩ := hbox
  obtain ⟨z0, z1, z2⟩ := hz
  obtain ⟨hc0, -⟩ := bcell hb
  exact ⟨hb, ⟨hH, yh⟩, (hc _ _ (by omega)).trans d1, (hc _ _ (by omega)).trans d3, ⟨(hc _ _ (by omega)).trans d4, (hf _ _ (by omega)).trans g4⟩, ⟨(hc _ _ (by omega)).trans d5, (hf _ _ (by omega)).trans g5⟩, ⟨x0, x1, x2⟩, (hc0 _ _ z2).trans z0, (hc0 _ _ z2).trans z1, z2⟩
end Go.Proofs.YtbjddimafilflaaGreatDoor

/- THE WALKS over package frac: Sub, Cmp, Floor. -/
namespace Go.Proofs.YtbjddimafilflaaGreatDoor
open Go.RowKit
/-- the order -/
def fixN (n d : Int) : Int := if validB n d then n else 0
def fixD (n d : Int) : Int := if validB n d then d else 1
def cmpS (an ad bn bd : Int) : Int := sgn (fixN an ad * fixD bn bd - fixN bn bd * fixD an ad)
theorem fix_bounds (n d : Int) : (-1000000000000000 ≤ fixN n d ∧ fixN n d ≤ 1000000000000000) ∧ (-1000000000000000 ≤ fixD n d ∧ fixD n d ≤ 1000000000000000) := by
  unfold fixN fixD
  cases h : validB n d
  · simp
  · obtain ⟨h1, h2, h3, h4⟩ := validB_iff.1 h
    simp only [if_true]; omega
/-- what Cmp's frame holds behind its checks -/
def CmpSt (w : World) (A B C D : Int) (V : World) : Prop :=
  Below w.heap.size w V ∧ w.heap.size + 1 < V.heap.size ∧ V.cell? ⟨w.heap.size, 0, none⟩ = some (.int .i64 A) ∧ V.cell? ⟨w.heap.size, 1, none⟩ = some (.int .i64 B) ∧ V.cell? ⟨w.heap.size + 1, 0, none⟩ = some (.int .i64 C) ∧ V.cell? ⟨w.heap.size + 1, 1, none⟩ = some (.int .i64 D)
theorem CmpSt.step {w : World} {A B C D : Int} {V V' : World} (q : CmpSt w A B C D V) (hb : Below V.heap.size V V') : CmpSt w A B C D V' := by
  obtain ⟨q0, q1, q2, q3, q4, q5⟩ := q
  obtain ⟨hc, hf⟩ := bcell hb
  have hs := hb.size
  exact ⟨below_step q0 hb, by omega, (hc _ _ (by omega)).trans q2, (hc _ _ (by omega)).trans q3, (hc _ _ (by omega)).trans q4, (hc _ _ (by omega)).trans q5⟩
theorem CmpSt.conj {w : World} {A B C D : Int} {V : World} (q : CmpSt w A B C D V) : V.cell? ⟨w.heap.size, 0, none⟩ = some (.int .i64 A) ∧ V.cell? ⟨w.heap.size, 1, none⟩ = some (.int .i64 B) ∧ V.cell? ⟨w.heap.size + 1, 0, none⟩ = some (.int .i64 C) ∧ V.cell? ⟨w.heap.size + 1, 1, none⟩ = some (.int .i64 D) ∧ CmpSt w A B C D V :=
  ⟨q.2.2.1, q.2.2.2.1, q.2.2.2.2.1, q.2.2.2.2.2, q⟩
theorem CmpSt.drew {w : World} {A B C D : Int} {V : World} (q : CmpSt w A B C D V) : CmpSt w A B C D V.drew := q.step (below_drew' (Below.refl _ _))
theorem wval_product_neg (C B : Int) : wval (decide (0 < C) != decide (B < 0)) (C.natAbs * B.natAbs) = -C * B := by
  have h := wval_product (-C) B
  rw [Int.natAbs_neg] at h
  rw [show decide (0 < C) = decide (-C < 0) from decide_eq_decide.2 (by omega)]
  exact h
theorem fix_no {n d : Int} (h : validB n d = false) : fixN n d = 0 ∧ fixD n d = 1 := by unfold fixN fixD; rw [h]; exact ⟨rfl, rfl⟩
theorem fix_yes {n d : Int} (h : validB n d = true) : fixN n d = n ∧ fixD n d = d := by unfold fixN fixD; rw [h]; exact ⟨rfl, rfl⟩
set_option maxHeartbeats 3200000 in
theorem frac_Cmp (an ad bn bd : Int) (w : World) (hZ0 : ZeroAt w) :
    Calls Tryz.prog 107 #[.agg #[.int .i64 an, .int .i64 ad], .agg #[.int .i64 bn, .int .i64 bd]] w fun e w' => e = .returned (.int .i64 (cmpS an ad bn bd)) ∧ Below w.heap.size w w' := by
  obtain ⟨⟨x1, x2⟩, x3, x4⟩ := fix_bounds an ad
  obtain ⟨⟨y1, y2⟩, y3, y4⟩ := fix_bounds bn bd
  have HR : Hid (cmpS an ad bn bd = sgn (fixN an ad * fixD bn bd - fixN bn bd * fixD an ad)) := Lib.hid rfl
  generalize cmpS an ad bn bd = R at *
  obtain ⟨z0, z1, z2⟩ := hZ0
  obtain ⟨A, hA⟩ : ∃ A, Hid (fixN an ad = A) := ⟨_, rfl⟩
  obtain ⟨B, hB⟩ : ∃ B, Hid (fixD an ad = B) := ⟨_, rfl⟩
  obtain ⟨C, hC⟩ : ∃ C, Hid (fixN bn bd = C) := ⟨_, rfl⟩
  obtain ⟨D, hD⟩ : ∃ D, Hid (fixD bn bd = D) := ⟨_, rfl⟩
  rw [hA.out, hB.out, hC.out, hD.out] at HR
  rw [hA.out] at x1 x2
  rw [hB.out] at x3 x4
  rw [hC.out] at y1 y2
  rw [hD.out] at y3 y4
  have M1 := mul_lt_wide (a := A) (b := D) ⟨x1, x2⟩ ⟨y3, y4⟩
  have M2 := mul_lt_wide (a := -C) (b := B) ⟨by omega, by omega⟩ ⟨x3, x4⟩
  have hn0 : ¬ w.heap.size = 0 := by omega
  have hm0 : ¬ 0 = w.heap.size := by omega
  cases ha : validB an ad <;> cases hb : validB bn bd
  · have hSt : Hid (∀ V, CmpSt w 0 1 0 1 V → CmpSt w A B C D V) := by
      intro V hV
      rw [← hA.out, ← hB.out, ← hC.out, ← hD.out, (fix_no ha).1, (fix_no ha).2, (fix_no hb).1, (fix_no hb).2]
      exact hV
    go_enter Tryz.func107, Tryz.ntmps107
    go_wp2_with fail
    refine (frac_Valid _ _ _).mono ?_
    rintro e w' ⟨rfl, hbb⟩
    obtain ⟨hc, hf⟩ := bcell hbb
    have c0 : w'.cell? ⟨w.heap.size, 0, none⟩ = some (.int .i64 an) := (hc _ _ (by first | omega | (simp; done) | (simp; omega))).trans (by go_simp); have f0 : w'.frozen? ⟨w.heap.size, 0, none⟩ = false := (hf _ _ (by first | omega | (simp; done) | (simp; omega))).trans (by go_simp); have c1 : w'.cell? ⟨w.heap.size, 1, none⟩ = some (.int .i64 ad) := (hc _ _ (by first | omega | (simp; done) | (simp; omega))).trans (by go_simp); have f1 : w'.frozen? ⟨w.heap.size, 1, none⟩ = false := (hf _ _ (by first | omega | (simp; done) | (simp; omega))).trans (by go_simp); have c2 : w'.cell? ⟨w.heap.size + 1, 0, none⟩ = some (.int .i64 bn) := (hc _ _ (by first | omega | (simp; done) | (simp; omega))).trans (by go_simp); have f2 : w'.frozen? ⟨w.heap.size + 1, 0, none⟩ = false := (hf _ _ (by first | omega | (simp; done) | (simp; omega))).trans (by go_simp); have c3 : w'.cell? ⟨w.heap.size + 1, 1, none⟩ = some (.int .i64 bd) := (hc _ _ (by first | omega | (simp; done) | (simp; omega))).trans (by go_simp); have f3 : w'.frozen? ⟨w.heap.size + 1, 1, none⟩ = false := (hf _ _ (by first | omega | (simp; done) | (simp; omega))).trans (by go_simp); have k0 : w'.cell? ⟨0, 0, none⟩ = some (.int .i64 0) := (hc _ _ (by first | omega | (simp; done) | (simp; omega))).trans (by go_simp); have k1 : w'.cell? ⟨0, 1, none⟩ = some (.int .i64 1) := (hc _ _ (by first | omega | (simp; done) | (simp; omega))).trans (by go_simp); have hz : w.heap.size + 1 < w'.heap.size := (by have hs := hbb.size; first | omega | (simp at hs; done) | (simp at hs; omega)); have hbA : Below w.heap.size w w' := Below.trans (b := _) (by repeat (first | with_reducible exact Below.refl _ _ | with_reducible assumption | with_reducible refine below_drewN' ?_ _ | (with_reducible refine Below.setCell ?_ (by first | (simp; done) | (simp; omega)) _) | (with_reducible refine Below.alloc ?_ (by first | exact Nat.le_refl _ | (simp; done) | (simp; omega)) _))) (hbb.mono (by first | omega | (simp; done) | (simp; omega))); clear hc hf hbb
    go_wp2_with fail
    refine (frac_Valid _ _ _).mono ?_
    rintro e w' ⟨rfl, hbb⟩
    obtain ⟨hc, hf⟩ := bcell hbb
    have c0 : w'.cell? ⟨w.heap.size, 0, none⟩ = some (.int .i64 0) := (hc _ _ (by first | omega | (simp; done) | (simp; omega))).trans (by go_simp); have f0 : w'.frozen? ⟨w.heap.size, 0, none⟩ = false := (hf _ _ (by first | omega | (simp; done) | (simp; omega))).trans (by go_simp); have c1 : w'.cell? ⟨w.heap.size, 1, none⟩ = some (.int .i64 1) := (hc _ _ (by first | omega | (simp; done) | (simp; omega))).trans (by go_simp); have f1 : w'.frozen? ⟨w.heap.size, 1, none⟩ = false := (hf _ _ (by first | omega | (simp; done) | (simp; omega))).trans (by go_simp); have c2 : w'.cell? ⟨w.heap.size + 1, 0, none⟩ = some (.int .i64 bn) := (hc _ _ (by first | omega | (simp; done) | (simp; omega))).trans (by go_simp); have f2 : w'.frozen? ⟨w.heap.size + 1, 0, none⟩ = false := (hf _ _ (by first | omega | (simp; done) | (simp; omega))).trans (by go_simp); have c3 : w'.cell? ⟨w.heap.size + 1, 1, none⟩ = some (.int .i64 bd) := (hc _ _ (by first | omega | (simp; done) | (simp; omega))).trans (by go_simp); have f3 : w'.frozen? ⟨w.heap.size + 1, 1, none⟩ = false := (hf _ _ (by first | omega | (simp; done) | (simp; omega))).trans (by go_simp); have k0 : w'.cell? ⟨0, 0, none⟩ = some (.int .i64 0) := (hc _ _ (by first | omega | (simp; done) | (simp; omega))).trans (by go_simp); have k1 : w'.cell? ⟨0, 1, none⟩ = some (.int .i64 1) := (hc _ _ (by first | omega | (simp; done) | (simp; omega))).trans (by go_simp); have hz : w.heap.size + 1 < w'.heap.size := (by have hs := hbb.size; first | omega | (simp at hs; done) | (simp at hs; omega)); have hbA : Below w.heap.size w w' := Below.trans (b := _) (by repeat (first | with_reducible exact Below.refl _ _ | with_reducible assumption | with_reducible refine below_drewN' ?_ _ | (with_reducible refine Below.setCell ?_ (by first | (simp; done) | (simp; omega)) _) | (with_reducible refine Below.alloc ?_ (by first | exact Nat.le_refl _ | (simp; done) | (simp; omega)) _))) (hbb.mono (by first | omega | (simp; done) | (simp; omega))); clear hc hf hbb
    go_wp2_with fail
    refine forget_world (CmpSt w 0 1 0 1) ⟨(by repeat (first | with_reducible exact Below.refl _ _ | with_reducible assumption | with_reducible refine below_drewN' ?_ _ | (with_reducible refine Below.setCell ?_ (by first | (simp; done) | (simp; omega)) _) | (with_reducible refine Below.alloc ?_ (by first | exact Nat.le_refl _ | (simp; done) | (simp; omega)) _))), by first | (go_simp; done) | (simp; omega), by go_simp, by go_simp, by go_simp, by go_simp⟩ ?_
    clear c0 c1 c2 c3 f0 f1 f2 f3 k0 k1 hz hbA
    intro V hV
    have hV2 := hSt.out V hV
    clear hV hSt hA hB hC hD ha hb
    have J1 : IntKind.i64.wrap (-C) = -C := IntWalk.i64_in _ ⟨by omega, by omega⟩
    go_region_held3 (fun V => V.cell? ⟨w.heap.size, 0, none⟩ = some (.int .i64 A) ∧ V.cell? ⟨w.heap.size, 1, none⟩ = some (.int .i64 B) ∧ V.cell? ⟨w.heap.size + 1, 0, none⟩ = some (.int .i64 C) ∧ V.cell? ⟨w.heap.size + 1, 1, none⟩ = some (.int .i64 D) ∧ CmpSt w A B C D V) (first | exact (CmpSt.drew hV2).conj | exact CmpSt.conj (by assumption)) (first | (go_at_call 125; refine (frac_product _ _ _ ⟨by omega, by omega⟩ ⟨by omega, by omega⟩).mono ?_; rintro e w' ⟨h, l, rfl, HW, hbb⟩; have hst := CmpSt.step (‹_ ∧ _ ∧ _ ∧ _ ∧ CmpSt _ _ _ _ _ _›.2.2.2.2) hbb) | (go_at_call 126; refine Calls.mono (wide_plus (m1 := ?ma) (m2 := ?mb) _ _ _ _ _ _ _ (W1 := ?wa) (W2 := ?wb) ?wc) ?_; (case wa => assumption); (case wb => assumption); (case wc => exact Nat.lt_of_le_of_lt (Nat.add_le_add M1 M2) (by decide)); rintro e w' ⟨h, l, rfl, HP, hbb⟩; have hst := CmpSt.step (‹_ ∧ _ ∧ _ ∧ _ ∧ CmpSt _ _ _ _ _ _›.2.2.2.2) hbb) | (go_at_call 127; refine Calls.mono (wide_sign _ _ _ ?md _ ?wd) ?_; (case wd => assumption); rintro e w' ⟨rfl, hbb⟩; have hst := CmpSt.step (‹_ ∧ _ ∧ _ ∧ _ ∧ CmpSt _ _ _ _ _ _›.2.2.2.2) hbb))
    all_goals go_wp2_with fail
    all_goals go_ret
    all_goals refine ⟨ret_int ?_, (‹_ ∧ _ ∧ _ ∧ _ ∧ CmpSt _ _ _ _ _ _›.2.2.2.2).1⟩
    all_goals rw [HR.out, sgnW_sgn, wval_plus, wval_product, wval_product_neg]
    all_goals (congr 1; rw [Int.neg_mul]; omega)
  · have hSt : Hid (∀ V, CmpSt w 0 1 bn bd V → CmpSt w A B C D V) := by
      intro V hV
      rw [← hA.out, ← hB.out, ← hC.out, ← hD.out, (fix_no ha).1, (fix_no ha).2, (fix_yes hb).1, (fix_yes hb).2]
      exact hV
    go_enter Tryz.func107, Tryz.ntmps107
    go_wp2_with fail
    refine (frac_Valid _ _ _).mono ?_
    rintro e w' ⟨rfl, hbb⟩
    obtain ⟨hc, hf⟩ := bcell hbb
    have c0 : w'.cell? ⟨w.heap.size, 0, none⟩ = some (.int .i64 an) := (hc _ _ (by first | omega | (simp; done) | (simp; omega))).trans (by go_simp); have f0 : w'.frozen? ⟨w.heap.size, 0, none⟩ = false := (hf _ _ (by first | omega | (simp; done) | (simp; omega))).trans (by go_simp); have c1 : w'.cell? ⟨w.heap.size, 1, none⟩ = some (.int .i64 ad) := (hc _ _ (by first | omega | (simp; done) | (simp; omega))).trans (by go_simp); have f1 : w'.frozen? ⟨w.heap.size, 1, none⟩ = false := (hf _ _ (by first | omega | (simp; done) | (simp; omega))).trans (by go_simp); have c2 : w'.cell? ⟨w.heap.size + 1, 0, none⟩ = some (.int .i64 bn) := (hc _ _ (by first | omega | (simp; done) | (simp; omega))).trans (by go_simp); have f2 : w'.frozen? ⟨w.heap.size + 1, 0, none⟩ = false := (hf _ _ (by first | omega | (simp; done) | (simp; omega))).trans (by go_simp); have c3 : w'.cell? ⟨w.heap.size + 1, 1, none⟩ = some (.int .i64 bd) := (hc _ _ (by first | omega | (simp; done) | (simp; omega))).trans (by go_simp); have f3 : w'.frozen? ⟨w.heap.size + 1, 1, none⟩ = false := (hf _ _ (by first | omega | (simp; done) | (simp; omega))).trans (by go_simp); have k0 : w'.cell? ⟨0, 0, none⟩ = some (.int .i64 0) := (hc _ _ (by first | omega | (simp; done) | (simp; omega))).trans (by go_simp); have k1 : w'.cell? ⟨0, 1, none⟩ = some (.int .i64 1) := (hc _ _ (by first | omega | (simp; done) | (simp; omega))).trans (by go_simp); have hz : w.heap.size + 1 < w'.heap.size := (by have hs := hbb.size; first | omega | (simp at hs; done) | (simp at hs; omega)); have hbA : Below w.heap.size w w' := Below.trans (b := _) (by repeat (first | with_reducible exact Below.refl _ _ | with_reducible assumption | with_reducible refine below_drewN' ?_ _ | (with_reducible refine Below.setCell ?_ (by first | (simp; done) | (simp; omega)) _) | (with_reducible refine Below.alloc ?_ (by first | exact Nat.le_refl _ | (simp; done) | (simp; omega)) _))) (hbb.mono (by first | omega | (simp; done) | (simp; omega))); clear hc hf hbb
    go_wp2_with fail
    refine (frac_Valid _ _ _).mono ?_
    rintro e w' ⟨rfl, hbb⟩
    obtain ⟨hc, hf⟩ := bcell hbb
    have c0 : w'.cell? ⟨w.heap.size, 0, none⟩ = some (.int .i64 0) := (hc _ _ (by first | omega | (simp; done) | (simp; omega))).trans (by go_simp); have f0 : w'.frozen? ⟨w.heap.size, 0, none⟩ = false := (hf _ _ (by first | omega | (simp; done) | (simp; omega))).trans (by go_simp); have c1 : w'.cell? ⟨w.heap.size, 1, none⟩ = some (.int .i64 1) := (hc _ _ (by first | omega | (simp; done) | (simp; omega))).trans (by go_simp); have f1 : w'.frozen? ⟨w.heap.size, 1, none⟩ = false := (hf _ _ (by first | omega | (simp; done) | (simp; omega))).trans (by go_simp); have c2 : w'.cell? ⟨w.heap.size + 1, 0, none⟩ = some (.int .i64 bn) := (hc _ _ (by first | omega | (simp; done) | (simp; omega))).trans (by go_simp); have f2 : w'.frozen? ⟨w.heap.size + 1, 0, none⟩ = false := (hf _ _ (by first | omega | (simp; done) | (simp; omega))).trans (by go_simp); have c3 : w'.cell? ⟨w.heap.size + 1, 1, none⟩ = some (.int .i64 bd) := (hc _ _ (by first | omega | (simp; done) | (simp; omega))).trans (by go_simp); have f3 : w'.frozen? ⟨w.heap.size + 1, 1, none⟩ = false := (hf _ _ (by first | omega | (simp; done) | (simp; omega))).trans (by go_simp); have k0 : w'.cell? ⟨0, 0, none⟩ = some (.int .i64 0) := (hc _ _ (by first | omega | (simp; done) | (simp; omega))).trans (by go_simp); have k1 : w'.cell? ⟨0, 1, none⟩ = some (.int .i64 1) := (hc _ _ (by first | omega | (simp; done) | (simp; omega))).trans (by go_simp); have hz : w.heap.size + 1 < w'.heap.size := (by have hs := hbb.size; first | omega | (simp at hs; done) | (simp at hs; omega)); have hbA : Below w.heap.size w w' := Below.trans (b := _) (by repeat (first | with_reducible exact Below.refl _ _ | with_reducible assumption | with_reducible refine below_drewN' ?_ _ | (with_reducible refine Below.setCell ?_ (by first | (simp; done) | (simp; omega)) _) | (with_reducible refine Below.alloc ?_ (by first | exact Nat.le_refl _ | (simp; done) | (simp; omega)) _))) (hbb.mono (by first | omega | (simp; done) | (simp; omega))); clear hc hf hbb
    go_wp2_with fail
    refine forget_world (CmpSt w 0 1 bn bd) ⟨(by repeat (first | with_reducible exact Below.refl _ _ | with_reducible assumption | with_reducible refine below_drewN' ?_ _ | (with_reducible refine Below.setCell ?_ (by first | (simp; done) | (simp; omega)) _) | (with_reducible refine Below.alloc ?_ (by first | exact Nat.le_refl _ | (simp; done) | (simp; omega)) _))), by first | (go_simp; done) | (simp; omega), by go_simp, by go_simp, by go_simp, by go_simp⟩ ?_
    clear c0 c1 c2 c3 f0 f1 f2 f3 k0 k1 hz hbA
    intro V hV
    have hV2 := hSt.out V hV
    clear hV hSt hA hB hC hD ha hb
    have J1 : IntKind.i64.wrap (-C) = -C := IntWalk.i64_in _ ⟨by omega, by omega⟩
    go_region_held3 (fun V => V.cell? ⟨w.heap.size, 0, none⟩ = some (.int .i64 A) ∧ V.cell? ⟨w.heap.size, 1, none⟩ = some (.int .i64 B) ∧ V.cell? ⟨w.heap.size + 1, 0, none⟩ = some (.int .i64 C) ∧ V.cell? ⟨w.heap.size + 1, 1, none⟩ = some (.int .i64 D) ∧ CmpSt w A B C D V) (first | exact (CmpSt.drew hV2).conj | exact CmpSt.conj (by assumption)) (first | (go_at_call 125; refine (frac_product _ _ _ ⟨by omega, by omega⟩ ⟨by omega, by omega⟩).mono ?_; rintro e w' ⟨h, l, rfl, HW, hbb⟩; have hst := CmpSt.step (‹_ ∧ _ ∧ _ ∧ _ ∧ CmpSt _ _ _ _ _ _›.2.2.2.2) hbb) | (go_at_call 126; refine Calls.mono (wide_plus (m1 := ?ma) (m2 := ?mb) _ _ _ _ _ _ _ (W1 := ?wa) (W2 := ?wb) ?wc) ?_; (case wa => assumption); (case wb => assumption); (case wc => exact Nat.lt_of_le_of_lt (Nat.add_le_add M1 M2) (by decide)); rintro e w' ⟨h, l, rfl, HP, hbb⟩; have hst := CmpSt.step (‹_ ∧ _ ∧ _ ∧ _ ∧ CmpSt _ _ _ _ _ _›.2.2.2.2) hbb) | (go_at_call 127; refine Calls.mono (wide_sign _ _ _ ?md _ ?wd) ?_; (case wd => assumption); rintro e w' ⟨rfl, hbb⟩; have hst := CmpSt.step (‹_ ∧ _ ∧ _ ∧ _ ∧ CmpSt _ _ _ _ _ _›.2.2.2.2) hbb))
    all_goals go_wp2_with fail
    all_goals go_ret
    all_goals refine ⟨ret_int ?_, (‹_ ∧ _ ∧ _ ∧ _ ∧ CmpSt _ _ _ _ _ _›.2.2.2.2).1⟩
    all_goals rw [HR.out, sgnW_sgn, wval_plus, wval_product, wval_product_neg]
    all_goals (congr 1; rw [Int.neg_mul]; omega)
  · have hSt : Hid (∀ V, CmpSt w an ad 0 1 V → CmpSt w A B C D V) := by
      intro V hV
      rw [← hA.out, ← hB.out, ← hC.out, ← hD.out, (fix_yes ha).1, (fix_yes ha).2, (fix_no hb).1, (fix_no hb).2]
      exact hV
    go_enter Tryz.func107, Tryz.ntmps107
    go_wp2_with fail
    refine (frac_Valid _ _ _).mono ?_
    rintro e w' ⟨rfl, hbb⟩
    obtain ⟨hc, hf⟩ := bcell hbb
    have c0 : w'.cell? ⟨w.heap.size, 0, none⟩ = some (.int .i64 an) := (hc _ _ (by first | omega | (simp; done) | (simp; omega))).trans (by go_simp); have f0 : w'.frozen? ⟨w.heap.size, 0, none⟩ = false := (hf _ _ (by first | omega | (simp; done) | (simp; omega))).trans (by go_simp); have c1 : w'.cell? ⟨w.heap.size, 1, none⟩ = some (.int .i64 ad) := (hc _ _ (by first | omega | (simp; done) | (simp; omega))).trans (by go_simp); have f1 : w'.frozen? ⟨w.heap.size, 1, none⟩ = false := (hf _ _ (by first | omega | (simp; done) | (simp; omega))).trans (by go_simp); have c2 : w'.cell? ⟨w.heap.size + 1, 0, none⟩ = some (.int .i64 bn) := (hc _ _ (by first | omega | (simp; done) | (simp; omega))).trans (by go_simp); have f2 : w'.frozen? ⟨w.heap.size + 1, 0, none⟩ = false := (hf _ _ (by first | omega | (simp; done) | (simp; omega))).trans (by go_simp); have c3 : w'.cell? ⟨w.heap.size + 1, 1, none⟩ = some (.int .i64 bd) := (hc _ _ (by first | omega | (simp; done) | (simp; omega))).trans (by go_simp); have f3 : w'.frozen? ⟨w.heap.size + 1, 1, none⟩ = false := (hf _ _ (by first | omega | (simp; done) | (simp; omega))).trans (by go_simp); have k0 : w'.cell? ⟨0, 0, none⟩ = some (.int .i64 0) := (hc _ _ (by first | omega | (simp; done) | (simp; omega))).trans (by go_simp); have k1 : w'.cell? ⟨0, 1, none⟩ = some (.int .i64 1) := (hc _ _ (by first | omega | (simp; done) | (simp; omega))).trans (by go_simp); have hz : w.heap.size + 1 < w'.heap.size := (by have hs := hbb.size; first | omega | (simp at hs; done) | (simp at hs; omega)); have hbA : Below w.heap.size w w' := Below.trans (b := _) (by repeat (first | with_reducible exact Below.refl _ _ | with_reducible assumption | with_reducible refine below_drewN' ?_ _ | (with_reducible refine Below.setCell ?_ (by first | (simp; done) | (simp; omega)) _) | (with_reducible refine Below.alloc ?_ (by first | exact Nat.le_refl _ | (simp; done) | (simp; omega)) _))) (hbb.mono (by first | omega | (simp; done) | (simp; omega))); clear hc hf hbb
    go_wp2_with fail
    refine (frac_Valid _ _ _).mono ?_
    rintro e w' ⟨rfl, hbb⟩
    obtain ⟨hc, hf⟩ := bcell hbb
    have c0 : w'.cell? ⟨w.heap.size, 0, none⟩ = some (.int .i64 an) := (hc _ _ (by first | omega | (simp; done) | (simp; omega))).trans (by go_simp); have f0 : w'.frozen? ⟨w.heap.size, 0, none⟩ = false := (hf _ _ (by first | omega | (simp; done) | (simp; omega))).trans (by go_simp); have c1 : w'.cell? ⟨w.heap.size, 1, none⟩ = some (.int .i64 ad) := (hc _ _ (by first | omega | (simp; done) | (simp; omega))).trans (by go_simp); have f1 : w'.frozen? ⟨w.heap.size, 1, none⟩ = false := (hf _ _ (by first | omega | (simp; done) | (simp; omega))).trans (by go_simp); have c2 : w'.cell? ⟨w.heap.size + 1, 0, none⟩ = some (.int .i64 bn) := (hc _ _ (by first | omega | (simp; done) | (simp; omega))).trans (by go_simp); have f2 : w'.frozen? ⟨w.heap.size + 1, 0, none⟩ = false := (hf _ _ (by first | omega | (simp; done) | (simp; omega))).trans (by go_simp); have c3 : w'.cell? ⟨w.heap.size + 1, 1, none⟩ = some (.int .i64 bd) := (hc _ _ (by first | omega | (simp; done) | (simp; omega))).trans (by go_simp); have f3 : w'.frozen? ⟨w.heap.size + 1, 1, none⟩ = false := (hf _ _ (by first | omega | (simp; done) | (simp; omega))).trans (by go_simp); have k0 : w'.cell? ⟨0, 0, none⟩ = some (.int .i64 0) := (hc _ _ (by first | omega | (simp; done) | (simp; omega))).trans (by go_simp); have k1 : w'.cell? ⟨0, 1, none⟩ = some (.int .i64 1) := (hc _ _ (by first | omega | (simp; done) | (simp; omega))).trans (by go_simp); have hz : w.heap.size + 1 < w'.heap.size := (by have hs := hbb.size; first | omega | (simp at hs; done) | (simp at hs; omega)); have hbA : Below w.heap.size w w' := Below.trans (b := _) (by repeat (first | with_reducible exact Below.refl _ _ | with_reducible assumption | with_reducible refine below_drewN' ?_ _ | (with_reducible refine Below.setCell ?_ (by first | (simp; done) | (simp; omega)) _) | (with_reducible refine Below.alloc ?_ (by first | exact Nat.le_refl _ | (simp; done) | (simp; omega)) _))) (hbb.mono (by first | omega | (simp; done) | (simp; omega))); clear hc hf hbb
    go_wp2_with fail
    refine forget_world (CmpSt w an ad 0 1) ⟨(by repeat (first | with_reducible exact Below.refl _ _ | with_reducible assumption | with_reducible refine below_drewN' ?_ _ | (with_reducible refine Below.setCell ?_ (by first | (simp; done) | (simp; omega)) _) | (with_reducible refine Below.alloc ?_ (by first | exact Nat.le_refl _ | (simp; done) | (simp; omega)) _))), by first | (go_simp; done) | (simp; omega), by go_simp, by go_simp, by go_simp, by go_simp⟩ ?_
    clear c0 c1 c2 c3 f0 f1 f2 f3 k0 k1 hz hbA
    intro V hV
    have hV2 := hSt.out V hV
    clear hV hSt hA hB hC hD ha hb
    have J1 : IntKind.i64.wrap (-C) = -C := IntWalk.i64_in _ ⟨by omega, by omega⟩
    go_region_held3 (fun V => V.cell? ⟨w.heap.size, 0, none⟩ = some (.int .i64 A) ∧ V.cell? ⟨w.heap.size, 1, none⟩ = some (.int .i64 B) ∧ V.cell? ⟨w.heap.size + 1, 0, none⟩ = some (.int .i64 C) ∧ V.cell? ⟨w.heap.size + 1, 1, none⟩ = some (.int .i64 D) ∧ CmpSt w A B C D V) (first | exact (CmpSt.drew hV2).conj | exact CmpSt.conj (by assumption)) (first | (go_at_call 125; refine (frac_product _ _ _ ⟨by omega, by omega⟩ ⟨by omega, by omega⟩).mono ?_; rintro e w' ⟨h, l, rfl, HW, hbb⟩; have hst := CmpSt.step (‹_ ∧ _ ∧ _ ∧ _ ∧ CmpSt _ _ _ _ _ _›.2.2.2.2) hbb) | (go_at_call 126; refine Calls.mono (wide_plus (m1 := ?ma) (m2 := ?mb) _ _ _ _ _ _ _ (W1 := ?wa) (W2 := ?wb) ?wc) ?_; (case wa => assumption); (case wb => assumption); (case wc => exact Nat.lt_of_le_of_lt (Nat.add_le_add M1 M2) (by decide)); rintro e w' ⟨h, l, rfl, HP, hbb⟩; have hst := CmpSt.step (‹_ ∧ _ ∧ _ ∧ _ ∧ CmpSt _ _ _ _ _ _›.2.2.2.2) hbb) | (go_at_call 127; refine Calls.mono (wide_sign _ _ _ ?md _ ?wd) ?_; (case wd => assumption); rintro e w' ⟨rfl, hbb⟩; have hst := CmpSt.step (‹_ ∧ _ ∧ _ ∧ _ ∧ CmpSt _ _ _ _ _ _›.2.2.2.2) hbb))
    all_goals go_wp2_with fail
    all_goals go_ret
    all_goals refine ⟨ret_int ?_, (‹_ ∧ _ ∧ _ ∧ _ ∧ CmpSt _ _ _ _ _ _›.2.2.2.2).1⟩
    all_goals rw [HR.out, sgnW_sgn, wval_plus, wval_product, wval_product_neg]
    all_goals (congr 1; rw [Int.neg_mul]; omega)
  · have hSt : Hid (∀ V, CmpSt w an ad bn bd V → CmpSt w A B C D V) := by
      intro V hV
      rw [← hA.out, ← hB.out, ← hC.out, ← hD.out, (fix_yes ha).1, (fix_yes ha).2, (fix_yes hb).1, (fix_yes hb).2]
      exact hV
    go_enter Tryz.func107, Tryz.ntmps107
    go_wp2_with fail
    refine (frac_Valid _ _ _).mono ?_
    rintro e w' ⟨rfl, hbb⟩
    obtain ⟨hc, hf⟩ := bcell hbb
    have c0 : w'.cell? ⟨w.heap.size, 0, none⟩ = some (.int .i64 an) := (hc _ _ (by first | omega | (simp; done) | (simp; omega))).trans (by go_simp); have f0 : w'.frozen? ⟨w.heap.size, 0, none⟩ = false := (hf _ _ (by first | omega | (simp; done) | (simp; omega))).trans (by go_simp); have c1 : w'.cell? ⟨w.heap.size, 1, none⟩ = some (.int .i64 ad) := (hc _ _ (by first | omega | (simp; done) | (simp; omega))).trans (by go_simp); have f1 : w'.frozen? ⟨w.heap.size, 1, none⟩ = false := (hf _ _ (by first | omega | (simp; done) | (simp; omega))).trans (by go_simp); have c2 : w'.cell? ⟨w.heap.size + 1, 0, none⟩ = some (.int .i64 bn) := (hc _ _ (by first | omega | (simp; done) | (simp; omega))).trans (by go_simp); have f2 : w'.frozen? ⟨w.heap.size + 1, 0, none⟩ = false := (hf _ _ (by first | omega | (simp; done) | (simp; omega))).trans (by go_simp); have c3 : w'.cell? ⟨w.heap.size + 1, 1, none⟩ = some (.int .i64 bd) := (hc _ _ (by first | omega | (simp; done) | (simp; omega))).trans (by go_simp); have f3 : w'.frozen? ⟨w.heap.size + 1, 1, none⟩ = false := (hf _ _ (by first | omega | (simp; done) | (simp; omega))).trans (by go_simp); have k0 : w'.cell? ⟨0, 0, none⟩ = some (.int .i64 0) := (hc _ _ (by first | omega | (simp; done) | (simp; omega))).trans (by go_simp); have k1 : w'.cell? ⟨0, 1, none⟩ = some (.int .i64 1) := (hc _ _ (by first | omega | (simp; done) | (simp; omega))).trans (by go_simp); have hz : w.heap.size + 1 < w'.heap.size := (by have hs := hbb.size; first | omega | (simp at hs; done) | (simp at hs; omega)); have hbA : Below w.heap.size w w' := Below.trans (b := _) (by repeat (first | with_reducible exact Below.refl _ _ | with_reducible assumption | with_reducible refine below_drewN' ?_ _ | (with_reducible refine Below.setCell ?_ (by first | (simp; done) | (simp; omega)) _) | (with_reducible refine Below.alloc ?_ (by first | exact Nat.le_refl _ | (simp; done) | (simp; omega)) _))) (hbb.mono (by first | omega | (simp; done) | (simp; omega))); clear hc hf hbb
    go_wp2_with fail
    refine (frac_Valid _ _ _).mono ?_
    rintro e w' ⟨rfl, hbb⟩
    obtain ⟨hc, hf⟩ := bcell hbb
    have c0 : w'.cell? ⟨w.heap.size, 0, none⟩ = some (.int .i64 an) := (hc _ _ (by first | omega | (simp; done) | (simp; omega))).trans (by go_simp); have f0 : w'.frozen? ⟨w.heap.size, 0, none⟩ = false := (hf _ _ (by first | omega | (simp; done) | (simp; omega))).trans (by go_simp); have c1 : w'.cell? ⟨w.heap.size, 1, none⟩ = some (.int .i64 ad) := (hc _ _ (by first | omega | (simp; done) | (simp; omega))).trans (by go_simp); have f1 : w'.frozen? ⟨w.heap.size, 1, none⟩ = false := (hf _ _ (by first | omega | (simp; done) | (simp; omega))).trans (by go_simp); have c2 : w'.cell? ⟨w.heap.size + 1, 0, none⟩ = some (.int .i64 bn) := (hc _ _ (by first | omega | (simp; done) | (simp; omega))).trans (by go_simp); have f2 : w'.frozen? ⟨w.heap.size + 1, 0, none⟩ = false := (hf _ _ (by first | omega | (simp; done) | (simp; omega))).trans (by go_simp); have c3 : w'.cell? ⟨w.heap.size + 1, 1, none⟩ = some (.int .i64 bd) := (hc _ _ (by first | omega | (simp; done) | (simp; omega))).trans (by go_simp); have f3 : w'.frozen? ⟨w.heap.size + 1, 1, none⟩ = false := (hf _ _ (by first | omega | (simp; done) | (simp; omega))).trans (by go_simp); have k0 : w'.cell? ⟨0, 0, none⟩ = some (.int .i64 0) := (hc _ _ (by first | omega | (simp; done) | (simp; omega))).trans (by go_simp); have k1 : w'.cell? ⟨0, 1, none⟩ = some (.int .i64 1) := (hc _ _ (by first | omega | (simp; done) | (simp; omega))).trans (by go_simp); have hz : w.heap.size + 1 < w'.heap.size := (by have hs := hbb.size; first | omega | (simp at hs; done) | (simp at hs; omega)); have hbA : Below w.heap.size w w' := Below.trans (b := _) (by repeat (first | with_reducible exact Below.refl _ _ | with_reducible assumption | with_reducible refine below_drewN' ?_ _ | (with_reducible refine Below.setCell ?_ (by first | (simp; done) | (simp; omega)) _) | (with_reducible refine Below.alloc ?_ (by first | exact Nat.le_refl _ | (simp; done) | (simp; omega)) _))) (hbb.mono (by first | omega | (simp; done) | (simp; omega))); clear hc hf hbb
    go_wp2_with fail
    refine forget_world (CmpSt w an ad bn bd) ⟨(by repeat (first | with_reducible exact Below.refl _ _ | with_reducible assumption | with_reducible refine below_drewN' ?_ _ | (with_reducible refine Below.setCell ?_ (by first | (simp; done) | (simp; omega)) _) | (with_reducible refine Below.alloc ?_ (by first | exact Nat.le_refl _ | (simp; done) | (simp; omega)) _))), by first | (go_simp; done) | (simp; omega), by go_simp, by go_simp, by go_simp, by go_simp⟩ ?_
    clear c0 c1 c2 c3 f0 f1 f2 f3 k0 k1 hz hbA
    intro V hV
    have hV2 := hSt.out V hV
    clear hV hSt hA hB hC hD ha hb
    have J1 : IntKind.i64.wrap (-C) = -C := IntWalk.i64_in _ ⟨by omega, by omega⟩
    go_region_held3 (fun V => V.cell? ⟨w.heap.size, 0, none⟩ = some (.int .i64 A) ∧ V.cell? ⟨w.heap.size, 1, none⟩ = some (.int .i64 B) ∧ V.cell? ⟨w.heap.size + 1, 0, none⟩ = some (.int .i64 C) ∧ V.cell? ⟨w.heap.size + 1, 1, none⟩ = some (.int .i64 D) ∧ CmpSt w A B C D V) (first | exact (CmpSt.drew hV2).conj | exact CmpSt.conj (by assumption)) (first | (go_at_call 125; refine (frac_product _ _ _ ⟨by omega, by omega⟩ ⟨by omega, by omega⟩).mono ?_; rintro e w' ⟨h, l, rfl, HW, hbb⟩; have hst := CmpSt.step (‹_ ∧ _ ∧ _ ∧ _ ∧ CmpSt _ _ _ _ _ _›.2.2.2.2) hbb) | (go_at_call 126; refine Calls.mono (wide_plus (m1 := ?ma) (m2 := ?mb) _ _ _ _ _ _ _ (W1 := ?wa) (W2 := ?wb) ?wc) ?_; (case wa => assumption); (case wb => assumption); (case wc => exact Nat.lt_of_le_of_lt (Nat.add_le_add M1 M2) (by decide)); rintro e w' ⟨h, l, rfl, HP, hbb⟩; have hst := CmpSt.step (‹_ ∧ _ ∧ _ ∧ _ ∧ CmpSt _ _ _ _ _ _›.2.2.2.2) hbb) | (go_at_call 127; refine Calls.mono (wide_sign _ _ _ ?md _ ?wd) ?_; (case wd => assumption); rintro e w' ⟨rfl, hbb⟩; have hst := CmpSt.step (‹_ ∧ _ ∧ _ ∧ _ ∧ CmpSt _ _ _ _ _ _›.2.2.2.2) hbb))
    all_goals go_wp2_with fail
    all_goals go_ret
    all_goals refine ⟨ret_int ?_, (‹_ ∧ _ ∧ _ ∧ _ ∧ CmpSt _ _ _ _ _ _›.2.2.2.2).1⟩
    all_goals rw [HR.out, sgnW_sgn, wval_plus, wval_product, wval_product_neg]
    all_goals (congr 1; rw [Int.neg_mul]; omega)
end Go.Proofs.YtbjddimafilflaaGreatDoor

/- THE WALKS over value.class and value.Number; two values in boxes. -/
namespace Go.Proofs.YtbjddimafilflaaGreatDoor
open Go.RowKit
theorem ZeroAt.ext {w w' : World} (h : ZeroAt w) (e : Ext w w') : ZeroAt w' := h.below e
theorem v_class (v : Val) (A : Option Addr) (c : Nat) (w : World) : Calls Tryz.prog 105 #[.agg #[.int .i64 v.kind, .int .i64 v.n, .int .i64 v.d, .string v.s, .slice A v.l.length c]] w fun e w' => e = .returned (.int .i64 (cls v.kind)) ∧ Ext w w' := by
  by_cases h3 : v.kind = 3
  · have HF := Lib.hid (show cls v.kind = 2 by unfold cls; rw [if_pos h3])
    go_enter Tryz.func105, Tryz.ntmps105
    go_wp2
    go_ret
    exact ⟨ret_i64 HF.out.symm, (Ext.refl _).alloc _⟩
  · by_cases h7 : v.kind = 7
    · have HF := Lib.hid (show cls v.kind = 9 by unfold cls; rw [if_neg h3, if_pos h7])
      go_enter Tryz.func105, Tryz.ntmps105
      go_wp2
      go_ret
      exact ⟨ret_i64 HF.out.symm, (Ext.refl _).alloc _⟩
    · have HF := Lib.hid (show cls v.kind = v.kind by unfold cls; rw [if_neg h3, if_neg h7])
      go_enter Tryz.func105, Tryz.ntmps105
      go_wp2
      go_ret
      exact ⟨ret_i64 HF.out.symm, (Ext.refl _).alloc _⟩
set_option maxRecDepth 100000 in
set_option maxHeartbeats 1600000 in
theorem v_Number (v : Val) (ok : Nat → Prop) (A : Option Addr) (c : Nat) (w : World) (hv : Vals w ok A v.l) (hV : validV v = true) (hk : v.kind = 2 ∨ v.kind = 3) :
    Calls Tryz.prog 106 #[.agg #[.int .i64 v.kind, .int .i64 v.n, .int .i64 v.d, .string v.s, .slice A v.l.length c]] w fun e w' => e = .returned (.tuple #[.agg #[.int .i64 v.n, .int .i64 (dnV v.kind v.d)], .bool true]) ∧ Ext w w' := by
  obtain ⟨g, w1, hg, hw1, ⟨c0, c1, c2, c3, c4⟩, hx, -⟩ := box5 w v.kind v.n v.d v.s A v.l.length c 40
  have hz : g < w1.heap.size := block_lt_of_cell c0
  obtain ⟨w2, hw2, hx2⟩ : ∃ w2, w2 = w1.alloc (.cells #[.int .i64 0, .int .i64 0] 94) ∧ Ext w1 w2 := ⟨_, rfl, (Ext.refl _).alloc _⟩
  have C := v_Valid v ok A c w2 (hv.ext (hx.trans hx2))
  rw [hV] at C
  have HC := Lib.hid C
  have HB := Lib.hid (show w2.heap[w1.heap.size]? = some (.cells #[.int .i64 0, .int .i64 0] 94) by rw [hw2]; exact heap_alloc_new _ _)
  obtain ⟨g2, hg2⟩ : ∃ g2, g2 = w1.heap.size := ⟨_, rfl⟩
  rw [← hg2] at HB
  have hle : w1.heap.size ≤ g2 := by omega
  have HW1 := Lib.hid hw1
  have HW2 := Lib.hid hw2
  have HG := Lib.hid hg
  have HG2 := Lib.hid (show g2 = w.heap.size + 1 by rw [hg2, hw1]; go_simp)
  replace c0 := hx2.cell c0
  replace c1 := hx2.cell c1
  replace c2 := hx2.cell c2
  replace c3 := hx2.cell c3
  replace c4 := hx2.cell c4
  clear hw1 hw2 hg hv hV C hg2
  go_enter Tryz.func106, Tryz.ntmps106
  go_upto_region 1 with (fail)
  rw [← HW1.out, ← HW2.out, ← HG2.out, ← HG.out]
  clear HW1 HG HW2 HG2
  have Hc0 := Lib.hid c0
  have Hc1 := Lib.hid c1
  have Hc2 := Lib.hid c2
  rcases hk with hk | hk
  · rw [hk] at c0
    have hC0 := HC.out
    rw [hk] at hC0
    replace HC := Lib.hid hC0
    clear hC0
    have HD := Lib.hid (show dnV v.kind v.d = 1 by unfold dnV; rw [hk]; rfl)
    clear hk Hc0
    go_wp2_with fail
    refine (HC.out).mono ?_
    rintro e w3 ⟨rfl, hE⟩
    have hb1 := hE.heap HB.out
    replace c0 := hE.cell c0
    replace c1 := hE.cell c1
    replace c2 := hE.cell c2
    have f0 : w3.frozen? ⟨g2, 0, none⟩ = false := by simp [World.frozen?, hb1]
    have f1 : w3.frozen? ⟨g2, 1, none⟩ = false := by simp [World.frozen?, hb1]
    have e0 : w3.cell? ⟨g2, 0, none⟩ = some (.int .i64 0) := by rw [cell_of_row w3 g2 0 _ _ _ hb1]; rfl
    have e1 : w3.cell? ⟨g2, 1, none⟩ = some (.int .i64 0) := by rw [cell_of_row w3 g2 1 _ _ _ hb1]; rfl
    clear hb1 HB HC c3 c4 Hc1 Hc2
    go_wp2_with fail
    rw [HD.out]
    have hle2 : w.heap.size ≤ g2 := Nat.le_trans hx.le hle
    exact bodyPost_ret (v := .tuple #[.agg #[.int .i64 v.n, .int .i64 1], .bool true]) (by simp [results, Tryz.results106, go_sem, e0, e1]) rfl ⟨rfl, (hx.trans (hx2.trans hE)).setCell hle2 _ |>.setCell hle2 _⟩
  · rw [hk] at c0
    have hC0 := HC.out
    rw [hk] at hC0
    replace HC := Lib.hid hC0
    clear hC0
    have HD := Lib.hid (show dnV v.kind v.d = v.d by unfold dnV; rw [hk]; rfl)
    clear hk Hc0
    go_wp2_with fail
    refine (HC.out).mono ?_
    rintro e w3 ⟨rfl, hE⟩
    have hb1 := hE.heap HB.out
    replace c0 := hE.cell c0
    replace c1 := hE.cell c1
    replace c2 := hE.cell c2
    have f0 : w3.frozen? ⟨g2, 0, none⟩ = false := by simp [World.frozen?, hb1]
    have f1 : w3.frozen? ⟨g2, 1, none⟩ = false := by simp [World.frozen?, hb1]
    have e0 : w3.cell? ⟨g2, 0, none⟩ = some (.int .i64 0) := by rw [cell_of_row w3 g2 0 _ _ _ hb1]; rfl
    have e1 : w3.cell? ⟨g2, 1, none⟩ = some (.int .i64 0) := by rw [cell_of_row w3 g2 1 _ _ _ hb1]; rfl
    clear hb1 HB HC c3 c4 Hc1 Hc2
    go_wp2_with fail
    rw [HD.out]
    have hle2 : w.heap.size ≤ g2 := Nat.le_trans hx.le hle
    exact bodyPost_ret (v := .tuple #[.agg #[.int .i64 v.n, .int .i64 v.d], .bool true]) (by simp [results, Tryz.results106, go_sem, e0, e1]) rfl ⟨rfl, (hx.trans (hx2.trans hE)).setCell hle2 _ |>.setCell hle2 _⟩
/-- two values in boxes of the call's own -/
theorem two_vals (w : World) (a b : Val) (A B : Option Addr) (c d : Nat) (t : TypeId) : ∃ (g1 g2 : Nat) (w2 : World), g1 = w.heap.size ∧ g2 = w.heap.size + 1 ∧ w2 = (w.alloc (.cells #[.int .i64 a.kind, .int .i64 a.n, .int .i64 a.d, .string a.s, .slice A a.l.length c] t)).alloc (.cells #[.int .i64 b.kind, .int .i64 b.n, .int .i64 b.d, .string b.s, .slice B b.l.length d] t) ∧ V5 w2 g1 0 a A c ∧ V5 w2 g2 0 b B d ∧ Ext w w2 ∧ w.heap.size ≤ g1 ∧ w.heap.size ≤ g2 ∧ g1 < w2.heap.size ∧ g2 < w2.heap.size := by
  obtain ⟨g1, w1, hg1, hw1, h1, hx1, hl1⟩ := box_val w a A c t
  obtain ⟨g2, w2, hg2, hw2, h2, hx2, hl2⟩ := box_val w1 b B d t
  exact ⟨g1, g2, w2, hg1, by rw [hg2, hw1]; go_simp, by rw [hw2, hw1], h1.ext hx2, h2, hx1.trans hx2, hl1, Nat.le_trans hx1.le hl2, block_lt_of_cell (h1.ext hx2).1, block_lt_of_cell h2.1⟩
/-- two numbers in a box of the call's own -/
theorem box2 (w : World) (x y : Int) (t : TypeId) : ∃ (g : Nat) (w1 : World), g = w.heap.size ∧ w1 = w.alloc (.cells #[.int .i64 x, .int .i64 y] t) ∧ w1.cell? ⟨g, 0, none⟩ = some (.int .i64 x) ∧ w1.cell? ⟨g, 1, none⟩ = some (.int .i64 y) ∧ Ext w w1 ∧ w.heap.size ≤ g :=
  ⟨_, _, rfl, rfl, by go_simp, by go_simp, (Ext.refl _).alloc _, Nat.le_refl _⟩
theorem cmpS_q {n d n' d' : Int} (h : validB n d = true) (h' : validB n' d' = true) : cmpS n d n' d' = cmpQ n d n' d' := by
  unfold cmpS cmpQ
  rw [(fix_yes h).1, (fix_yes h).2, (fix_yes h').1, (fix_yes h').2]
  unfold sgn Lib.compareInt
  repeat' split
  all_goals omega
end Go.Proofs.YtbjddimafilflaaGreatDoor
