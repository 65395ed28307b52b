/- PARTS OF THE WALKS, joined: FracJ, FracK, FracL, FracM, Vd, Ra. -/
import Derived.Test.YtlkpmbkmmfoakaaDoorU03
import Derived.Deep.RegionHeld3
import Derived.Test.YtlkpmbkmmfoakaaDoorU02
/- THE WALKS over package frac: Div, Sub's shape. -/
namespace Go.Proofs.YtlkpmbkmmfoakaaDoor
open Go.RowKit
def divS (an ad bn bd : Int) : Int × Int × Bool :=
  if validB bn bd && bn != 0 then (if bn < 0 then mulS an ad (-bd) (-bn) else mulS an ad bd bn) else (0, 0, false)
set_option maxHeartbeats 1600000 in
theorem frac_Div_no (an ad bn bd : Int) (w : World) (h : validB bn bd = false ∨ validB bn bd = true ∧ bn = 0) :
    Calls Tryd.prog 96 #[.agg #[.int .i64 an, .int .i64 ad], .agg #[.int .i64 bn, .int .i64 bd]] w (FracIs (divS an ad bn bd) w) := by
  have HO : Hid (divS an ad bn bd = (0, 0, false)) := by
    unfold divS
    rcases h with h | ⟨h, h'⟩
    · rw [h]; rfl
    · rw [h, h']; rfl
  rcases h with ha | ⟨ha, h0⟩
  case' inr => (have hb0 : (bn == 0) = true := beq_iff_eq.2 h0); clear h0
  all_goals
    go_enter Tryd.func96, Tryd.ntmps96
    go_wp2_with (go_at_call 46; refine (frac_Valid _ _ _).mono ?_; rintro e w' ⟨rfl, hbb⟩; obtain ⟨hc, hf⟩ := bcell hbb; have c0 : w'.cell? ⟨w.heap.size, 0, none⟩ = some (.int .i64 an) := (hc _ _ (by first | omega | (simp; done) | (simp; omega))).trans (by go_simp); have f0 : w'.frozen? ⟨w.heap.size, 0, none⟩ = false := (hf _ _ (by first | omega | (simp; done) | (simp; omega))).trans (by go_simp); have c1 : w'.cell? ⟨w.heap.size, 1, none⟩ = some (.int .i64 ad) := (hc _ _ (by first | omega | (simp; done) | (simp; omega))).trans (by go_simp); have f1 : w'.frozen? ⟨w.heap.size, 1, none⟩ = false := (hf _ _ (by first | omega | (simp; done) | (simp; omega))).trans (by go_simp); have c2 : w'.cell? ⟨w.heap.size + 1, 0, none⟩ = some (.int .i64 bn) := (hc _ _ (by first | omega | (simp; done) | (simp; omega))).trans (by go_simp); have f2 : w'.frozen? ⟨w.heap.size + 1, 0, none⟩ = false := (hf _ _ (by first | omega | (simp; done) | (simp; omega))).trans (by go_simp); have c3 : w'.cell? ⟨w.heap.size + 1, 1, none⟩ = some (.int .i64 bd) := (hc _ _ (by first | omega | (simp; done) | (simp; omega))).trans (by go_simp); have f3 : w'.frozen? ⟨w.heap.size + 1, 1, none⟩ = false := (hf _ _ (by first | omega | (simp; done) | (simp; omega))).trans (by go_simp); have c4 : w'.cell? ⟨w.heap.size + 1 + 1, 0, none⟩ = some (.int .i64 0) := (hc _ _ (by first | omega | (simp; done) | (simp; omega))).trans (by go_simp); have f4 : w'.frozen? ⟨w.heap.size + 1 + 1, 0, none⟩ = false := (hf _ _ (by first | omega | (simp; done) | (simp; omega))).trans (by go_simp); have c5 : w'.cell? ⟨w.heap.size + 1 + 1, 1, none⟩ = some (.int .i64 0) := (hc _ _ (by first | omega | (simp; done) | (simp; omega))).trans (by go_simp); have f5 : w'.frozen? ⟨w.heap.size + 1 + 1, 1, none⟩ = false := (hf _ _ (by first | omega | (simp; done) | (simp; omega))).trans (by go_simp); have hz : w.heap.size + 1 + 1 < w'.heap.size := (by have hs := hbb.size; first | omega | (simp at hs; done) | (simp at hs; omega)); have hbA : Below w.heap.size w w' := Below.trans (b := _) (by repeat (first | with_reducible exact Below.refl _ _ | with_reducible assumption | with_reducible refine below_drewN' ?_ _ | (with_reducible refine Below.setCell ?_ (by first | (simp; done) | (simp; omega)) _) | (with_reducible refine Below.alloc ?_ (by first | exact Nat.le_refl _ | (simp; done) | (simp; omega)) _))) (hbb.mono (by first | omega | (simp; done) | (simp; omega))); clear hc hf hbb)
    refine bodyPost_ret (v := .tuple #[.agg #[.int .i64 0, .int .i64 0], .bool false]) (by simp [results, Tryd.results96, go_sem, c4, c5]) rfl ?_
    rw [HO.out]
    exact ⟨rfl, (by repeat (first | with_reducible exact Below.refl _ _ | with_reducible assumption | with_reducible refine below_drewN' ?_ _ | (with_reducible refine Below.setCell ?_ (by first | (simp; done) | (simp; omega)) _) | (with_reducible refine Below.alloc ?_ (by first | exact Nat.le_refl _ | (simp; done) | (simp; omega)) _)))⟩
set_option maxHeartbeats 1600000 in
theorem frac_Div_yes (an ad bn bd : Int) (w : World) (hb : validB bn bd = true) (h0 : bn ≠ 0) :
    Calls Tryd.prog 96 #[.agg #[.int .i64 an, .int .i64 ad], .agg #[.int .i64 bn, .int .i64 bd]] w (FracIs (divS an ad bn bd) w) := by
  obtain ⟨b1, b2, ⟨b3, b4⟩, b5⟩ := validB_iff.1 hb
  have hb0 : (bn == 0) = false := beq_eq_false_iff_ne.2 h0
  by_cases hneg : bn < 0
  · have HO : Hid (divS an ad bn bd = mulS an ad (-bd) (-bn)) := by
      show divS an ad bn bd = _
      unfold divS; rw [hb, bne_iff_ne.2 h0, if_pos hneg]; rfl
    rw [HO.out]
    generalize hm : mulS an ad (-bd) (-bn) = m
    have hm := Lib.hid hm
    obtain ⟨x, y, z⟩ := m
    go_enter Tryd.func96, Tryd.ntmps96
    go_wp2_with (first | (go_at_call 46; refine (frac_Valid _ _ _).mono ?_; rintro e w' ⟨rfl, hbb⟩; obtain ⟨hc, hf⟩ := bcell hbb; have c0 : w'.cell? ⟨w.heap.size, 0, none⟩ = some (.int .i64 an) := (hc _ _ (by first | omega | (simp; done) | (simp; omega))).trans (by go_simp); have f0 : w'.frozen? ⟨w.heap.size, 0, none⟩ = false := (hf _ _ (by first | omega | (simp; done) | (simp; omega))).trans (by go_simp); have c1 : w'.cell? ⟨w.heap.size, 1, none⟩ = some (.int .i64 ad) := (hc _ _ (by first | omega | (simp; done) | (simp; omega))).trans (by go_simp); have f1 : w'.frozen? ⟨w.heap.size, 1, none⟩ = false := (hf _ _ (by first | omega | (simp; done) | (simp; omega))).trans (by go_simp); have c2 : w'.cell? ⟨w.heap.size + 1, 0, none⟩ = some (.int .i64 bn) := (hc _ _ (by first | omega | (simp; done) | (simp; omega))).trans (by go_simp); have f2 : w'.frozen? ⟨w.heap.size + 1, 0, none⟩ = false := (hf _ _ (by first | omega | (simp; done) | (simp; omega))).trans (by go_simp); have c3 : w'.cell? ⟨w.heap.size + 1, 1, none⟩ = some (.int .i64 bd) := (hc _ _ (by first | omega | (simp; done) | (simp; omega))).trans (by go_simp); have f3 : w'.frozen? ⟨w.heap.size + 1, 1, none⟩ = false := (hf _ _ (by first | omega | (simp; done) | (simp; omega))).trans (by go_simp); have c4 : w'.cell? ⟨w.heap.size + 1 + 1, 0, none⟩ = some (.int .i64 0) := (hc _ _ (by first | omega | (simp; done) | (simp; omega))).trans (by go_simp); have f4 : w'.frozen? ⟨w.heap.size + 1 + 1, 0, none⟩ = false := (hf _ _ (by first | omega | (simp; done) | (simp; omega))).trans (by go_simp); have c5 : w'.cell? ⟨w.heap.size + 1 + 1, 1, none⟩ = some (.int .i64 0) := (hc _ _ (by first | omega | (simp; done) | (simp; omega))).trans (by go_simp); have f5 : w'.frozen? ⟨w.heap.size + 1 + 1, 1, none⟩ = false := (hf _ _ (by first | omega | (simp; done) | (simp; omega))).trans (by go_simp); have hz : w.heap.size + 1 + 1 < w'.heap.size := (by have hs := hbb.size; first | omega | (simp at hs; done) | (simp at hs; omega)); have hbA : Below w.heap.size w w' := Below.trans (b := _) (by repeat (first | with_reducible exact Below.refl _ _ | with_reducible assumption | with_reducible refine below_drewN' ?_ _ | (with_reducible refine Below.setCell ?_ (by first | (simp; done) | (simp; omega)) _) | (with_reducible refine Below.alloc ?_ (by first | exact Nat.le_refl _ | (simp; done) | (simp; omega)) _))) (hbb.mono (by first | omega | (simp; done) | (simp; omega))); clear hc hf hbb) | (go_at_call 98; refine (frac_Mul _ _ _ _ _).mono ?_; rw [hm.out]; rintro e w' ⟨rfl, hbb⟩; obtain ⟨hc, hf⟩ := bcell hbb; have c0 : w'.cell? ⟨w.heap.size, 0, none⟩ = some (.int .i64 an) := (hc _ _ (by first | omega | (simp; done) | (simp; omega))).trans (by go_simp); have f0 : w'.frozen? ⟨w.heap.size, 0, none⟩ = false := (hf _ _ (by first | omega | (simp; done) | (simp; omega))).trans (by go_simp); have c1 : w'.cell? ⟨w.heap.size, 1, none⟩ = some (.int .i64 ad) := (hc _ _ (by first | omega | (simp; done) | (simp; omega))).trans (by go_simp); have f1 : w'.frozen? ⟨w.heap.size, 1, none⟩ = false := (hf _ _ (by first | omega | (simp; done) | (simp; omega))).trans (by go_simp); have c2 : w'.cell? ⟨w.heap.size + 1, 0, none⟩ = some (.int .i64 bn) := (hc _ _ (by first | omega | (simp; done) | (simp; omega))).trans (by go_simp); have f2 : w'.frozen? ⟨w.heap.size + 1, 0, none⟩ = false := (hf _ _ (by first | omega | (simp; done) | (simp; omega))).trans (by go_simp); have c3 : w'.cell? ⟨w.heap.size + 1, 1, none⟩ = some (.int .i64 bd) := (hc _ _ (by first | omega | (simp; done) | (simp; omega))).trans (by go_simp); have f3 : w'.frozen? ⟨w.heap.size + 1, 1, none⟩ = false := (hf _ _ (by first | omega | (simp; done) | (simp; omega))).trans (by go_simp); have c4 : w'.cell? ⟨w.heap.size + 1 + 1, 0, none⟩ = some (.int .i64 0) := (hc _ _ (by first | omega | (simp; done) | (simp; omega))).trans (by go_simp); have f4 : w'.frozen? ⟨w.heap.size + 1 + 1, 0, none⟩ = false := (hf _ _ (by first | omega | (simp; done) | (simp; omega))).trans (by go_simp); have c5 : w'.cell? ⟨w.heap.size + 1 + 1, 1, none⟩ = some (.int .i64 0) := (hc _ _ (by first | omega | (simp; done) | (simp; omega))).trans (by go_simp); have f5 : w'.frozen? ⟨w.heap.size + 1 + 1, 1, none⟩ = false := (hf _ _ (by first | omega | (simp; done) | (simp; omega))).trans (by go_simp); have hz : w.heap.size + 1 + 1 < w'.heap.size := (by have hs := hbb.size; first | omega | (simp at hs; done) | (simp at hs; omega)); have hbA : Below w.heap.size w w' := Below.trans (b := _) (by repeat (first | with_reducible exact Below.refl _ _ | with_reducible assumption | with_reducible refine below_drewN' ?_ _ | (with_reducible refine Below.setCell ?_ (by first | (simp; done) | (simp; omega)) _) | (with_reducible refine Below.alloc ?_ (by first | exact Nat.le_refl _ | (simp; done) | (simp; omega)) _))) (hbb.mono (by first | omega | (simp; done) | (simp; omega))); clear hc hf hbb))
    refine bodyPost_ret (v := .tuple #[.agg #[.int .i64 x, .int .i64 y], .bool z]) (by simp [results, Tryd.results96, go_sem, c4, c5]) rfl ?_
    exact ⟨rfl, (by repeat (first | with_reducible exact Below.refl _ _ | with_reducible assumption | with_reducible refine below_drewN' ?_ _ | (with_reducible refine Below.setCell ?_ (by first | (simp; done) | (simp; omega)) _) | (with_reducible refine Below.alloc ?_ (by first | exact Nat.le_refl _ | (simp; done) | (simp; omega)) _)))⟩
  · have HO : Hid (divS an ad bn bd = mulS an ad bd bn) := by
      show divS an ad bn bd = _
      unfold divS; rw [hb, bne_iff_ne.2 h0, if_neg hneg]; rfl
    rw [HO.out]
    generalize hm : mulS an ad bd bn = m
    have hm := Lib.hid hm
    obtain ⟨x, y, z⟩ := m
    go_enter Tryd.func96, Tryd.ntmps96
    go_wp2_with (first | (go_at_call 46; refine (frac_Valid _ _ _).mono ?_; rintro e w' ⟨rfl, hbb⟩; obtain ⟨hc, hf⟩ := bcell hbb; have c0 : w'.cell? ⟨w.heap.size, 0, none⟩ = some (.int .i64 an) := (hc _ _ (by first | omega | (simp; done) | (simp; omega))).trans (by go_simp); have f0 : w'.frozen? ⟨w.heap.size, 0, none⟩ = false := (hf _ _ (by first | omega | (simp; done) | (simp; omega))).trans (by go_simp); have c1 : w'.cell? ⟨w.heap.size, 1, none⟩ = some (.int .i64 ad) := (hc _ _ (by first | omega | (simp; done) | (simp; omega))).trans (by go_simp); have f1 : w'.frozen? ⟨w.heap.size, 1, none⟩ = false := (hf _ _ (by first | omega | (simp; done) | (simp; omega))).trans (by go_simp); have c2 : w'.cell? ⟨w.heap.size + 1, 0, none⟩ = some (.int .i64 bn) := (hc _ _ (by first | omega | (simp; done) | (simp; omega))).trans (by go_simp); have f2 : w'.frozen? ⟨w.heap.size + 1, 0, none⟩ = false := (hf _ _ (by first | omega | (simp; done) | (simp; omega))).trans (by go_simp); have c3 : w'.cell? ⟨w.heap.size + 1, 1, none⟩ = some (.int .i64 bd) := (hc _ _ (by first | omega | (simp; done) | (simp; omega))).trans (by go_simp); have f3 : w'.frozen? ⟨w.heap.size + 1, 1, none⟩ = false := (hf _ _ (by first | omega | (simp; done) | (simp; omega))).trans (by go_simp); have c4 : w'.cell? ⟨w.heap.size + 1 + 1, 0, none⟩ = some (.int .i64 0) := (hc _ _ (by first | omega | (simp; done) | (simp; omega))).trans (by go_simp); have f4 : w'.frozen? ⟨w.heap.size + 1 + 1, 0, none⟩ = false := (hf _ _ (by first | omega | (simp; done) | (simp; omega))).trans (by go_simp); have c5 : w'.cell? ⟨w.heap.size + 1 + 1, 1, none⟩ = some (.int .i64 0) := (hc _ _ (by first | omega | (simp; done) | (simp; omega))).trans (by go_simp); have f5 : w'.frozen? ⟨w.heap.size + 1 + 1, 1, none⟩ = false := (hf _ _ (by first | omega | (simp; done) | (simp; omega))).trans (by go_simp); have hz : w.heap.size + 1 + 1 < w'.heap.size := (by have hs := hbb.size; first | omega | (simp at hs; done) | (simp at hs; omega)); have hbA : Below w.heap.size w w' := Below.trans (b := _) (by repeat (first | with_reducible exact Below.refl _ _ | with_reducible assumption | with_reducible refine below_drewN' ?_ _ | (with_reducible refine Below.setCell ?_ (by first | (simp; done) | (simp; omega)) _) | (with_reducible refine Below.alloc ?_ (by first | exact Nat.le_refl _ | (simp; done) | (simp; omega)) _))) (hbb.mono (by first | omega | (simp; done) | (simp; omega))); clear hc hf hbb) | (go_at_call 98; refine (frac_Mul _ _ _ _ _).mono ?_; rw [hm.out]; rintro e w' ⟨rfl, hbb⟩; obtain ⟨hc, hf⟩ := bcell hbb; have c0 : w'.cell? ⟨w.heap.size, 0, none⟩ = some (.int .i64 an) := (hc _ _ (by first | omega | (simp; done) | (simp; omega))).trans (by go_simp); have f0 : w'.frozen? ⟨w.heap.size, 0, none⟩ = false := (hf _ _ (by first | omega | (simp; done) | (simp; omega))).trans (by go_simp); have c1 : w'.cell? ⟨w.heap.size, 1, none⟩ = some (.int .i64 ad) := (hc _ _ (by first | omega | (simp; done) | (simp; omega))).trans (by go_simp); have f1 : w'.frozen? ⟨w.heap.size, 1, none⟩ = false := (hf _ _ (by first | omega | (simp; done) | (simp; omega))).trans (by go_simp); have c2 : w'.cell? ⟨w.heap.size + 1, 0, none⟩ = some (.int .i64 bn) := (hc _ _ (by first | omega | (simp; done) | (simp; omega))).trans (by go_simp); have f2 : w'.frozen? ⟨w.heap.size + 1, 0, none⟩ = false := (hf _ _ (by first | omega | (simp; done) | (simp; omega))).trans (by go_simp); have c3 : w'.cell? ⟨w.heap.size + 1, 1, none⟩ = some (.int .i64 bd) := (hc _ _ (by first | omega | (simp; done) | (simp; omega))).trans (by go_simp); have f3 : w'.frozen? ⟨w.heap.size + 1, 1, none⟩ = false := (hf _ _ (by first | omega | (simp; done) | (simp; omega))).trans (by go_simp); have c4 : w'.cell? ⟨w.heap.size + 1 + 1, 0, none⟩ = some (.int .i64 0) := (hc _ _ (by first | omega | (simp; done) | (simp; omega))).trans (by go_simp); have f4 : w'.frozen? ⟨w.heap.size + 1 + 1, 0, none⟩ = false := (hf _ _ (by first | omega | (simp; done) | (simp; omega))).trans (by go_simp); have c5 : w'.cell? ⟨w.heap.size + 1 + 1, 1, none⟩ = some (.int .i64 0) := (hc _ _ (by first | omega | (simp; done) | (simp; omega))).trans (by go_simp); have f5 : w'.frozen? ⟨w.heap.size + 1 + 1, 1, none⟩ = false := (hf _ _ (by first | omega | (simp; done) | (simp; omega))).trans (by go_simp); have hz : w.heap.size + 1 + 1 < w'.heap.size := (by have hs := hbb.size; first | omega | (simp at hs; done) | (simp at hs; omega)); have hbA : Below w.heap.size w w' := Below.trans (b := _) (by repeat (first | with_reducible exact Below.refl _ _ | with_reducible assumption | with_reducible refine below_drewN' ?_ _ | (with_reducible refine Below.setCell ?_ (by first | (simp; done) | (simp; omega)) _) | (with_reducible refine Below.alloc ?_ (by first | exact Nat.le_refl _ | (simp; done) | (simp; omega)) _))) (hbb.mono (by first | omega | (simp; done) | (simp; omega))); clear hc hf hbb))
    refine bodyPost_ret (v := .tuple #[.agg #[.int .i64 x, .int .i64 y], .bool z]) (by simp [results, Tryd.results96, go_sem, c4, c5]) rfl ?_
    exact ⟨rfl, (by repeat (first | with_reducible exact Below.refl _ _ | with_reducible assumption | with_reducible refine below_drewN' ?_ _ | (with_reducible refine Below.setCell ?_ (by first | (simp; done) | (simp; omega)) _) | (with_reducible refine Below.alloc ?_ (by first | exact Nat.le_refl _ | (simp; done) | (simp; omega)) _)))⟩
theorem frac_Div (an ad bn bd : Int) (w : World) :
    Calls Tryd.prog 96 #[.agg #[.int .i64 an, .int .i64 ad], .agg #[.int .i64 bn, .int .i64 bd]] w (FracIs (divS an ad bn bd) w) := by
  cases hb : validB bn bd
  · exact frac_Div_no _ _ _ _ w (.inl hb)
  · by_cases h0 : bn = 0
    · exact frac_Div_no _ _ _ _ w (.inr ⟨hb, h0⟩)
    · exact frac_Div_yes _ _ _ _ w hb h0
end Go.Proofs.YtlkpmbkmmfoakaaDoor

/- A wide integer as a signed one: plain. -/
namespace Go.Proofs.YtlkpmbkmmfoakaaDoor
open Go.RowKit
def wval (s : Bool) (m : Nat) : Int := if s then -(m : Int) else (m : Int)
theorem wval_abs (s : Bool) (m : Nat) : (wval s m).natAbs = m := by
  unfold wval; cases s <;> simp
theorem wval_product (a b : Int) : wval (decide (a < 0) != decide (b < 0)) (a.natAbs * b.natAbs) = a * b := by
  unfold wval
  have e : ((a.natAbs * b.natAbs : Nat) : Int) = (a.natAbs : Int) * (b.natAbs : Int) := by simp
  rw [e]
  by_cases ha : a < 0 <;> by_cases hb : b < 0
  · rw [decide_eq_true ha, decide_eq_true hb, show (a.natAbs : Int) = -a from by omega, show (b.natAbs : Int) = -b from by omega]; simp; grind
  · rw [decide_eq_true ha, decide_eq_false hb, show (a.natAbs : Int) = -a from by omega, show (b.natAbs : Int) = b from by omega]; simp; grind
  · rw [decide_eq_false ha, decide_eq_true hb, show (a.natAbs : Int) = a from by omega, show (b.natAbs : Int) = -b from by omega]; simp; grind
  · rw [decide_eq_false ha, decide_eq_false hb, show (a.natAbs : Int) = a from by omega, show (b.natAbs : Int) = b from by omega]; simp
theorem wval_plus (s1 : Bool) (m1 : Nat) (s2 : Bool) (m2 : Nat) : wval (plusW s1 m1 s2 m2).1 (plusW s1 m1 s2 m2).2 = wval s1 m1 + wval s2 m2 := by
  unfold wval plusW
  cases s1 <;> cases s2
  · simp
  · by_cases h : m1 < m2 <;> simp [h] <;> omega
  · by_cases h : m1 < m2 <;> simp [h] <;> omega
  · simp; omega
theorem sgnW_zero {s : Bool} {m : Nat} : (sgnW s m == 0) = decide (wval s m = 0) := by
  unfold sgnW wval
  by_cases h : m = 0
  · subst h; cases s <;> simp
  · rw [if_neg h]; cases s <;> simp [h]
theorem sgnW_sgn {s : Bool} {m : Nat} : sgnW s m = sgn (wval s m) := by
  unfold sgnW wval sgn
  by_cases h : m = 0
  · subst h; cases s <;> simp
  · rw [if_neg h]; cases s
    · simp; omega
    · simp; omega
/-- the greatest common divisor by the rest -/
theorem cgcd_mod (m : Nat) (T g : Int) (hT : T.natAbs = m) (hg : 1 ≤ g) : cgcd ((m % g.toNat : Nat) : Int) g = cgcd T g := by
  unfold cgcd
  rw [Int.natAbs_natCast, hT, show g.toNat = g.natAbs from by omega]
  congr 1
  rw [← Nat.gcd_rec, Nat.gcd_comm]
theorem over_div (s : Bool) (m y : Nat) (hy : 1 ≤ y) (hd : (y : Int) ∣ wval s m) : inB (wval s m / y) = overB m y ∧ (overB m y = true → overV s m y = wval s m / y) := by
  have hm := wval_abs s m
  have hq : (wval s m / (y : Int)) = wval s (m / y) := by
    obtain ⟨c, hc⟩ := hd
    have hmc : m = y * c.natAbs := by rw [← hm, hc, Int.natAbs_mul, Int.natAbs_natCast]
    rw [hc, Int.mul_ediv_cancel_left _ (by omega), hmc, Nat.mul_div_cancel_left _ (by omega)]
    unfold wval at hc ⊢
    have hy0 : (y : Int) ≠ 0 := by omega
    rw [hmc] at hc
    rw [Int.natCast_mul] at hc
    cases s
    · simp at hc ⊢
      have := Int.eq_of_mul_eq_mul_left hy0 hc
      omega
    · simp at hc ⊢
      rw [← Int.mul_neg] at hc
      have := Int.eq_of_mul_eq_mul_left hy0 hc
      omega
  rw [hq]
  refine ⟨?_, fun h => ?_⟩
  · unfold overB wval inB
    cases s <;> simp only [Bool.false_eq_true, if_false, if_true] <;> generalize m / y = q <;> rw [← Bool.decide_and] <;> congr 1 <;> exact propext (by omega)
  · unfold overV wval; rw [h]; rfl
end Go.Proofs.YtlkpmbkmmfoakaaDoor

/- THE WALKS over package frac: Add. -/
namespace Go.Proofs.YtlkpmbkmmfoakaaDoor
open Go.RowKit
theorem below_drew' {B : Nat} {a w : World} (h : Below B a w) : Below B a w.drew := below_drewN' h 1
/-- a new box of three cells, still as it was made -/
def BoxAt (H : Nat) (a b c : Value) (V : World) : Prop := V.cell? ⟨H, 0, none⟩ = some a ∧ V.cell? ⟨H, 1, none⟩ = some b ∧ V.cell? ⟨H, 2, none⟩ = some c ∧ V.frozen? ⟨H, 0, none⟩ = false ∧ V.frozen? ⟨H, 1, none⟩ = false ∧ V.frozen? ⟨H, 2, none⟩ = false ∧ H < V.heap.size
theorem box_trans {H : Nat} {a b c : Value} {V w' : World} (h : BoxAt H a b c V) (hb : Below V.heap.size V w') : BoxAt H a b c w' := by
  obtain ⟨x0, x1, x2, y0, y1, y2, yh⟩ := h
  obtain ⟨hc, hf⟩ := bcell hb
  have := hb.size
  exact ⟨(hc _ _ yh).trans x0, (hc _ _ yh).trans x1, (hc _ _ yh).trans x2, (hf _ _ yh).trans y0, (hf _ _ yh).trans y1, (hf _ _ yh).trans y2, by omega⟩
theorem box_facts {V w' : World} {a b c : Value} {t : TypeId} (hb : Below (V.alloc (.cells #[a, b, c] t)).heap.size (V.alloc (.cells #[a, b, c] t)) w') : BoxAt V.heap.size a b c w' := by
  refine box_trans ⟨?_, ?_, ?_, ?_, ?_, ?_, ?_⟩ hb
  all_goals go_simp
theorem box_facts' {V w' : World} {a b c : Value} {t : TypeId} (hb : Below (V.alloc (.cells #[a, b, c] t)).drew.heap.size (V.alloc (.cells #[a, b, c] t)).drew w') : BoxAt V.heap.size a b c w' := by
  refine box_trans ⟨?_, ?_, ?_, ?_, ?_, ?_, ?_⟩ hb
  all_goals go_simp
/-- where the fraction 0 lies -/
def ZeroAt (w : World) : Prop := w.cell? ⟨0, 0, none⟩ = some (.int .i64 0) ∧ w.cell? ⟨0, 1, none⟩ = some (.int .i64 1) ∧ 0 < w.heap.size
theorem ZeroAt.below {w w' : World} (h : ZeroAt w) (hb : Below w.heap.size w w') : ZeroAt w' := by
  obtain ⟨h0, h1, hs⟩ := h
  obtain ⟨hc, hf⟩ := bcell hb
  have := hb.size
  exact ⟨(hc _ _ hs).trans h0, (hc _ _ hs).trans h1, by omega⟩
/-- what Add's frame holds behind its sum -/
def AddSt (w : World) (H : Nat) (ad bd : Int) (s : Bool) (h l : Int) (V : World) : Prop :=
  Below w.heap.size w V ∧ (w.heap.size + 1 + 1 < H ∧ H < V.heap.size) ∧ V.cell? ⟨w.heap.size, 1, none⟩ = some (.int .i64 ad) ∧ V.cell? ⟨w.heap.size + 1, 1, none⟩ = some (.int .i64 bd) ∧
  (V.cell? ⟨w.heap.size + 1 + 1, 0, none⟩ = some (.int .i64 0) ∧ V.frozen? ⟨w.heap.size + 1 + 1, 0, none⟩ = false) ∧ (V.cell? ⟨w.heap.size + 1 + 1, 1, none⟩ = some (.int .i64 0) ∧ V.frozen? ⟨w.heap.size + 1 + 1, 1, none⟩ = false) ∧
  (V.cell? ⟨H, 0, none⟩ = some (.bool s) ∧ V.cell? ⟨H, 1, none⟩ = some (.int .u64 h) ∧ V.cell? ⟨H, 2, none⟩ = some (.int .u64 l)) ∧
  (V.cell? ⟨0, 0, none⟩ = some (.int .i64 0) ∧ V.cell? ⟨0, 1, none⟩ = some (.int .i64 1) ∧ 0 < w.heap.size)
theorem AddSt.step {w : World} {H : Nat} {ad bd : Int} {s : Bool} {h l : Int} {V V' : World} (q : AddSt w H ad bd s h l V) (hb : Below V.heap.size V V') : AddSt w H ad bd s h l V' := by
  obtain ⟨q0, ⟨q1, q2⟩, q3, q4, ⟨q5, q6⟩, ⟨q7, q8⟩, ⟨q9, q10, q11⟩, q12, q13, q14⟩ := q
  obtain ⟨hc, hf⟩ := bcell hb
  have hs := hb.size
  exact ⟨below_step q0 hb, ⟨q1, by omega⟩, (hc _ _ (by omega)).trans q3, (hc _ _ (by omega)).trans q4, ⟨(hc _ _ (by omega)).trans q5, (hf _ _ (by omega)).trans q6⟩, ⟨(hc _ _ (by omega)).trans q7, (hf _ _ (by omega)).trans q8⟩, ⟨(hc _ _ (by omega)).trans q9, (hc _ _ (by omega)).trans q10, (hc _ _ (by omega)).trans q11⟩, (hc _ _ (by omega)).trans q12, (hc _ _ (by omega)).trans q13, q14⟩
theorem AddSt.start {w W wc : World} {H : Nat} {ad bd : Int} {s : Bool} {h l : Int} (hz : ZeroAt w) (hbB : Below w.heap.size w W) (hbX : Below (w.heap.size + 1 + 1 + 1) W wc)
    (d1 : W.cell? ⟨w.heap.size, 1, none⟩ = some (.int .i64 ad)) (d3 : W.cell? ⟨w.heap.size + 1, 1, none⟩ = some (.int .i64 bd))
    (d4 : W.cell? ⟨w.heap.size + 1 + 1, 0, none⟩ = some (.int .i64 0)) (g4 : W.frozen? ⟨w.heap.size + 1 + 1, 0, none⟩ = false)
    (d5 : W.cell? ⟨w.heap.size + 1 + 1, 1, none⟩ = some (.int .i64 0)) (g5 : W.frozen? ⟨w.heap.size + 1 + 1, 1, none⟩ = false)
    (hH : w.heap.size + 1 + 1 < H) (hbox : BoxAt H (.bool s) (.int .u64 h) (.int .u64 l) wc) : AddSt w H ad bd s h l wc := by
  have hc : ∀ b o, b < w.heap.size + 1 + 1 + 1 → wc.cell? ⟨b, o, none⟩ = W.cell? ⟨b, o, none⟩ := fun b o k => hbX.cell (p := ⟨b, o, none⟩) k
  have hf : ∀ b o, b < w.heap.size + 1 + 1 + 1 → wc.frozen? ⟨b, o, none⟩ = W.frozen? ⟨b, o, none⟩ := fun b o k => hbX.frozen (p := ⟨b, o, none⟩) k
  have hb : Below w.heap.size w wc := hbB.trans (hbX.mono (by omega))
  obtain ⟨x0, x1, x2, -, -, -, yh⟩ := hbox
  obtain ⟨z0, z1, z2⟩ := hz
  obtain ⟨hc0, -⟩ := bcell hb
  exact ⟨hb, ⟨hH, yh⟩, (hc _ _ (by omega)).trans d1, (hc _ _ (by omega)).trans d3, ⟨(hc _ _ (by omega)).trans d4, (hf _ _ (by omega)).trans g4⟩, ⟨(hc _ _ (by omega)).trans d5, (hf _ _ (by omega)).trans g5⟩, ⟨x0, x1, x2⟩, (hc0 _ _ z2).trans z0, (hc0 _ _ z2).trans z1, z2⟩
theorem num_Gcd_below (a b : Int) (w : World) :
    Calls Tryd.prog 47 #[.int .i64 a, .int .i64 b] w fun e w' => e = .returned (.int .i64 (gcdV a b)) ∧ Below w.heap.size w w' :=
  (num_Gcd a b w).mono fun e w' ⟨h, n, hn⟩ => ⟨h, by rw [hn]; exact below_drewN' (Below.refl _ _) n⟩
theorem wide_mod_i (s : Bool) (h l : Int) (m : Nat) (y : Int) (w : World) (W : WB h l m) (hy1 : 1 ≤ y) (hy : y ≤ 1000000000000000) :
    Calls Tryd.prog 51 #[.agg #[.bool s, .int .u64 h, .int .u64 l], .int .u64 y] w fun e w' => e = .returned (.int .u64 (m % y.toNat : Nat)) ∧ Below w.heap.size w w' := by
  have hk := wide_mod s h l m y.toNat w W (by omega) (by omega)
  rw [show ((y.toNat : Nat) : Int) = y from by omega] at hk
  exact hk
theorem wide_over_i (s : Bool) (h l : Int) (m : Nat) (y : Int) (w : World) (W : WB h l m) (hy1 : 1 ≤ y) (hy : y ≤ 1000000000000000) :
    Calls Tryd.prog 52 #[.agg #[.bool s, .int .u64 h, .int .u64 l], .int .u64 y] w fun e w' => e = .returned (.tuple #[.int .i64 (overV s m y.toNat), .bool (overB m y.toNat)]) ∧ Below w.heap.size w w' := by
  have hk := wide_over s h l m y.toNat w W (by omega) (by omega)
  rw [show ((y.toNat : Nat) : Int) = y from by omega] at hk
  exact hk
set_option maxHeartbeats 3200000 in
theorem frac_Add_yes (an ad bn bd : Int) (w : World) (hZ0 : ZeroAt w) (ha : validB an ad = true) (hb : validB bn bd = true) :
    Calls Tryd.prog 24 #[.agg #[.int .i64 an, .int .i64 ad], .agg #[.int .i64 bn, .int .i64 bd]] w (FracIs (addS an ad bn bd) w) := by
  obtain ⟨a1, a2, ⟨a3, a4⟩, -⟩ := validB_iff.1 ha
  obtain ⟨b1, b2, ⟨b3, b4⟩, -⟩ := validB_iff.1 hb
  have HZ0 := Lib.hid hZ0
  clear hZ0
  have HGD : Hid (cgcd ad bd ∣ bd) := cgcd_right ad bd
  have hO := Lib.hid (addS_formula ha hb)
  have hZ := Lib.hid (addS_zero ha hb)
  obtain ⟨e1, e2⟩ := cgcd_bounds (n := ad) (show bd ≠ 0 by omega) ⟨by omega, by omega⟩
  obtain ⟨q1, -, -, q4, q5⟩ := quo_facts e1 (cgcd_left ad bd) ⟨by omega, by omega⟩
  obtain ⟨p1, -, -, p4, p5⟩ := quo_facts e1 (cgcd_right ad bd) ⟨by omega, by omega⟩
  have hg : gcdV ad bd = cgcd ad bd := gcdV_yes (inB_true.2 ⟨by omega, by omega⟩) (inB_true.2 ⟨by omega, by omega⟩)
  generalize cgcd ad bd = g at *
  generalize ad / g = C at *
  generalize bd / g = D at *
  have J1 : IntKind.i64.wrap D = D := IntWalk.i64_in _ ⟨by omega, by omega⟩
  have J2 : IntKind.i64.wrap C = C := IntWalk.i64_in _ ⟨by omega, by omega⟩
  have M1 := mul_lt_wide (a := an) (b := D) ⟨a3, a4⟩ ⟨p4, p5⟩
  have M2 := mul_lt_wide (a := bn) (b := C) ⟨b3, b4⟩ ⟨q4, q5⟩
  have hg00 : ¬ g = 0 := by omega
  have hg0 : (g == 0) = false := beq_eq_false_iff_ne.2 (by omega)
  go_enter Tryd.func24, Tryd.ntmps24
  go_wp2_with (go_at_call 46; refine (frac_Valid _ _ _).mono ?_; rintro e w' ⟨rfl, hbb⟩; obtain ⟨hc, hf⟩ := bcell hbb; have c0 : w'.cell? ⟨w.heap.size, 0, none⟩ = some (.int .i64 an) := (hc _ _ (by first | omega | (simp; done) | (simp; omega))).trans (by go_simp); have f0 : w'.frozen? ⟨w.heap.size, 0, none⟩ = false := (hf _ _ (by first | omega | (simp; done) | (simp; omega))).trans (by go_simp); have c1 : w'.cell? ⟨w.heap.size, 1, none⟩ = some (.int .i64 ad) := (hc _ _ (by first | omega | (simp; done) | (simp; omega))).trans (by go_simp); have f1 : w'.frozen? ⟨w.heap.size, 1, none⟩ = false := (hf _ _ (by first | omega | (simp; done) | (simp; omega))).trans (by go_simp); have c2 : w'.cell? ⟨w.heap.size + 1, 0, none⟩ = some (.int .i64 bn) := (hc _ _ (by first | omega | (simp; done) | (simp; omega))).trans (by go_simp); have f2 : w'.frozen? ⟨w.heap.size + 1, 0, none⟩ = false := (hf _ _ (by first | omega | (simp; done) | (simp; omega))).trans (by go_simp); have c3 : w'.cell? ⟨w.heap.size + 1, 1, none⟩ = some (.int .i64 bd) := (hc _ _ (by first | omega | (simp; done) | (simp; omega))).trans (by go_simp); have f3 : w'.frozen? ⟨w.heap.size + 1, 1, none⟩ = false := (hf _ _ (by first | omega | (simp; done) | (simp; omega))).trans (by go_simp); have c4 : w'.cell? ⟨w.heap.size + 1 + 1, 0, none⟩ = some (.int .i64 0) := (hc _ _ (by first | omega | (simp; done) | (simp; omega))).trans (by go_simp); have f4 : w'.frozen? ⟨w.heap.size + 1 + 1, 0, none⟩ = false := (hf _ _ (by first | omega | (simp; done) | (simp; omega))).trans (by go_simp); have c5 : w'.cell? ⟨w.heap.size + 1 + 1, 1, none⟩ = some (.int .i64 0) := (hc _ _ (by first | omega | (simp; done) | (simp; omega))).trans (by go_simp); have f5 : w'.frozen? ⟨w.heap.size + 1 + 1, 1, none⟩ = false := (hf _ _ (by first | omega | (simp; done) | (simp; omega))).trans (by go_simp); have hz : w.heap.size + 1 + 1 < w'.heap.size := (by have hs := hbb.size; first | omega | (simp at hs; done) | (simp at hs; omega)); have hbA : Below w.heap.size w w' := Below.trans (b := _) (by repeat (first | with_reducible exact Below.refl _ _ | with_reducible assumption | with_reducible refine below_drewN' ?_ _ | (with_reducible refine Below.setCell ?_ (by first | (simp; done) | (simp; omega)) _) | (with_reducible refine Below.alloc ?_ (by first | exact Nat.le_refl _ | (simp; done) | (simp; omega)) _))) (hbb.mono (by first | omega | (simp; done) | (simp; omega))); clear hc hf hbb)
  refine (num_Gcd _ _ _).mono ?_
  rintro e w' ⟨rfl, nn, rfl⟩
  go_wp2_with fail
  refine forget_world (fun W => (Below w.heap.size w W ∧ w.heap.size + 1 + 1 < W.heap.size) ∧ (W.cell? ⟨w.heap.size, 0, none⟩ = some (.int .i64 an) ∧ W.frozen? ⟨w.heap.size, 0, none⟩ = false) ∧ (W.cell? ⟨w.heap.size, 1, none⟩ = some (.int .i64 ad) ∧ W.frozen? ⟨w.heap.size, 1, none⟩ = false) ∧ (W.cell? ⟨w.heap.size + 1, 0, none⟩ = some (.int .i64 bn) ∧ W.frozen? ⟨w.heap.size + 1, 0, none⟩ = false) ∧ (W.cell? ⟨w.heap.size + 1, 1, none⟩ = some (.int .i64 bd) ∧ W.frozen? ⟨w.heap.size + 1, 1, none⟩ = false) ∧ (W.cell? ⟨w.heap.size + 1 + 1, 0, none⟩ = some (.int .i64 0) ∧ W.frozen? ⟨w.heap.size + 1 + 1, 0, none⟩ = false) ∧ (W.cell? ⟨w.heap.size + 1 + 1, 1, none⟩ = some (.int .i64 0) ∧ W.frozen? ⟨w.heap.size + 1 + 1, 1, none⟩ = false)) ⟨⟨(by repeat (first | with_reducible exact Below.refl _ _ | with_reducible assumption | with_reducible refine below_drewN' ?_ _ | (with_reducible refine Below.setCell ?_ (by first | (simp; done) | (simp; omega)) _) | (with_reducible refine Below.alloc ?_ (by first | exact Nat.le_refl _ | (simp; done) | (simp; omega)) _))), by go_simp⟩, ⟨by go_simp, by go_simp⟩, ⟨by go_simp, by go_simp⟩, ⟨by go_simp, by go_simp⟩, ⟨by go_simp, by go_simp⟩, ⟨by go_simp, by go_simp⟩, ⟨by go_simp, by go_simp⟩⟩ ?_
  rintro W ⟨⟨hbB, hzB⟩, ⟨d0, g0⟩, ⟨d1, g1⟩, ⟨d2, g2⟩, ⟨d3, g3⟩, ⟨d4, g4⟩, ⟨d5, g5⟩⟩
  clear hz hbA c0 c1 c2 c3 c4 c5 f0 f1 f2 f3 f4 f5
  have hn0 : ¬ w.heap.size = W.heap.size := by omega
  have hm0 : ¬ W.heap.size = w.heap.size := by omega
  have hn1 : ¬ w.heap.size + 1 = W.heap.size := by omega
  have hm1 : ¬ W.heap.size = w.heap.size + 1 := by omega
  have hn2 : ¬ w.heap.size + 1 + 1 = W.heap.size := by omega
  have hm2 : ¬ W.heap.size = w.heap.size + 1 + 1 := by omega
  go_cut [7] (fun p wx => ∃ (H : Nat) (h l : Int), p = .pointer (some ⟨H, 0, none⟩) ∧ (w.heap.size + 1 + 1 < H ∧ Below (w.heap.size + 1 + 1 + 1) W wx) ∧ BoxAt H (.bool (plusW (decide (an < 0) != decide (D < 0)) (an.natAbs * D.natAbs) (decide (bn < 0) != decide (C < 0)) (bn.natAbs * C.natAbs)).1) (.int .u64 h) (.int .u64 l) wx ∧ WB h l (plusW (decide (an < 0) != decide (D < 0)) (an.natAbs * D.natAbs) (decide (bn < 0) != decide (C < 0)) (bn.natAbs * C.natAbs)).2)
  case first =>
    go_region_held3 (fun V => V.cell? ⟨w.heap.size, 0, none⟩ = some (.int .i64 an) ∧ V.cell? ⟨w.heap.size, 1, none⟩ = some (.int .i64 ad) ∧ V.cell? ⟨w.heap.size + 1, 0, none⟩ = some (.int .i64 bn) ∧ V.cell? ⟨w.heap.size + 1, 1, none⟩ = some (.int .i64 bd) ∧ Below (w.heap.size + 1 + 1 + 1) W V ∧ w.heap.size + 1 + 1 < V.heap.size) ((exact ⟨(by first | (go_simp; done) | exact ((bcell (W := w') (by repeat (first | with_reducible exact Below.refl _ _ | with_reducible assumption | with_reducible refine below_drew' ?_ | with_reducible refine below_drewN' ?_ _ | (with_reducible refine Below.setCell ?_ (by first | omega | (simp; done) | (simp; omega)) _) | (with_reducible refine Below.alloc ?_ (by first | exact Nat.le_refl _ | omega | (simp; done) | (simp; omega)) _)))).1 _ _ (by omega)).trans (by go_simp) | exact ((bcell (W := W) (by repeat (first | with_reducible exact Below.refl _ _ | with_reducible assumption | with_reducible refine below_drew' ?_ | with_reducible refine below_drewN' ?_ _ | (with_reducible refine Below.setCell ?_ (by first | omega | (simp; done) | (simp; omega)) _) | (with_reducible refine Below.alloc ?_ (by first | exact Nat.le_refl _ | omega | (simp; done) | (simp; omega)) _)))).1 _ _ (by omega)).trans (by go_simp)), (by first | (go_simp; done) | exact ((bcell (W := w') (by repeat (first | with_reducible exact Below.refl _ _ | with_reducible assumption | with_reducible refine below_drew' ?_ | with_reducible refine below_drewN' ?_ _ | (with_reducible refine Below.setCell ?_ (by first | omega | (simp; done) | (simp; omega)) _) | (with_reducible refine Below.alloc ?_ (by first | exact Nat.le_refl _ | omega | (simp; done) | (simp; omega)) _)))).1 _ _ (by omega)).trans (by go_simp) | exact ((bcell (W := W) (by repeat (first | with_reducible exact Below.refl _ _ | with_reducible assumption | with_reducible refine below_drew' ?_ | with_reducible refine below_drewN' ?_ _ | (with_reducible refine Below.setCell ?_ (by first | omega | (simp; done) | (simp; omega)) _) | (with_reducible refine Below.alloc ?_ (by first | exact Nat.le_refl _ | omega | (simp; done) | (simp; omega)) _)))).1 _ _ (by omega)).trans (by go_simp)), (by first | (go_simp; done) | exact ((bcell (W := w') (by repeat (first | with_reducible exact Below.refl _ _ | with_reducible assumption | with_reducible refine below_drew' ?_ | with_reducible refine below_drewN' ?_ _ | (with_reducible refine Below.setCell ?_ (by first | omega | (simp; done) | (simp; omega)) _) | (with_reducible refine Below.alloc ?_ (by first | exact Nat.le_refl _ | omega | (simp; done) | (simp; omega)) _)))).1 _ _ (by omega)).trans (by go_simp) | exact ((bcell (W := W) (by repeat (first | with_reducible exact Below.refl _ _ | with_reducible assumption | with_reducible refine below_drew' ?_ | with_reducible refine below_drewN' ?_ _ | (with_reducible refine Below.setCell ?_ (by first | omega | (simp; done) | (simp; omega)) _) | (with_reducible refine Below.alloc ?_ (by first | exact Nat.le_refl _ | omega | (simp; done) | (simp; omega)) _)))).1 _ _ (by omega)).trans (by go_simp)), (by first | (go_simp; done) | exact ((bcell (W := w') (by repeat (first | with_reducible exact Below.refl _ _ | with_reducible assumption | with_reducible refine below_drew' ?_ | with_reducible refine below_drewN' ?_ _ | (with_reducible refine Below.setCell ?_ (by first | omega | (simp; done) | (simp; omega)) _) | (with_reducible refine Below.alloc ?_ (by first | exact Nat.le_refl _ | omega | (simp; done) | (simp; omega)) _)))).1 _ _ (by omega)).trans (by go_simp) | exact ((bcell (W := W) (by repeat (first | with_reducible exact Below.refl _ _ | with_reducible assumption | with_reducible refine below_drew' ?_ | with_reducible refine below_drewN' ?_ _ | (with_reducible refine Below.setCell ?_ (by first | omega | (simp; done) | (simp; omega)) _) | (with_reducible refine Below.alloc ?_ (by first | exact Nat.le_refl _ | omega | (simp; done) | (simp; omega)) _)))).1 _ _ (by omega)).trans (by go_simp)), (by repeat (first | with_reducible exact Below.refl _ _ | with_reducible assumption | with_reducible refine below_drew' ?_ | (have hh := ‹_ ∧ _ ∧ _ ∧ _ ∧ _ ∧ _›; with_reducible exact hh.2.2.2.2.1) | with_reducible refine below_drewN' ?_ _ | (with_reducible refine Below.setCell ?_ (by first | omega | (simp; done) | (simp; omega)) _) | (with_reducible refine Below.alloc ?_ (by first | exact Nat.le_refl _ | omega | (simp; done) | (simp; omega)) _))), by first | omega | (simp; omega) | (have hh := ‹_ ∧ _ ∧ _ ∧ _ ∧ _ ∧ _›; have := hh.2.2.2.2.2; simp at this; simp; omega)⟩)) (first | (go_at_call 48; refine (frac_product _ _ _ ⟨by omega, by omega⟩ ⟨by omega, by omega⟩).mono ?_; rintro e w' ⟨h, l, rfl, HW, hbb⟩; obtain ⟨s0, s1, s2, s3, s4, s5⟩ := ‹_ ∧ _ ∧ _ ∧ _ ∧ _ ∧ _›; (first | have cb := box_facts hbb | have cb := box_facts' hbb | have cb := box_trans (by assumption) hbb | skip); (first | (obtain ⟨x0, x1, x2, y0, y1, y2, yh⟩ := id cb; have yn := Nat.ne_of_gt yh; have ym := Nat.ne_of_lt yh) | skip); obtain ⟨hc, hf⟩ := bcell hbb; have c0 : w'.cell? ⟨w.heap.size, 0, none⟩ = some (.int .i64 an) := (hc _ _ (by first | omega | (simp; done) | (simp; omega))).trans (by go_simp); have c1 : w'.cell? ⟨w.heap.size, 1, none⟩ = some (.int .i64 ad) := (hc _ _ (by first | omega | (simp; done) | (simp; omega))).trans (by go_simp); have c2 : w'.cell? ⟨w.heap.size + 1, 0, none⟩ = some (.int .i64 bn) := (hc _ _ (by first | omega | (simp; done) | (simp; omega))).trans (by go_simp); have c3 : w'.cell? ⟨w.heap.size + 1, 1, none⟩ = some (.int .i64 bd) := (hc _ _ (by first | omega | (simp; done) | (simp; omega))).trans (by go_simp); have hz : w.heap.size + 1 + 1 < w'.heap.size := (by have hs := hbb.size; first | omega | (simp at hs s5; omega)); have hbA : Below (w.heap.size + 1 + 1 + 1) W w' := Below.trans s4 (hbb.mono (by first | omega | (simp at s5; omega))); have hn0 : ¬ w.heap.size = w'.heap.size := (by omega); have hm0 : ¬ w'.heap.size = w.heap.size := (by omega); have hn1 : ¬ w.heap.size + 1 = w'.heap.size := (by omega); have hm1 : ¬ w'.heap.size = w.heap.size + 1 := (by omega); have hn2 : ¬ w.heap.size + 1 + 1 = w'.heap.size := (by omega); have hm2 : ¬ w'.heap.size = w.heap.size + 1 + 1 := (by omega); clear hc hf hbb s0 s1 s2 s3 s4 s5) | (go_at_call 49; refine Calls.mono (wide_plus (m1 := ?ma) (m2 := ?mb) _ _ _ _ _ _ _ (W1 := ?wa) (W2 := ?wb) ?wc) ?_; (case wa => assumption); (case wb => assumption); (case wc => exact Nat.lt_of_le_of_lt (Nat.add_le_add M1 M2) (by decide)); rintro e w' ⟨h, l, rfl, HP, hbb⟩; obtain ⟨s0, s1, s2, s3, s4, s5⟩ := ‹_ ∧ _ ∧ _ ∧ _ ∧ _ ∧ _›; (first | have cb := box_facts hbb | have cb := box_facts' hbb | have cb := box_trans (by assumption) hbb | skip); (first | (obtain ⟨x0, x1, x2, y0, y1, y2, yh⟩ := id cb; have yn := Nat.ne_of_gt yh; have ym := Nat.ne_of_lt yh) | skip); obtain ⟨hc, hf⟩ := bcell hbb; have c0 : w'.cell? ⟨w.heap.size, 0, none⟩ = some (.int .i64 an) := (hc _ _ (by first | omega | (simp; done) | (simp; omega))).trans (by go_simp); have c1 : w'.cell? ⟨w.heap.size, 1, none⟩ = some (.int .i64 ad) := (hc _ _ (by first | omega | (simp; done) | (simp; omega))).trans (by go_simp); have c2 : w'.cell? ⟨w.heap.size + 1, 0, none⟩ = some (.int .i64 bn) := (hc _ _ (by first | omega | (simp; done) | (simp; omega))).trans (by go_simp); have c3 : w'.cell? ⟨w.heap.size + 1, 1, none⟩ = some (.int .i64 bd) := (hc _ _ (by first | omega | (simp; done) | (simp; omega))).trans (by go_simp); have hz : w.heap.size + 1 + 1 < w'.heap.size := (by have hs := hbb.size; first | omega | (simp at hs s5; omega)); have hbA : Below (w.heap.size + 1 + 1 + 1) W w' := Below.trans s4 (hbb.mono (by first | omega | (simp at s5; omega))); have hn0 : ¬ w.heap.size = w'.heap.size := (by omega); have hm0 : ¬ w'.heap.size = w.heap.size := (by omega); have hn1 : ¬ w.heap.size + 1 = w'.heap.size := (by omega); have hm1 : ¬ w'.heap.size = w.heap.size + 1 := (by omega); have hn2 : ¬ w.heap.size + 1 + 1 = w'.heap.size := (by omega); have hm2 : ¬ w'.heap.size = w.heap.size + 1 + 1 := (by omega); clear hc hf hbb s0 s1 s2 s3 s4 s5))
    all_goals
      with_reducible apply_assumption
      refine Met.intro ?_
      with_reducible apply_assumption
      repeat apply Exists.intro
      refine ⟨?_, rfl⟩
      refine ⟨_, _, _, rfl, ⟨by assumption, ?_⟩, ⟨?_, ?_, ?_, ?_, ?_, ?_, ?_⟩, by assumption⟩
    all_goals first | (go_simp; done) | (simp; omega) | exact (by repeat (first | with_reducible exact Below.refl _ _ | with_reducible assumption | with_reducible refine below_drewN' ?_ _ | (with_reducible refine Below.setCell ?_ (by first | (simp; done) | (simp; omega)) _) | (with_reducible refine Below.alloc ?_ (by first | exact Nat.le_refl _ | (simp; done) | (simp; omega)) _))) | skip
  case rest =>
    obtain ⟨H, h, l, rfl, ⟨hH, hbX⟩, hbox, hWB⟩ := hcut
    have hT := Lib.hid ((wval_plus (decide (an < 0) != decide (D < 0)) (an.natAbs * D.natAbs) (decide (bn < 0) != decide (C < 0)) (bn.natAbs * C.natAbs)).trans (by rw [wval_product, wval_product]))
    generalize (plusW (decide (an < 0) != decide (D < 0)) (an.natAbs * D.natAbs) (decide (bn < 0) != decide (C < 0)) (bn.natAbs * C.natAbs)).1 = s at *
    generalize (plusW (decide (an < 0) != decide (D < 0)) (an.natAbs * D.natAbs) (decide (bn < 0) != decide (C < 0)) (bn.natAbs * C.natAbs)).2 = m at *
    have st := Lib.hid (AddSt.start HZ0.out hbB hbX d1 d3 d4 g4 d5 g5 hH hbox)
    have HWB := Lib.hid hWB
    clear hWB hbox hbX hbB hzB d0 d1 d2 d3 d4 d5 g0 g1 g2 g3 g4 g5 hn0 hm0 hn1 hm1 hn2 hm2 hH M1 M2
    obtain ⟨q0, ⟨q1', q2⟩, q3, q4', ⟨q5', q6⟩, ⟨q7, q8⟩, ⟨q9, q10, q11⟩, q12, q13, q14⟩ := st.out
    have HX : ∃ x : Int, Hid (sgnW s m = x) := ⟨_, rfl⟩
    obtain ⟨x, HX⟩ := HX
    have HXZ : Hid ((x == 0) = decide (an * D + bn * C = 0)) := by
      have hxx := HX.out
      have htt := hT.out
      show (x == 0) = _
      rw [← hxx, sgnW_zero, htt]
    have HS := Lib.hid (fun w => wide_sign s h l m w HWB.out)
    rw [HX.out] at HS
    go_wp2_with fail
    refine (HS.out _).mono ?_
    rintro e w1 ⟨rfl, hb1⟩
    have st1 := Lib.hid (st.out.step hb1)
    clear q0 q1' q2 q3 q4' q5' q6 q7 q8 q9 q10 q11 q12 q13 q14
    obtain ⟨q0, ⟨q1', q2⟩, q3, q4', ⟨q5', q6⟩, ⟨q7, q8⟩, ⟨q9, q10, q11⟩, q12, q13, q14⟩ := st1.out
    by_cases hT0 : an * D + bn * C = 0
    · have hx : (x == 0) = true := by rw [HXZ.out]; exact decide_eq_true hT0
      have HO : Hid (addS an ad bn bd = (0, 1, true)) := hZ.out hT0
      clear hT0
      go_wp2_with fail
      refine bodyPost_ret (v := .tuple #[.agg #[.int .i64 0, .int .i64 1], .bool true]) (by simp [results, Tryd.results24, go_sem, q5', q7]) rfl ?_
      rw [HO.out]
      exact ⟨rfl, (by repeat (first | with_reducible exact Below.refl _ _ | with_reducible assumption | with_reducible refine below_drewN' ?_ _ | (with_reducible refine Below.setCell ?_ (by first | (simp; done) | (simp; omega)) _) | (with_reducible refine Below.alloc ?_ (by first | exact Nat.le_refl _ | (simp; done) | (simp; omega)) _)))⟩
    · have hx : (x == 0) = false := by rw [HXZ.out]; exact decide_eq_false hT0
      clear hT0
      have HM := Lib.hid (fun w => wide_mod_i s h l m g w HWB.out e1 e2)
      have HR : ∃ r : Int, Hid (((m % g.toNat : Nat) : Int) = r) ∧ 0 ≤ r ∧ r ≤ 1000000000000000 := ⟨_, rfl, by omega, by have := Nat.mod_lt m (show 0 < g.toNat by omega); omega⟩
      obtain ⟨r, HR, r0, r1⟩ := HR
      have HK : Hid (cgcd r g = cgcd (an * D + bn * C) g) := by rw [← HR.out]; exact cgcd_mod m _ g (by rw [← hT.out, wval_abs]) e1
      rw [HR.out] at HM
      go_wp2_with (go_at_call 51; refine (HM.out _).mono ?_; rintro e w2 ⟨rfl, hb2⟩)
      refine (num_Gcd_below _ _ _).mono ?_
      rintro e w3 ⟨rfl, hb3⟩
      have st3 := Lib.hid ((st1.out.step hb2).step hb3)
      clear hb2 hb3
      clear q0 q1' q2 q3 q4' q5' q6 q7 q8 q9 q10 q11 q12 q13 q14
      obtain ⟨q0, ⟨q1', q2⟩, q3, q4', ⟨q5', q6⟩, ⟨q7, q8⟩, ⟨q9, q10, q11⟩, q12, q13, q14⟩ := st3.out
      have hgr : gcdV r g = cgcd r g := gcdV_yes (inB_true.2 ⟨by omega, by omega⟩) (inB_true.2 ⟨by omega, by omega⟩)
      rw [hgr]
      clear hgr
      obtain ⟨k1, k2⟩ := cgcd_bounds (n := r) (show g ≠ 0 by omega) ⟨by omega, by omega⟩
      have HKG : Hid (cgcd r g ∣ bd) := Int.dvd_trans (cgcd_right r g) HGD.out
      have HKT : Hid (cgcd r g ∣ an * D + bn * C) := by have hkk := HK.out; show _ ∣ _; rw [hkk]; exact cgcd_left _ _
      have HO : Hid (addS an ad bn bd = cutS ((an * D + bn * C) / cgcd r g) (C * (bd / cgcd r g))) := by have hkk := HK.out; have hoo := hO.out; show _ = _; rw [hkk]; exact hoo
      generalize cgcd r g = k at *
      obtain ⟨t1, -, -, t4, t5⟩ := quo_facts k1 HKG.out ⟨by omega, by omega⟩
      generalize bd / k = E at *
      have hk0 : (k == 0) = false := beq_eq_false_iff_ne.2 (by omega)
      have hk00 : ¬ k = 0 := by omega
      have HV := Lib.hid (fun w => wide_over_i s h l m k w HWB.out k1 k2)
      have HOV : Hid (inB ((an * D + bn * C) / k) = overB m k.toNat ∧ (overB m k.toNat = true → overV s m k.toNat = (an * D + bn * C) / k)) := by
        have ho := over_div s m k.toNat (by omega) (by rw [hT.out, show ((k.toNat : Nat) : Int) = k from by omega]; exact HKT.out)
        rw [hT.out, show ((k.toNat : Nat) : Int) = k from by omega] at ho
        exact ho
      generalize overV s m k.toNat = ov at *
      generalize overB m k.toNat = ob at *
      have HO2 : Hid (addS an ad bn bd = if ob && mulB C E then (ov, mulV C E, true) else (0, 0, false)) := by
        have hoo := HO.out
        obtain ⟨v1, v2⟩ := HOV.out
        have hm : mulB C E = inB (C * E) := by unfold mulB bothB; rw [inB_true.2 ⟨q4, q5⟩, inB_true.2 ⟨t4, t5⟩]; rfl
        show _ = _
        rw [hoo]
        unfold cutS
        rw [v1, hm]
        cases ob
        · rfl
        · rw [v2 rfl]
          cases h2 : inB (C * E)
          · rfl
          · rw [mul_yes (by rw [hm, h2])]
      go_wp2_with fail
      refine (HV.out _).mono ?_
      rintro e w4 ⟨rfl, hb4⟩
      have st4 := Lib.hid (st3.out.step hb4)
      clear hb4
      clear q0 q1' q2 q3 q4' q5' q6 q7 q8 q9 q10 q11 q12 q13 q14
      obtain ⟨q0, ⟨q1', q2⟩, q3, q4', ⟨q5', q6⟩, ⟨q7, q8⟩, ⟨q9, q10, q11⟩, q12, q13, q14⟩ := st4.out
      go_wp2_with fail
      cases hq : mulB C E
      all_goals
        go_quiet ((go_at_call 53; refine (num_Mul _ _ _).mono ?_; rintro e w' ⟨rfl, rfl⟩; exact ⟨rfl, _, rfl⟩))
        go_wp2_with fail
        rw [hq] at HO2
      · refine bodyPost_ret (v := .tuple #[.agg #[.int .i64 0, .int .i64 0], .bool false]) (by simp [results, Tryd.results24, go_sem, q5', q7]) rfl ?_
        rw [HO2.out, show ob = true from by simpa using ‹ob = true›]
        exact ⟨rfl, (by repeat (first | with_reducible exact Below.refl _ _ | with_reducible assumption | with_reducible refine below_drewN' ?_ _ | (with_reducible refine Below.setCell ?_ (by first | (simp; done) | (simp; omega)) _) | (with_reducible refine Below.alloc ?_ (by first | exact Nat.le_refl _ | (simp; done) | (simp; omega)) _)))⟩
      · refine bodyPost_ret (v := .tuple #[.agg #[.int .i64 0, .int .i64 0], .bool false]) (by simp [results, Tryd.results24, go_sem, q5', q7]) rfl ?_
        rw [HO2.out, show ob = false from by simpa using ‹¬ ob = true›]
        exact ⟨rfl, (by repeat (first | with_reducible exact Below.refl _ _ | with_reducible assumption | with_reducible refine below_drewN' ?_ _ | (with_reducible refine Below.setCell ?_ (by first | (simp; done) | (simp; omega)) _) | (with_reducible refine Below.alloc ?_ (by first | exact Nat.le_refl _ | (simp; done) | (simp; omega)) _)))⟩
      · refine bodyPost_ret (v := .tuple #[.agg #[.int .i64 ov, .int .i64 (mulV C E)], .bool true]) (by simp [results, Tryd.results24, go_sem, q5', q7]) rfl ?_
        rw [HO2.out, show ob = true from by simpa using ‹ob = true›]
        exact ⟨rfl, (by repeat (first | with_reducible exact Below.refl _ _ | with_reducible assumption | with_reducible refine below_drewN' ?_ _ | (with_reducible refine Below.setCell ?_ (by first | (simp; done) | (simp; omega)) _) | (with_reducible refine Below.alloc ?_ (by first | exact Nat.le_refl _ | (simp; done) | (simp; omega)) _)))⟩
      · refine bodyPost_ret (v := .tuple #[.agg #[.int .i64 0, .int .i64 0], .bool false]) (by simp [results, Tryd.results24, go_sem, q5', q7]) rfl ?_
        rw [HO2.out, show ob = false from by simpa using ‹¬ ob = true›]
        exact ⟨rfl, (by repeat (first | with_reducible exact Below.refl _ _ | with_reducible assumption | with_reducible refine below_drewN' ?_ _ | (with_reducible refine Below.setCell ?_ (by first | (simp; done) | (simp; omega)) _) | (with_reducible refine Below.alloc ?_ (by first | exact Nat.le_refl _ | (simp; done) | (simp; omega)) _)))⟩
set_option maxHeartbeats 1600000 in
theorem frac_Add_no (an ad bn bd : Int) (w : World) (h : validB an ad = false ∨ validB an ad = true ∧ validB bn bd = false) :
    Calls Tryd.prog 24 #[.agg #[.int .i64 an, .int .i64 ad], .agg #[.int .i64 bn, .int .i64 bd]] w (FracIs (addS an ad bn bd) w) := by
  have HO : Hid (addS an ad bn bd = (0, 0, false)) := by
    unfold addS
    rcases h with h | ⟨h, h'⟩
    · rw [h]; rfl
    · rw [h, h']; rfl
  rcases h with ha | ⟨ha, hb⟩
  all_goals
    go_enter Tryd.func24, Tryd.ntmps24
    go_wp2_with (go_at_call 46; refine (frac_Valid _ _ _).mono ?_; rintro e w' ⟨rfl, hbb⟩; obtain ⟨hc, hf⟩ := bcell hbb; have c0 : w'.cell? ⟨w.heap.size, 0, none⟩ = some (.int .i64 an) := (hc _ _ (by first | omega | (simp; done) | (simp; omega))).trans (by go_simp); have f0 : w'.frozen? ⟨w.heap.size, 0, none⟩ = false := (hf _ _ (by first | omega | (simp; done) | (simp; omega))).trans (by go_simp); have c1 : w'.cell? ⟨w.heap.size, 1, none⟩ = some (.int .i64 ad) := (hc _ _ (by first | omega | (simp; done) | (simp; omega))).trans (by go_simp); have f1 : w'.frozen? ⟨w.heap.size, 1, none⟩ = false := (hf _ _ (by first | omega | (simp; done) | (simp; omega))).trans (by go_simp); have c2 : w'.cell? ⟨w.heap.size + 1, 0, none⟩ = some (.int .i64 bn) := (hc _ _ (by first | omega | (simp; done) | (simp; omega))).trans (by go_simp); have f2 : w'.frozen? ⟨w.heap.size + 1, 0, none⟩ = false := (hf _ _ (by first | omega | (simp; done) | (simp; omega))).trans (by go_simp); have c3 : w'.cell? ⟨w.heap.size + 1, 1, none⟩ = some (.int .i64 bd) := (hc _ _ (by first | omega | (simp; done) | (simp; omega))).trans (by go_simp); have f3 : w'.frozen? ⟨w.heap.size + 1, 1, none⟩ = false := (hf _ _ (by first | omega | (simp; done) | (simp; omega))).trans (by go_simp); have c4 : w'.cell? ⟨w.heap.size + 1 + 1, 0, none⟩ = some (.int .i64 0) := (hc _ _ (by first | omega | (simp; done) | (simp; omega))).trans (by go_simp); have f4 : w'.frozen? ⟨w.heap.size + 1 + 1, 0, none⟩ = false := (hf _ _ (by first | omega | (simp; done) | (simp; omega))).trans (by go_simp); have c5 : w'.cell? ⟨w.heap.size + 1 + 1, 1, none⟩ = some (.int .i64 0) := (hc _ _ (by first | omega | (simp; done) | (simp; omega))).trans (by go_simp); have f5 : w'.frozen? ⟨w.heap.size + 1 + 1, 1, none⟩ = false := (hf _ _ (by first | omega | (simp; done) | (simp; omega))).trans (by go_simp); have hz : w.heap.size + 1 + 1 < w'.heap.size := (by have hs := hbb.size; first | omega | (simp at hs; done) | (simp at hs; omega)); have hbA : Below w.heap.size w w' := Below.trans (b := _) (by repeat (first | with_reducible exact Below.refl _ _ | with_reducible assumption | with_reducible refine below_drewN' ?_ _ | (with_reducible refine Below.setCell ?_ (by first | (simp; done) | (simp; omega)) _) | (with_reducible refine Below.alloc ?_ (by first | exact Nat.le_refl _ | (simp; done) | (simp; omega)) _))) (hbb.mono (by first | omega | (simp; done) | (simp; omega))); clear hc hf hbb)
    refine bodyPost_ret (v := .tuple #[.agg #[.int .i64 0, .int .i64 0], .bool false]) (by simp [results, Tryd.results24, go_sem, c4, c5]) rfl ?_
    rw [HO.out]
    exact ⟨rfl, (by repeat (first | with_reducible exact Below.refl _ _ | with_reducible assumption | with_reducible refine below_drewN' ?_ _ | (with_reducible refine Below.setCell ?_ (by first | (simp; done) | (simp; omega)) _) | (with_reducible refine Below.alloc ?_ (by first | exact Nat.le_refl _ | (simp; done) | (simp; omega)) _)))⟩
theorem frac_Add (an ad bn bd : Int) (w : World) (hZ0 : ZeroAt w) :
    Calls Tryd.prog 24 #[.agg #[.int .i64 an, .int .i64 ad], .agg #[.int .i64 bn, .int .i64 bd]] w (FracIs (addS an ad bn bd) w) := by
  cases ha : validB an ad
  · exact frac_Add_no _ _ _ _ w (.inl ha)
  · cases hb : validB bn bd
    · exact frac_Add_no _ _ _ _ w (.inr ⟨ha, hb⟩)
    · exact frac_Add_yes _ _ _ _ w hZ0 ha hb
end Go.Proofs.YtlkpmbkmmfoakaaDoor

/- THE WALKS over package frac: Sub, Cmp, Floor. -/
namespace Go.Proofs.YtlkpmbkmmfoakaaDoor
open Go.RowKit
/-- the difference -/
def subS (an ad bn bd : Int) : Int × Int × Bool := addS an ad (-bn) bd
set_option maxHeartbeats 1600000 in
theorem frac_Sub (an ad bn bd : Int) (w : World) (hZ0 : ZeroAt w) (hb1 : -9223372036854775808 ≤ bn) (hb2 : bn ≤ 9223372036854775807) :
    Calls Tryd.prog 97 #[.agg #[.int .i64 an, .int .i64 ad], .agg #[.int .i64 bn, .int .i64 bd]] w (FracIs (subS an ad bn bd) w) := by
  have HZ0 := Lib.hid hZ0
  have HS : ∃ nb : Int, IntKind.i64.wrap (-bn) = nb ∧ Hid (subS an ad bn bd = addS an ad nb bd) := by
    by_cases hm : bn = -9223372036854775808
    · refine ⟨-9223372036854775808, ?_, ?_⟩
      · rw [hm]; decide
      · have v1 : validB (-bn) bd = false := validB_no3 (inB_false.2 (by omega))
        have v2 : validB (-9223372036854775808) bd = false := validB_no3 (inB_false.2 (by omega))
        show subS _ _ _ _ = _
        unfold subS addS
        rw [v1, v2, Bool.and_false]
        rfl
    · exact ⟨-bn, IntWalk.i64_in _ ⟨by omega, by omega⟩, Lib.hid rfl⟩
  obtain ⟨nb, hnb, HS⟩ := HS
  clear hZ0 hb1 hb2
  go_enter Tryd.func97, Tryd.ntmps97
  go_wp2_with (go_at_call 24; refine Calls.mono (frac_Add _ _ _ _ _ ?hz) ?_; (case hz => exact HZ0.out.below (by repeat (first | with_reducible exact Below.refl _ _ | with_reducible assumption | with_reducible refine below_drewN' ?_ _ | (with_reducible refine Below.setCell ?_ (by first | (simp; done) | (simp; omega)) _) | (with_reducible refine Below.alloc ?_ (by first | exact Nat.le_refl _ | (simp; done) | (simp; omega)) _)))); rintro e w' ⟨rfl, hbb⟩; obtain ⟨hc, hf⟩ := bcell hbb; have c0 : w'.cell? ⟨w.heap.size + 1 + 1, 0, none⟩ = some (.int .i64 0) := (hc _ _ (by first | omega | (simp; done) | (simp; omega))).trans (by go_simp); have f0 : w'.frozen? ⟨w.heap.size + 1 + 1, 0, none⟩ = false := (hf _ _ (by first | omega | (simp; done) | (simp; omega))).trans (by go_simp); have c1 : w'.cell? ⟨w.heap.size + 1 + 1, 1, none⟩ = some (.int .i64 0) := (hc _ _ (by first | omega | (simp; done) | (simp; omega))).trans (by go_simp); have f1 : w'.frozen? ⟨w.heap.size + 1 + 1, 1, none⟩ = false := (hf _ _ (by first | omega | (simp; done) | (simp; omega))).trans (by go_simp); have hz : w.heap.size + 1 + 1 < w'.heap.size := (by have hs := hbb.size; first | omega | (simp at hs; done) | (simp at hs; omega)); have hbA : Below w.heap.size w w' := Below.trans (b := _) (by repeat (first | with_reducible exact Below.refl _ _ | with_reducible assumption | with_reducible refine below_drewN' ?_ _ | (with_reducible refine Below.setCell ?_ (by first | (simp; done) | (simp; omega)) _) | (with_reducible refine Below.alloc ?_ (by first | exact Nat.le_refl _ | (simp; done) | (simp; omega)) _))) (hbb.mono (by first | omega | (simp; done) | (simp; omega))); clear hc hf hbb)
  refine bodyPost_ret (v := .tuple #[.agg #[.int .i64 (addS an ad nb bd).1, .int .i64 (addS an ad nb bd).2.1], .bool (addS an ad nb bd).2.2]) (by simp [results, Tryd.results97, go_sem, c0, c1]) rfl ?_
  rw [HS.out]
  exact ⟨rfl, (by repeat (first | with_reducible exact Below.refl _ _ | with_reducible assumption | with_reducible refine below_drewN' ?_ _ | (with_reducible refine Below.setCell ?_ (by first | (simp; done) | (simp; omega)) _) | (with_reducible refine Below.alloc ?_ (by first | exact Nat.le_refl _ | (simp; done) | (simp; omega)) _)))⟩
/-- the order -/
def fixN (n d : Int) : Int := if validB n d then n else 0
def fixD (n d : Int) : Int := if validB n d then d else 1
def cmpS (an ad bn bd : Int) : Int := sgn (fixN an ad * fixD bn bd - fixN bn bd * fixD an ad)
theorem fix_bounds (n d : Int) : (-1000000000000000 ≤ fixN n d ∧ fixN n d ≤ 1000000000000000) ∧ (-1000000000000000 ≤ fixD n d ∧ fixD n d ≤ 1000000000000000) := by
  unfold fixN fixD
  cases h : validB n d
  · simp
  · obtain ⟨h1, h2, h3, h4⟩ := validB_iff.1 h
    simp only [if_true]; omega
/-- what Cmp's frame holds behind its checks -/
def CmpSt (w : World) (A B C D : Int) (V : World) : Prop :=
  Below w.heap.size w V ∧ w.heap.size + 1 < V.heap.size ∧ V.cell? ⟨w.heap.size, 0, none⟩ = some (.int .i64 A) ∧ V.cell? ⟨w.heap.size, 1, none⟩ = some (.int .i64 B) ∧ V.cell? ⟨w.heap.size + 1, 0, none⟩ = some (.int .i64 C) ∧ V.cell? ⟨w.heap.size + 1, 1, none⟩ = some (.int .i64 D)
theorem CmpSt.step {w : World} {A B C D : Int} {V V' : World} (q : CmpSt w A B C D V) (hb : Below V.heap.size V V') : CmpSt w A B C D V' := by
  obtain ⟨q0, q1, q2, q3, q4, q5⟩ := q
  obtain ⟨hc, hf⟩ := bcell hb
  have hs := hb.size
  exact ⟨below_step q0 hb, by omega, (hc _ _ (by omega)).trans q2, (hc _ _ (by omega)).trans q3, (hc _ _ (by omega)).trans q4, (hc _ _ (by omega)).trans q5⟩
theorem CmpSt.conj {w : World} {A B C D : Int} {V : World} (q : CmpSt w A B C D V) : V.cell? ⟨w.heap.size, 0, none⟩ = some (.int .i64 A) ∧ V.cell? ⟨w.heap.size, 1, none⟩ = some (.int .i64 B) ∧ V.cell? ⟨w.heap.size + 1, 0, none⟩ = some (.int .i64 C) ∧ V.cell? ⟨w.heap.size + 1, 1, none⟩ = some (.int .i64 D) ∧ CmpSt w A B C D V :=
  ⟨q.2.2.1, q.2.2.2.1, q.2.2.2.2.1, q.2.2.2.2.2, q⟩
theorem CmpSt.drew {w : World} {A B C D : Int} {V : World} (q : CmpSt w A B C D V) : CmpSt w A B C D V.drew := q.step (below_drew' (Below.refl _ _))
theorem wval_product_neg (C B : Int) : wval (decide (0 < C) != decide (B < 0)) (C.natAbs * B.natAbs) = -C * B := by
  have h := wval_product (-C) B
  rw [Int.natAbs_neg] at h
  rw [show decide (0 < C) = decide (-C < 0) from decide_eq_decide.2 (by omega)]
  exact h
theorem fix_no {n d : Int} (h : validB n d = false) : fixN n d = 0 ∧ fixD n d = 1 := by unfold fixN fixD; rw [h]; exact ⟨rfl, rfl⟩
theorem fix_yes {n d : Int} (h : validB n d = true) : fixN n d = n ∧ fixD n d = d := by unfold fixN fixD; rw [h]; exact ⟨rfl, rfl⟩
set_option maxHeartbeats 3200000 in
theorem frac_Cmp (an ad bn bd : Int) (w : World) (hZ0 : ZeroAt w) :
    Calls Tryd.prog 31 #[.agg #[.int .i64 an, .int .i64 ad], .agg #[.int .i64 bn, .int .i64 bd]] w fun e w' => e = .returned (.int .i64 (cmpS an ad bn bd)) ∧ Below w.heap.size w w' := by
  obtain ⟨⟨x1, x2⟩, x3, x4⟩ := fix_bounds an ad
  obtain ⟨⟨y1, y2⟩, y3, y4⟩ := fix_bounds bn bd
  have HR : Hid (cmpS an ad bn bd = sgn (fixN an ad * fixD bn bd - fixN bn bd * fixD an ad)) := Lib.hid rfl
  generalize cmpS an ad bn bd = R at *
  obtain ⟨z0, z1, z2⟩ := hZ0
  obtain ⟨A, hA⟩ : ∃ A, Hid (fixN an ad = A) := ⟨_, rfl⟩
  obtain ⟨B, hB⟩ : ∃ B, Hid (fixD an ad = B) := ⟨_, rfl⟩
  obtain ⟨C, hC⟩ : ∃ C, Hid (fixN bn bd = C) := ⟨_, rfl⟩
  obtain ⟨D, hD⟩ : ∃ D, Hid (fixD bn bd = D) := ⟨_, rfl⟩
  rw [hA.out, hB.out, hC.out, hD.out] at HR
  rw [hA.out] at x1 x2
  rw [hB.out] at x3 x4
  rw [hC.out] at y1 y2
  rw [hD.out] at y3 y4
  have M1 := mul_lt_wide (a := A) (b := D) ⟨x1, x2⟩ ⟨y3, y4⟩
  have M2 := mul_lt_wide (a := -C) (b := B) ⟨by omega, by omega⟩ ⟨x3, x4⟩
  have hn0 : ¬ w.heap.size = 0 := by omega
  have hm0 : ¬ 0 = w.heap.size := by omega
  cases ha : validB an ad <;> cases hb : validB bn bd
  · have hSt : Hid (∀ V, CmpSt w 0 1 0 1 V → CmpSt w A B C D V) := by
      intro V hV
      rw [← hA.out, ← hB.out, ← hC.out, ← hD.out, (fix_no ha).1, (fix_no ha).2, (fix_no hb).1, (fix_no hb).2]
      exact hV
    go_enter Tryd.func31, Tryd.ntmps31
    go_wp2_with fail
    refine (frac_Valid _ _ _).mono ?_
    rintro e w' ⟨rfl, hbb⟩
    obtain ⟨hc, hf⟩ := bcell hbb
    have c0 : w'.cell? ⟨w.heap.size, 0, none⟩ = some (.int .i64 an) := (hc _ _ (by first | omega | (simp; done) | (simp; omega))).trans (by go_simp); have f0 : w'.frozen? ⟨w.heap.size, 0, none⟩ = false := (hf _ _ (by first | omega | (simp; done) | (simp; omega))).trans (by go_simp); have c1 : w'.cell? ⟨w.heap.size, 1, none⟩ = some (.int .i64 ad) := (hc _ _ (by first | omega | (simp; done) | (simp; omega))).trans (by go_simp); have f1 : w'.frozen? ⟨w.heap.size, 1, none⟩ = false := (hf _ _ (by first | omega | (simp; done) | (simp; omega))).trans (by go_simp); have c2 : w'.cell? ⟨w.heap.size + 1, 0, none⟩ = some (.int .i64 bn) := (hc _ _ (by first | omega | (simp; done) | (simp; omega))).trans (by go_simp); have f2 : w'.frozen? ⟨w.heap.size + 1, 0, none⟩ = false := (hf _ _ (by first | omega | (simp; done) | (simp; omega))).trans (by go_simp); have c3 : w'.cell? ⟨w.heap.size + 1, 1, none⟩ = some (.int .i64 bd) := (hc _ _ (by first | omega | (simp; done) | (simp; omega))).trans (by go_simp); have f3 : w'.frozen? ⟨w.heap.size + 1, 1, none⟩ = false := (hf _ _ (by first | omega | (simp; done) | (simp; omega))).trans (by go_simp); have k0 : w'.cell? ⟨0, 0, none⟩ = some (.int .i64 0) := (hc _ _ (by first | omega | (simp; done) | (simp; omega))).trans (by go_simp); have k1 : w'.cell? ⟨0, 1, none⟩ = some (.int .i64 1) := (hc _ _ (by first | omega | (simp; done) | (simp; omega))).trans (by go_simp); have hz : w.heap.size + 1 < w'.heap.size := (by have hs := hbb.size; first | omega | (simp at hs; done) | (simp at hs; omega)); have hbA : Below w.heap.size w w' := Below.trans (b := _) (by repeat (first | with_reducible exact Below.refl _ _ | with_reducible assumption | with_reducible refine below_drewN' ?_ _ | (with_reducible refine Below.setCell ?_ (by first | (simp; done) | (simp; omega)) _) | (with_reducible refine Below.alloc ?_ (by first | exact Nat.le_refl _ | (simp; done) | (simp; omega)) _))) (hbb.mono (by first | omega | (simp; done) | (simp; omega))); clear hc hf hbb
    go_wp2_with fail
    refine (frac_Valid _ _ _).mono ?_
    rintro e w' ⟨rfl, hbb⟩
    obtain ⟨hc, hf⟩ := bcell hbb
    have c0 : w'.cell? ⟨w.heap.size, 0, none⟩ = some (.int .i64 0) := (hc _ _ (by first | omega | (simp; done) | (simp; omega))).trans (by go_simp); have f0 : w'.frozen? ⟨w.heap.size, 0, none⟩ = false := (hf _ _ (by first | omega | (simp; done) | (simp; omega))).trans (by go_simp); have c1 : w'.cell? ⟨w.heap.size, 1, none⟩ = some (.int .i64 1) := (hc _ _ (by first | omega | (simp; done) | (simp; omega))).trans (by go_simp); have f1 : w'.frozen? ⟨w.heap.size, 1, none⟩ = false := (hf _ _ (by first | omega | (simp; done) | (simp; omega))).trans (by go_simp); have c2 : w'.cell? ⟨w.heap.size + 1, 0, none⟩ = some (.int .i64 bn) := (hc _ _ (by first | omega | (simp; done) | (simp; omega))).trans (by go_simp); have f2 : w'.frozen? ⟨w.heap.size + 1, 0, none⟩ = false := (hf _ _ (by first | omega | (simp; done) | (simp; omega))).trans (by go_simp); have c3 : w'.cell? ⟨w.heap.size + 1, 1, none⟩ = some (.int .i64 bd) := (hc _ _ (by first | omega | (simp; done) | (simp; omega))).trans (by go_simp); have f3 : w'.frozen? ⟨w.heap.size + 1, 1, none⟩ = false := (hf _ _ (by first | omega | (simp; done) | (simp; omega))).trans (by go_simp); have k0 : w'.cell? ⟨0, 0, none⟩ = some (.int .i64 0) := (hc _ _ (by first | omega | (simp; done) | (simp; omega))).trans (by go_simp); have k1 : w'.cell? ⟨0, 1, none⟩ = some (.int .i64 1) := (hc _ _ (by first | omega | (simp; done) | (simp; omega))).trans (by go_simp); have hz : w.heap.size + 1 < w'.heap.size := (by have hs := hbb.size; first | omega | (simp at hs; done) | (simp at hs; omega)); have hbA : Below w.heap.size w w' := Below.trans (b := _) (by repeat (first | with_reducible exact Below.refl _ _ | with_reducible assumption | with_reducible refine below_drewN' ?_ _ | (with_reducible refine Below.setCell ?_ (by first | (simp; done) | (simp; omega)) _) | (with_reducible refine Below.alloc ?_ (by first | exact Nat.le_refl _ | (simp; done) | (simp; omega)) _))) (hbb.mono (by first | omega | (simp; done) | (simp; omega))); clear hc hf hbb
    go_wp2_with fail
    refine forget_world (CmpSt w 0 1 0 1) ⟨(by repeat (first | with_reducible exact Below.refl _ _ | with_reducible assumption | with_reducible refine below_drewN' ?_ _ | (with_reducible refine Below.setCell ?_ (by first | (simp; done) | (simp; omega)) _) | (with_reducible refine Below.alloc ?_ (by first | exact Nat.le_refl _ | (simp; done) | (simp; omega)) _))), by first | (go_simp; done) | (simp; omega), by go_simp, by go_simp, by go_simp, by go_simp⟩ ?_
    clear c0 c1 c2 c3 f0 f1 f2 f3 k0 k1 hz hbA
    intro V hV
    have hV2 := hSt.out V hV
    clear hV hSt hA hB hC hD ha hb
    have J1 : IntKind.i64.wrap (-C) = -C := IntWalk.i64_in _ ⟨by omega, by omega⟩
    go_region_held3 (fun V => V.cell? ⟨w.heap.size, 0, none⟩ = some (.int .i64 A) ∧ V.cell? ⟨w.heap.size, 1, none⟩ = some (.int .i64 B) ∧ V.cell? ⟨w.heap.size + 1, 0, none⟩ = some (.int .i64 C) ∧ V.cell? ⟨w.heap.size + 1, 1, none⟩ = some (.int .i64 D) ∧ CmpSt w A B C D V) (first | exact (CmpSt.drew hV2).conj | exact CmpSt.conj (by assumption)) (first | (go_at_call 48; refine (frac_product _ _ _ ⟨by omega, by omega⟩ ⟨by omega, by omega⟩).mono ?_; rintro e w' ⟨h, l, rfl, HW, hbb⟩; have hst := CmpSt.step (‹_ ∧ _ ∧ _ ∧ _ ∧ CmpSt _ _ _ _ _ _›.2.2.2.2) hbb) | (go_at_call 49; refine Calls.mono (wide_plus (m1 := ?ma) (m2 := ?mb) _ _ _ _ _ _ _ (W1 := ?wa) (W2 := ?wb) ?wc) ?_; (case wa => assumption); (case wb => assumption); (case wc => exact Nat.lt_of_le_of_lt (Nat.add_le_add M1 M2) (by decide)); rintro e w' ⟨h, l, rfl, HP, hbb⟩; have hst := CmpSt.step (‹_ ∧ _ ∧ _ ∧ _ ∧ CmpSt _ _ _ _ _ _›.2.2.2.2) hbb) | (go_at_call 50; refine Calls.mono (wide_sign _ _ _ ?md _ ?wd) ?_; (case wd => assumption); rintro e w' ⟨rfl, hbb⟩; have hst := CmpSt.step (‹_ ∧ _ ∧ _ ∧ _ ∧ CmpSt _ _ _ _ _ _›.2.2.2.2) hbb))
    all_goals go_wp2_with fail
    all_goals go_ret
    all_goals refine ⟨ret_int ?_, (‹_ ∧ _ ∧ _ ∧ _ ∧ CmpSt _ _ _ _ _ _›.2.2.2.2).1⟩
    all_goals rw [HR.out, sgnW_sgn, wval_plus, wval_product, wval_product_neg]
    all_goals (congr 1; rw [Int.neg_mul]; omega)
  · have hSt : Hid (∀ V, CmpSt w 0 1 bn bd V → CmpSt w A B C D V) := by
      intro V hV
      rw [← hA.out, ← hB.out, ← hC.out, ← hD.out, (fix_no ha).1, (fix_no ha).2, (fix_yes hb).1, (fix_yes hb).2]
      exact hV
    go_enter Tryd.func31, Tryd.ntmps31
    go_wp2_with fail
    refine (frac_Valid _ _ _).mono ?_
    rintro e w' ⟨rfl, hbb⟩
    obtain ⟨hc, hf⟩ := bcell hbb
    have c0 : w'.cell? ⟨w.heap.size, 0, none⟩ = some (.int .i64 an) := (hc _ _ (by first | omega | (simp; done) | (simp; omega))).trans (by go_simp); have f0 : w'.frozen? ⟨w.heap.size, 0, none⟩ = false := (hf _ _ (by first | omega | (simp; done) | (simp; omega))).trans (by go_simp); have c1 : w'.cell? ⟨w.heap.size, 1, none⟩ = some (.int .i64 ad) := (hc _ _ (by first | omega | (simp; done) | (simp; omega))).trans (by go_simp); have f1 : w'.frozen? ⟨w.heap.size, 1, none⟩ = false := (hf _ _ (by first | omega | (simp; done) | (simp; omega))).trans (by go_simp); have c2 : w'.cell? ⟨w.heap.size + 1, 0, none⟩ = some (.int .i64 bn) := (hc _ _ (by first | omega | (simp; done) | (simp; omega))).trans (by go_simp); have f2 : w'.frozen? ⟨w.heap.size + 1, 0, none⟩ = false := (hf _ _ (by first | omega | (simp; done) | (simp; omega))).trans (by go_simp); have c3 : w'.cell? ⟨w.heap.size + 1, 1, none⟩ = some (.int .i64 bd) := (hc _ _ (by first | omega | (simp; done) | (simp; omega))).trans (by go_simp); have f3 : w'.frozen? ⟨w.heap.size + 1, 1, none⟩ = false := (hf _ _ (by first | omega | (simp; done) | (simp; omega))).trans (by go_simp); have k0 : w'.cell? ⟨0, 0, none⟩ = some (.int .i64 0) := (hc _ _ (by first | omega | (simp; done) | (simp; omega))).trans (by go_simp); have k1 : w'.cell? ⟨0, 1, none⟩ = some (.int .i64 1) := (hc _ _ (by first | omega | (simp; done) | (simp; omega))).trans (by go_simp); have hz : w.heap.size + 1 < w'.heap.size := (by have hs := hbb.size; first | omega | (simp at hs; done) | (simp at hs; omega)); have hbA : Below w.heap.size w w' := Below.trans (b := _) (by repeat (first | with_reducible exact Below.refl _ _ | with_reducible assumption | with_reducible refine below_drewN' ?_ _ | (with_reducible refine Below.setCell ?_ (by first | (simp; done) | (simp; omega)) _) | (with_reducible refine Below.alloc ?_ (by first | exact Nat.le_refl _ | (simp; done) | (simp; omega)) _))) (hbb.mono (by first | omega | (simp; done) | (simp; omega))); clear hc hf hbb
    go_wp2_with fail
    refine (frac_Valid _ _ _).mono ?_
    rintro e w' ⟨rfl, hbb⟩
    obtain ⟨hc, hf⟩ := bcell hbb
    have c0 : w'.cell? ⟨w.heap.size, 0, none⟩ = some (.int .i64 0) := (hc _ _ (by first | omega | (simp; done) | (simp; omega))).trans (by go_simp); have f0 : w'.frozen? ⟨w.heap.size, 0, none⟩ = false := (hf _ _ (by first | omega | (simp; done) | (simp; omega))).trans (by go_simp); have c1 : w'.cell? ⟨w.heap.size, 1, none⟩ = some (.int .i64 1) := (hc _ _ (by first | omega | (simp; done) | (simp; omega))).trans (by go_simp); have f1 : w'.frozen? ⟨w.heap.size, 1, none⟩ = false := (hf _ _ (by first | omega | (simp; done) | (simp; omega))).trans (by go_simp); have c2 : w'.cell? ⟨w.heap.size + 1, 0, none⟩ = some (.int .i64 bn) := (hc _ _ (by first | omega | (simp; done) | (simp; omega))).trans (by go_simp); have f2 : w'.frozen? ⟨w.heap.size + 1, 0, none⟩ = false := (hf _ _ (by first | omega | (simp; done) | (simp; omega))).trans (by go_simp); have c3 : w'.cell? ⟨w.heap.size + 1, 1, none⟩ = some (.int .i64 bd) := (hc _ _ (by first | omega | (simp; done) | (simp; omega))).trans (by go_simp); have f3 : w'.frozen? ⟨w.heap.size + 1, 1, none⟩ = false := (hf _ _ (by first | omega | (simp; done) | (simp; omega))).trans (by go_simp); have k0 : w'.cell? ⟨0, 0, none⟩ = some (.int .i64 0) := (hc _ _ (by first | omega | (simp; done) | (simp; omega))).trans (by go_simp); have k1 : w'.cell? ⟨0, 1, none⟩ = some (.int .i64 1) := (hc _ _ (by first | omega | (simp; done) | (simp; omega))).trans (by go_simp); have hz : w.heap.size + 1 < w'.heap.size := (by have hs := hbb.size; first | omega | (simp at hs; done) | (simp at hs; omega)); have hbA : Below w.heap.size w w' := Below.trans (b := _) (by repeat (first | with_reducible exact Below.refl _ _ | with_reducible assumption | with_reducible refine below_drewN' ?_ _ | (with_reducible refine Below.setCell ?_ (by first | (simp; done) | (simp; omega)) _) | (with_reducible refine Below.alloc ?_ (by first | exact Nat.le_refl _ | (simp; done) | (simp; omega)) _))) (hbb.mono (by first | omega | (simp; done) | (simp; omega))); clear hc hf hbb
    go_wp2_with fail
    refine forget_world (CmpSt w 0 1 bn bd) ⟨(by repeat (first | with_reducible exact Below.refl _ _ | with_reducible assumption | with_reducible refine below_drewN' ?_ _ | (with_reducible refine Below.setCell ?_ (by first | (simp; done) | (simp; omega)) _) | (with_reducible refine Below.alloc ?_ (by first | exact Nat.le_refl _ | (simp; done) | (simp; omega)) _))), by first | (go_simp; done) | (simp; omega), by go_simp, by go_simp, by go_simp, by go_simp⟩ ?_
    clear c0 c1 c2 c3 f0 f1 f2 f3 k0 k1 hz hbA
    intro V hV
    have hV2 := hSt.out V hV
    clear hV hSt hA hB hC hD ha hb
    have J1 : IntKind.i64.wrap (-C) = -C := IntWalk.i64_in _ ⟨by omega, by omega⟩
    go_region_held3 (fun V => V.cell? ⟨w.heap.size, 0, none⟩ = some (.int .i64 A) ∧ V.cell? ⟨w.heap.size, 1, none⟩ = some (.int .i64 B) ∧ V.cell? ⟨w.heap.size + 1, 0, none⟩ = some (.int .i64 C) ∧ V.cell? ⟨w.heap.size + 1, 1, none⟩ = some (.int .i64 D) ∧ CmpSt w A B C D V) (first | exact (CmpSt.drew hV2).conj | exact CmpSt.conj (by assumption)) (first | (go_at_call 48; refine (frac_product _ _ _ ⟨by omega, by omega⟩ ⟨by omega, by omega⟩).mono ?_; rintro e w' ⟨h, l, rfl, HW, hbb⟩; have hst := CmpSt.step (‹_ ∧ _ ∧ _ ∧ _ ∧ CmpSt _ _ _ _ _ _›.2.2.2.2) hbb) | (go_at_call 49; refine Calls.mono (wide_plus (m1 := ?ma) (m2 := ?mb) _ _ _ _ _ _ _ (W1 := ?wa) (W2 := ?wb) ?wc) ?_; (case wa => assumption); (case wb => assumption); (case wc => exact Nat.lt_of_le_of_lt (Nat.add_le_add M1 M2) (by decide)); rintro e w' ⟨h, l, rfl, HP, hbb⟩; have hst := CmpSt.step (‹_ ∧ _ ∧ _ ∧ _ ∧ CmpSt _ _ _ _ _ _›.2.2.2.2) hbb) | (go_at_call 50; refine Calls.mono (wide_sign _ _ _ ?md _ ?wd) ?_; (case wd => assumption); rintro e w' ⟨rfl, hbb⟩; have hst := CmpSt.step (‹_ ∧ _ ∧ _ ∧ _ ∧ CmpSt _ _ _ _ _ _›.2.2.2.2) hbb))
    all_goals go_wp2_with fail
    all_goals go_ret
    all_goals refine ⟨ret_int ?_, (‹_ ∧ _ ∧ _ ∧ _ ∧ CmpSt _ _ _ _ _ _›.2.2.2.2).1⟩
    all_goals rw [HR.out, sgnW_sgn, wval_plus, wval_product, wval_product_neg]
    all_goals (congr 1; rw [Int.neg_mul]; omega)
  · have hSt : Hid (∀ V, CmpSt w an ad 0 1 V → CmpSt w A B C D V) := by
      intro V hV
      rw [← hA.out, ← hB.out, ← hC.out, ← hD.out, (fix_yes ha).1, (fix_yes ha).2, (fix_no hb).1, (fix_no hb).2]
      exact hV
    go_enter Tryd.func31, Tryd.ntmps31
    go_wp2_with fail
    refine (frac_Valid _ _ _).mono ?_
    rintro e w' ⟨rfl, hbb⟩
    obtain ⟨hc, hf⟩ := bcell hbb
    have c0 : w'.cell? ⟨w.heap.size, 0, none⟩ = some (.int .i64 an) := (hc _ _ (by first | omega | (simp; done) | (simp; omega))).trans (by go_simp); have f0 : w'.frozen? ⟨w.heap.size, 0, none⟩ = false := (hf _ _ (by first | omega | (simp; done) | (simp; omega))).trans (by go_simp); have c1 : w'.cell? ⟨w.heap.size, 1, none⟩ = some (.int .i64 ad) := (hc _ _ (by first | omega | (simp; done) | (simp; omega))).trans (by go_simp); have f1 : w'.frozen? ⟨w.heap.size, 1, none⟩ = false := (hf _ _ (by first | omega | (simp; done) | (simp; omega))).trans (by go_simp); have c2 : w'.cell? ⟨w.heap.size + 1, 0, none⟩ = some (.int .i64 bn) := (hc _ _ (by first | omega | (simp; done) | (simp; omega))).trans (by go_simp); have f2 : w'.frozen? ⟨w.heap.size + 1, 0, none⟩ = false := (hf _ _ (by first | omega | (simp; done) | (simp; omega))).trans (by go_simp); have c3 : w'.cell? ⟨w.heap.size + 1, 1, none⟩ = some (.int .i64 bd) := (hc _ _ (by first | omega | (simp; done) | (simp; omega))).trans (by go_simp); have f3 : w'.frozen? ⟨w.heap.size + 1, 1, none⟩ = false := (hf _ _ (by first | omega | (simp; done) | (simp; omega))).trans (by go_simp); have k0 : w'.cell? ⟨0, 0, none⟩ = some (.int .i64 0) := (hc _ _ (by first | omega | (simp; done) | (simp; omega))).trans (by go_simp); have k1 : w'.cell? ⟨0, 1, none⟩ = some (.int .i64 1) := (hc _ _ (by first | omega | (simp; done) | (simp; omega))).trans (by go_simp); have hz : w.heap.size + 1 < w'.heap.size := (by have hs := hbb.size; first | omega | (simp at hs; done) | (simp at hs; omega)); have hbA : Below w.heap.size w w' := Below.trans (b := _) (by repeat (first | with_reducible exact Below.refl _ _ | with_reducible assumption | with_reducible refine below_drewN' ?_ _ | (with_reducible refine Below.setCell ?_ (by first | (simp; done) | (simp; omega)) _) | (with_reducible refine Below.alloc ?_ (by first | exact Nat.le_refl _ | (simp; done) | (simp; omega)) _))) (hbb.mono (by first | omega | (simp; done) | (simp; omega))); clear hc hf hbb
    go_wp2_with fail
    refine (frac_Valid _ _ _).mono ?_
    rintro e w' ⟨rfl, hbb⟩
    obtain ⟨hc, hf⟩ := bcell hbb
    have c0 : w'.cell? ⟨w.heap.size, 0, none⟩ = some (.int .i64 an) := (hc _ _ (by first | omega | (simp; done) | (simp; omega))).trans (by go_simp); have f0 : w'.frozen? ⟨w.heap.size, 0, none⟩ = false := (hf _ _ (by first | omega | (simp; done) | (simp; omega))).trans (by go_simp); have c1 : w'.cell? ⟨w.heap.size, 1, none⟩ = some (.int .i64 ad) := (hc _ _ (by first | omega | (simp; done) | (simp; omega))).trans (by go_simp); have f1 : w'.frozen? ⟨w.heap.size, 1, none⟩ = false := (hf _ _ (by first | omega | (simp; done) | (simp; omega))).trans (by go_simp); have c2 : w'.cell? ⟨w.heap.size + 1, 0, none⟩ = some (.int .i64 bn) := (hc _ _ (by first | omega | (simp; done) | (simp; omega))).trans (by go_simp); have f2 : w'.frozen? ⟨w.heap.size + 1, 0, none⟩ = false := (hf _ _ (by first | omega | (simp; done) | (simp; omega))).trans (by go_simp); have c3 : w'.cell? ⟨w.heap.size + 1, 1, none⟩ = some (.int .i64 bd) := (hc _ _ (by first | omega | (simp; done) | (simp; omega))).trans (by go_simp); have f3 : w'.frozen? ⟨w.heap.size + 1, 1, none⟩ = false := (hf _ _ (by first | omega | (simp; done) | (simp; omega))).trans (by go_simp); have k0 : w'.cell? ⟨0, 0, none⟩ = some (.int .i64 0) := (hc _ _ (by first | omega | (simp; done) | (simp; omega))).trans (by go_simp); have k1 : w'.cell? ⟨0, 1, none⟩ = some (.int .i64 1) := (hc _ _ (by first | omega | (simp; done) | (simp; omega))).trans (by go_simp); have hz : w.heap.size + 1 < w'.heap.size := (by have hs := hbb.size; first | omega | (simp at hs; done) | (simp at hs; omega)); have hbA : Below w.heap.size w w' := Below.trans (b := _) (by repeat (first | with_reducible exact Below.refl _ _ | with_reducible assumption | with_reducible refine below_drewN' ?_ _ | (with_reducible refine Below.setCell ?_ (by first | (simp; done) | (simp; omega)) _) | (with_reducible refine Below.alloc ?_ (by first | exact Nat.le_refl _ | (simp; done) | (simp; omega)) _))) (hbb.mono (by first | omega | (simp; done) | (simp; omega))); clear hc hf hbb
    go_wp2_with fail
    refine forget_world (CmpSt w an ad 0 1) ⟨(by repeat (first | with_reducible exact Below.refl _ _ | with_reducible assumption | with_reducible refine below_drewN' ?_ _ | (with_reducible refine Below.setCell ?_ (by first | (simp; done) | (simp; omega)) _) | (with_reducible refine Below.alloc ?_ (by first | exact Nat.le_refl _ | (simp; done) | (simp; omega)) _))), by first | (go_simp; done) | (simp; omega), by go_simp, by go_simp, by go_simp, by go_simp⟩ ?_
    clear c0 c1 c2 c3 f0 f1 f2 f3 k0 k1 hz hbA
    intro V hV
    have hV2 := hSt.out V hV
    clear hV hSt hA hB hC hD ha hb
    have J1 : IntKind.i64.wrap (-C) = -C := IntWalk.i64_in _ ⟨by omega, by omega⟩
    go_region_held3 (fun V => V.cell? ⟨w.heap.size, 0, none⟩ = some (.int .i64 A) ∧ V.cell? ⟨w.heap.size, 1, none⟩ = some (.int .i64 B) ∧ V.cell? ⟨w.heap.size + 1, 0, none⟩ = some (.int .i64 C) ∧ V.cell? ⟨w.heap.size + 1, 1, none⟩ = some (.int .i64 D) ∧ CmpSt w A B C D V) (first | exact (CmpSt.drew hV2).conj | exact CmpSt.conj (by assumption)) (first | (go_at_call 48; refine (frac_product _ _ _ ⟨by omega, by omega⟩ ⟨by omega, by omega⟩).mono ?_; rintro e w' ⟨h, l, rfl, HW, hbb⟩; have hst := CmpSt.step (‹_ ∧ _ ∧ _ ∧ _ ∧ CmpSt _ _ _ _ _ _›.2.2.2.2) hbb) | (go_at_call 49; refine Calls.mono (wide_plus (m1 := ?ma) (m2 := ?mb) _ _ _ _ _ _ _ (W1 := ?wa) (W2 := ?wb) ?wc) ?_; (case wa => assumption); (case wb => assumption); (case wc => exact Nat.lt_of_le_of_lt (Nat.add_le_add M1 M2) (by decide)); rintro e w' ⟨h, l, rfl, HP, hbb⟩; have hst := CmpSt.step (‹_ ∧ _ ∧ _ ∧ _ ∧ CmpSt _ _ _ _ _ _›.2.2.2.2) hbb) | (go_at_call 50; refine Calls.mono (wide_sign _ _ _ ?md _ ?wd) ?_; (case wd => assumption); rintro e w' ⟨rfl, hbb⟩; have hst := CmpSt.step (‹_ ∧ _ ∧ _ ∧ _ ∧ CmpSt _ _ _ _ _ _›.2.2.2.2) hbb))
    all_goals go_wp2_with fail
    all_goals go_ret
    all_goals refine ⟨ret_int ?_, (‹_ ∧ _ ∧ _ ∧ _ ∧ CmpSt _ _ _ _ _ _›.2.2.2.2).1⟩
    all_goals rw [HR.out, sgnW_sgn, wval_plus, wval_product, wval_product_neg]
    all_goals (congr 1; rw [Int.neg_mul]; omega)
  · have hSt : Hid (∀ V, CmpSt w an ad bn bd V → CmpSt w A B C D V) := by
      intro V hV
      rw [← hA.out, ← hB.out, ← hC.out, ← hD.out, (fix_yes ha).1, (fix_yes ha).2, (fix_yes hb).1, (fix_yes hb).2]
      exact hV
    go_enter Tryd.func31, Tryd.ntmps31
    go_wp2_with fail
    refine (frac_Valid _ _ _).mono ?_
    rintro e w' ⟨rfl, hbb⟩
    obtain ⟨hc, hf⟩ := bcell hbb
    have c0 : w'.cell? ⟨w.heap.size, 0, none⟩ = some (.int .i64 an) := (hc _ _ (by first | omega | (simp; done) | (simp; omega))).trans (by go_simp); have f0 : w'.frozen? ⟨w.heap.size, 0, none⟩ = false := (hf _ _ (by first | omega | (simp; done) | (simp; omega))).trans (by go_simp); have c1 : w'.cell? ⟨w.heap.size, 1, none⟩ = some (.int .i64 ad) := (hc _ _ (by first | omega | (simp; done) | (simp; omega))).trans (by go_simp); have f1 : w'.frozen? ⟨w.heap.size, 1, none⟩ = false := (hf _ _ (by first | omega | (simp; done) | (simp; omega))).trans (by go_simp); have c2 : w'.cell? ⟨w.heap.size + 1, 0, none⟩ = some (.int .i64 bn) := (hc _ _ (by first | omega | (simp; done) | (simp; omega))).trans (by go_simp); have f2 : w'.frozen? ⟨w.heap.size + 1, 0, none⟩ = false := (hf _ _ (by first | omega | (simp; done) | (simp; omega))).trans (by go_simp); have c3 : w'.cell? ⟨w.heap.size + 1, 1, none⟩ = some (.int .i64 bd) := (hc _ _ (by first | omega | (simp; done) | (simp; omega))).trans (by go_simp); have f3 : w'.frozen? ⟨w.heap.size + 1, 1, none⟩ = false := (hf _ _ (by first | omega | (simp; done) | (simp; omega))).trans (by go_simp); have k0 : w'.cell? ⟨0, 0, none⟩ = some (.int .i64 0) := (hc _ _ (by first | omega | (simp; done) | (simp; omega))).trans (by go_simp); have k1 : w'.cell? ⟨0, 1, none⟩ = some (.int .i64 1) := (hc _ _ (by first | omega | (simp; done) | (simp; omega))).trans (by go_simp); have hz : w.heap.size + 1 < w'.heap.size := (by have hs := hbb.size; first | omega | (simp at hs; done) | (simp at hs; omega)); have hbA : Below w.heap.size w w' := Below.trans (b := _) (by repeat (first | with_reducible exact Below.refl _ _ | with_reducible assumption | with_reducible refine below_drewN' ?_ _ | (with_reducible refine Below.setCell ?_ (by first | (simp; done) | (simp; omega)) _) | (with_reducible refine Below.alloc ?_ (by first | exact Nat.le_refl _ | (simp; done) | (simp; omega)) _))) (hbb.mono (by first | omega | (simp; done) | (simp; omega))); clear hc hf hbb
    go_wp2_with fail
    refine (frac_Valid _ _ _).mono ?_
    rintro e w' ⟨rfl, hbb⟩
    obtain ⟨hc, hf⟩ := bcell hbb
    have c0 : w'.cell? ⟨w.heap.size, 0, none⟩ = some (.int .i64 an) := (hc _ _ (by first | omega | (simp; done) | (simp; omega))).trans (by go_simp); have f0 : w'.frozen? ⟨w.heap.size, 0, none⟩ = false := (hf _ _ (by first | omega | (simp; done) | (simp; omega))).trans (by go_simp); have c1 : w'.cell? ⟨w.heap.size, 1, none⟩ = some (.int .i64 ad) := (hc _ _ (by first | omega | (simp; done) | (simp; omega))).trans (by go_simp); have f1 : w'.frozen? ⟨w.heap.size, 1, none⟩ = false := (hf _ _ (by first | omega | (simp; done) | (simp; omega))).trans (by go_simp); have c2 : w'.cell? ⟨w.heap.size + 1, 0, none⟩ = some (.int .i64 bn) := (hc _ _ (by first | omega | (simp; done) | (simp; omega))).trans (by go_simp); have f2 : w'.frozen? ⟨w.heap.size + 1, 0, none⟩ = false := (hf _ _ (by first | omega | (simp; done) | (simp; omega))).trans (by go_simp); have c3 : w'.cell? ⟨w.heap.size + 1, 1, none⟩ = some (.int .i64 bd) := (hc _ _ (by first | omega | (simp; done) | (simp; omega))).trans (by go_simp); have f3 : w'.frozen? ⟨w.heap.size + 1, 1, none⟩ = false := (hf _ _ (by first | omega | (simp; done) | (simp; omega))).trans (by go_simp); have k0 : w'.cell? ⟨0, 0, none⟩ = some (.int .i64 0) := (hc _ _ (by first | omega | (simp; done) | (simp; omega))).trans (by go_simp); have k1 : w'.cell? ⟨0, 1, none⟩ = some (.int .i64 1) := (hc _ _ (by first | omega | (simp; done) | (simp; omega))).trans (by go_simp); have hz : w.heap.size + 1 < w'.heap.size := (by have hs := hbb.size; first | omega | (simp at hs; done) | (simp at hs; omega)); have hbA : Below w.heap.size w w' := Below.trans (b := _) (by repeat (first | with_reducible exact Below.refl _ _ | with_reducible assumption | with_reducible refine below_drewN' ?_ _ | (with_reducible refine Below.setCell ?_ (by first | (simp; done) | (simp; omega)) _) | (with_reducible refine Below.alloc ?_ (by first | exact Nat.le_refl _ | (simp; done) | (simp; omega)) _))) (hbb.mono (by first | omega | (simp; done) | (simp; omega))); clear hc hf hbb
    go_wp2_with fail
    refine forget_world (CmpSt w an ad bn bd) ⟨(by repeat (first | with_reducible exact Below.refl _ _ | with_reducible assumption | with_reducible refine below_drewN' ?_ _ | (with_reducible refine Below.setCell ?_ (by first | (simp; done) | (simp; omega)) _) | (with_reducible refine Below.alloc ?_ (by first | exact Nat.le_refl _ | (simp; done) | (simp; omega)) _))), by first | (go_simp; done) | (simp; omega), by go_simp, by go_simp, by go_simp, by go_simp⟩ ?_
    clear c0 c1 c2 c3 f0 f1 f2 f3 k0 k1 hz hbA
    intro V hV
    have hV2 := hSt.out V hV
    clear hV hSt hA hB hC hD ha hb
    have J1 : IntKind.i64.wrap (-C) = -C := IntWalk.i64_in _ ⟨by omega, by omega⟩
    go_region_held3 (fun V => V.cell? ⟨w.heap.size, 0, none⟩ = some (.int .i64 A) ∧ V.cell? ⟨w.heap.size, 1, none⟩ = some (.int .i64 B) ∧ V.cell? ⟨w.heap.size + 1, 0, none⟩ = some (.int .i64 C) ∧ V.cell? ⟨w.heap.size + 1, 1, none⟩ = some (.int .i64 D) ∧ CmpSt w A B C D V) (first | exact (CmpSt.drew hV2).conj | exact CmpSt.conj (by assumption)) (first | (go_at_call 48; refine (frac_product _ _ _ ⟨by omega, by omega⟩ ⟨by omega, by omega⟩).mono ?_; rintro e w' ⟨h, l, rfl, HW, hbb⟩; have hst := CmpSt.step (‹_ ∧ _ ∧ _ ∧ _ ∧ CmpSt _ _ _ _ _ _›.2.2.2.2) hbb) | (go_at_call 49; refine Calls.mono (wide_plus (m1 := ?ma) (m2 := ?mb) _ _ _ _ _ _ _ (W1 := ?wa) (W2 := ?wb) ?wc) ?_; (case wa => assumption); (case wb => assumption); (case wc => exact Nat.lt_of_le_of_lt (Nat.add_le_add M1 M2) (by decide)); rintro e w' ⟨h, l, rfl, HP, hbb⟩; have hst := CmpSt.step (‹_ ∧ _ ∧ _ ∧ _ ∧ CmpSt _ _ _ _ _ _›.2.2.2.2) hbb) | (go_at_call 50; refine Calls.mono (wide_sign _ _ _ ?md _ ?wd) ?_; (case wd => assumption); rintro e w' ⟨rfl, hbb⟩; have hst := CmpSt.step (‹_ ∧ _ ∧ _ ∧ _ ∧ CmpSt _ _ _ _ _ _›.2.2.2.2) hbb))
    all_goals go_wp2_with fail
    all_goals go_ret
    all_goals refine ⟨ret_int ?_, (‹_ ∧ _ ∧ _ ∧ _ ∧ CmpSt _ _ _ _ _ _›.2.2.2.2).1⟩
    all_goals rw [HR.out, sgnW_sgn, wval_plus, wval_product, wval_product_neg]
    all_goals (congr 1; rw [Int.neg_mul]; omega)
end Go.Proofs.YtlkpmbkmmfoakaaDoor

/- THE WALKS over value.class and value.Number; two values in boxes. -/
namespace Go.Proofs.YtlkpmbkmmfoakaaDoor
open Go.RowKit
theorem ZeroAt.ext {w w' : World} (h : ZeroAt w) (e : Ext w w') : ZeroAt w' := h.below e
end Go.Proofs.YtlkpmbkmmfoakaaDoor

/- THE WALKS over the reference's bare, str, and valid at values that are no list and no path. -/
namespace Go.Proofs.YtlkpmbkmmfoakaaDoor
open Go.RowKit
mutual
/-- every string in a value is no longer than memory bears -/
def szV : Val → Prop
  | .mk _ _ _ s l => s.size ≤ 140737488355328 ∧ szL l
def szL : List Val → Prop
  | [] => True
  | v :: vs => szV v ∧ szL vs
end
theorem szV_iff {v : Val} : szV v ↔ v.s.size ≤ 140737488355328 ∧ szL v.l := by cases v; rw [szV]; rfl
theorem szL_mem {l : List Val} (h : szL l) {v : Val} (hv : v ∈ l) : szV v := by
  induction l with
  | nil => cases hv
  | cons x l ih =>
    rw [szL] at h
    rcases List.mem_cons.1 hv with e | e
    · rw [e]; exact h.1
    · exact ih h.2 e
def bareF (p q r t : Bool) (n d : Int) (s : ByteArray) (m : Nat) : Bool := (p || decide (n = 0)) && (q || decide (d = 0)) && (r || decide (s.size = 0)) && (t || decide (m = 0))
set_option maxRecDepth 100000 in
set_option maxHeartbeats 1600000 in
theorem r4_bare_ffff (k n d : Int) (s : ByteArray) (A : Option Addr) (m c : Nat) (w : World) : Calls Tryd.prog 112 #[.agg #[.int .i64 k, .int .i64 n, .int .i64 d, .string s, .slice A m c], .bool false, .bool false, .bool false, .bool false] w fun e w' => e = .returned (.bool (bareF false false false false n d s m)) ∧ Ext w w' := by
  obtain ⟨g, w1, hg, hw1, ⟨c0, c1, c2, c3, c4⟩, hx, -⟩ := box5 w k n d s A m c 112
  have HW1 := Lib.hid hw1
  have HG := Lib.hid hg
  clear hw1 hg
  go_enter Tryd.func112, Tryd.ntmps112
  go_upto_region 1 with (fail)
  rw [← HW1.out, ← HG.out]
  clear HW1 HG
  go_wp2_with fail
  all_goals
    go_ret
    refine ⟨ret_bool ?_, hx⟩
    clear c0 c1 c2 c3 c4
    (try simp only [nil_iff] at *)
    unfold bareF
    (try simp only [beq_decI])
    first | (simp_all; done) | (simp_all; omega)
set_option maxRecDepth 100000 in
set_option maxHeartbeats 1600000 in
theorem r4_bare_tfff (k n d : Int) (s : ByteArray) (A : Option Addr) (m c : Nat) (w : World) : Calls Tryd.prog 112 #[.agg #[.int .i64 k, .int .i64 n, .int .i64 d, .string s, .slice A m c], .bool true, .bool false, .bool false, .bool false] w fun e w' => e = .returned (.bool (bareF true false false false n d s m)) ∧ Ext w w' := by
  obtain ⟨g, w1, hg, hw1, ⟨c0, c1, c2, c3, c4⟩, hx, -⟩ := box5 w k n d s A m c 112
  have HW1 := Lib.hid hw1
  have HG := Lib.hid hg
  clear hw1 hg
  go_enter Tryd.func112, Tryd.ntmps112
  go_upto_region 1 with (fail)
  rw [← HW1.out, ← HG.out]
  clear HW1 HG
  go_wp2_with fail
  all_goals
    go_ret
    refine ⟨ret_bool ?_, hx⟩
    clear c0 c1 c2 c3 c4
    (try simp only [nil_iff] at *)
    unfold bareF
    (try simp only [beq_decI])
    first | (simp_all; done) | (simp_all; omega)
set_option maxRecDepth 100000 in
set_option maxHeartbeats 1600000 in
theorem r4_bare_ttff (k n d : Int) (s : ByteArray) (A : Option Addr) (m c : Nat) (w : World) : Calls Tryd.prog 112 #[.agg #[.int .i64 k, .int .i64 n, .int .i64 d, .string s, .slice A m c], .bool true, .bool true, .bool false, .bool false] w fun e w' => e = .returned (.bool (bareF true true false false n d s m)) ∧ Ext w w' := by
  obtain ⟨g, w1, hg, hw1, ⟨c0, c1, c2, c3, c4⟩, hx, -⟩ := box5 w k n d s A m c 112
  have HW1 := Lib.hid hw1
  have HG := Lib.hid hg
  clear hw1 hg
  go_enter Tryd.func112, Tryd.ntmps112
  go_upto_region 1 with (fail)
  rw [← HW1.out, ← HG.out]
  clear HW1 HG
  go_wp2_with fail
  all_goals
    go_ret
    refine ⟨ret_bool ?_, hx⟩
    clear c0 c1 c2 c3 c4
    (try simp only [nil_iff] at *)
    unfold bareF
    (try simp only [beq_decI])
    first | (simp_all; done) | (simp_all; omega)
set_option maxRecDepth 100000 in
set_option maxHeartbeats 1600000 in
theorem r4_bare_fftf (k n d : Int) (s : ByteArray) (A : Option Addr) (m c : Nat) (w : World) : Calls Tryd.prog 112 #[.agg #[.int .i64 k, .int .i64 n, .int .i64 d, .string s, .slice A m c], .bool false, .bool false, .bool true, .bool false] w fun e w' => e = .returned (.bool (bareF false false true false n d s m)) ∧ Ext w w' := by
  obtain ⟨g, w1, hg, hw1, ⟨c0, c1, c2, c3, c4⟩, hx, -⟩ := box5 w k n d s A m c 112
  have HW1 := Lib.hid hw1
  have HG := Lib.hid hg
  clear hw1 hg
  go_enter Tryd.func112, Tryd.ntmps112
  go_upto_region 1 with (fail)
  rw [← HW1.out, ← HG.out]
  clear HW1 HG
  go_wp2_with fail
  all_goals
    go_ret
    refine ⟨ret_bool ?_, hx⟩
    clear c0 c1 c2 c3 c4
    (try simp only [nil_iff] at *)
    unfold bareF
    (try simp only [beq_decI])
    first | (simp_all; done) | (simp_all; omega)
set_option maxRecDepth 100000 in
set_option maxHeartbeats 1600000 in
theorem r4_bare_ffft (k n d : Int) (s : ByteArray) (A : Option Addr) (m c : Nat) (w : World) : Calls Tryd.prog 112 #[.agg #[.int .i64 k, .int .i64 n, .int .i64 d, .string s, .slice A m c], .bool false, .bool false, .bool false, .bool true] w fun e w' => e = .returned (.bool (bareF false false false true n d s m)) ∧ Ext w w' := by
  obtain ⟨g, w1, hg, hw1, ⟨c0, c1, c2, c3, c4⟩, hx, -⟩ := box5 w k n d s A m c 112
  have HW1 := Lib.hid hw1
  have HG := Lib.hid hg
  clear hw1 hg
  go_enter Tryd.func112, Tryd.ntmps112
  go_upto_region 1 with (fail)
  rw [← HW1.out, ← HG.out]
  clear HW1 HG
  go_wp2_with fail
  all_goals
    go_ret
    refine ⟨ret_bool ?_, hx⟩
    clear c0 c1 c2 c3 c4
    (try simp only [nil_iff] at *)
    unfold bareF
    (try simp only [beq_decI])
    first | (simp_all; done) | (simp_all; omega)
theorem get_elem (s : ByteArray) (k : Nat) (h : k < s.size) : s.get! k = s[k] := by
  rw [get_data s k h]; rfl
theorem str_no {s : ByteArray} {k : Nat} (hk : k < s.size) (h : pBad s[k].toNat = true) : strOk s = false := by
  rw [strOk_eq]
  cases hb : bytesOk s
  · exact Bool.and_false _
  · have := (bytesOk_iff s).1 hb k hk
    rw [get_elem s k hk, h] at this; cases this
theorem str_yes {s : ByteArray} (h : ∀ j (h : j < s.size), pBad s[j].toNat = false) : strOk s = decide (s.size ≤ 100) := by
  rw [strOk_eq, (bytesOk_iff s).2 (fun j hj => by rw [get_elem s j hj]; exact h j hj), Bool.and_true]
set_option maxHeartbeats 1600000 in
theorem r4_str (s : ByteArray) (w : World) (hs : s.size ≤ 140737488355328) : Calls Tryd.prog 114 #[.string s] w fun e w' => e = .returned (.bool (strOk s)) ∧ w' = w := by
  have HY := Lib.hid (fun h => str_yes (s := s) h)
  have HN := Lib.hid (fun (k : Nat) (hk : k < s.size) h => str_no (s := s) hk h)
  go_enter Tryd.func114, Tryd.ntmps114
  go_wp2
  go_loop [3] (fun u => ∃ k : Nat, u = .int .i64 k ∧ k ≤ s.size ∧ Hid (∀ j (h : j < s.size), j < k → pBad s[j].toNat = false)) (fun u => s.size - (intOf u).toNat)
  case atStart => exact ⟨0, rfl, Nat.zero_le _, Lib.hid (fun j _ hj => absurd hj (by omega))⟩
  case round =>
    obtain ⟨k, rfl, hk, hA⟩ := hrel
    by_cases hlt : k < s.size
    · have HB := Lib.hid (HN.out k hlt)
      have HS := Lib.hid (fun (h : pBad s[k].toNat = false) j (hj : j < s.size) (hjk : j < k + 1) => (if e : j = k then (by subst e; exact h) else hA.out j hj (by omega) : pBad s[j].toNat = false))
      by_cases h1 : s[k].toNat < 32
      · have HF := Lib.hid (HB.out (by unfold pBad; rw [decide_eq_true h1]; rfl))
        clear HB HS
        go_wp2
        all_goals first | (go_ret; exact ⟨ret_bool HF.out.symm, rfl⟩) | (exfalso; omega)
      · by_cases h2 : 126 < s[k].toNat
        · have HF := Lib.hid (HB.out (by unfold pBad; rw [decide_eq_true h2, Bool.or_true]))
          clear HB HS
          go_wp2
          all_goals first | (go_ret; exact ⟨ret_bool HF.out.symm, rfl⟩) | (exfalso; omega)
        · have HT := Lib.hid (HS.out (by unfold pBad; rw [decide_eq_false h1, decide_eq_false h2]; rfl))
          clear HB HS
          go_wp2
          all_goals first | (go_round; (case rel => exact ⟨k + 1, by go_num, by omega, HT⟩); (case measure => simp [intOf]; omega)) | (exfalso; omega)
    · have HF := Lib.hid (HY.out (fun j hj => hA.out j hj (by omega)))
      by_cases h100 : s.size ≤ 100
      · rw [decide_eq_true h100] at HF
        go_wp2
        go_ret
        exact ⟨ret_bool (by rw [HF.out, decide_eq_true_iff]; omega), rfl⟩
      · rw [decide_eq_false h100] at HF
        go_wp2
        go_ret
        exact ⟨ret_bool (by rw [HF.out, decide_eq_false_iff_not]; omega), rfl⟩
set_option maxRecDepth 100000 in
set_option maxHeartbeats 1600000 in
theorem r4_valid0 (n d : Int) (s : ByteArray) (m : Nat) (A : Option Addr) (c : Nat) (nest : Int) (w : World) (_hs : s.size ≤ 140737488355328) : Calls Tryd.prog 108 #[.agg #[.int .i64 0, .int .i64 n, .int .i64 d, .string s, .slice A m c], .int .i64 nest] w fun e w' => e = .returned (.bool (leafF 0 n d s m)) ∧ Ext w w' := by
  obtain ⟨g, w1, hg, hw1, ⟨c0, c1, c2, c3, c4⟩, hx, -⟩ := box5 w 0 n d s A m c 112
  have HW1 := Lib.hid hw1
  have HG := Lib.hid hg
  clear hw1 hg
  go_enter Tryd.func108, Tryd.ntmps108
  go_upto_region 1 with (fail)
  rw [← HW1.out, ← HG.out]
  clear HW1 HG
  go_wp2_with (go_at_call 112; ((with_reducible refine (r4_bare_ffff _ _ _ _ _ _ _ _).mono ?_); rintro e w' ⟨rfl, hb⟩; have hb1 : Ext w1 w' := hb; replace c0 := hb1.cell c0; replace c1 := hb1.cell c1; replace c2 := hb1.cell c2; replace c3 := hb1.cell c3; replace c4 := hb1.cell c4))
  all_goals
    go_ret
    refine ⟨ret_bool ?_, (by first | exact hx | exact Ext.trans hx (by assumption) | exact Ext.trans hx (Ext.trans hb1 (by assumption)))⟩
    clear c0 c1 c2 c3 c4
    (try simp only [nil_iff] at *)
    unfold leafF
    (try unfold bareF at *)
    skip
    first | (simp_all; done) | (simp_all; omega)
set_option maxRecDepth 100000 in
set_option maxHeartbeats 1600000 in
theorem r4_valid1 (n d : Int) (s : ByteArray) (m : Nat) (A : Option Addr) (c : Nat) (nest : Int) (w : World) (_hs : s.size ≤ 140737488355328) : Calls Tryd.prog 108 #[.agg #[.int .i64 1, .int .i64 n, .int .i64 d, .string s, .slice A m c], .int .i64 nest] w fun e w' => e = .returned (.bool (leafF 1 n d s m)) ∧ Ext w w' := by
  obtain ⟨g, w1, hg, hw1, ⟨c0, c1, c2, c3, c4⟩, hx, -⟩ := box5 w 1 n d s A m c 112
  have HW1 := Lib.hid hw1
  have HG := Lib.hid hg
  clear hw1 hg
  go_enter Tryd.func108, Tryd.ntmps108
  go_upto_region 1 with (fail)
  rw [← HW1.out, ← HG.out]
  clear HW1 HG
  go_wp2_with (go_at_call 112; ((with_reducible refine (r4_bare_tfff _ _ _ _ _ _ _ _).mono ?_); rintro e w' ⟨rfl, hb⟩; have hb1 : Ext w1 w' := hb; replace c0 := hb1.cell c0; replace c1 := hb1.cell c1; replace c2 := hb1.cell c2; replace c3 := hb1.cell c3; replace c4 := hb1.cell c4))
  all_goals
    go_ret
    refine ⟨ret_bool ?_, (by first | exact hx | exact Ext.trans hx (by assumption) | exact Ext.trans hx (Ext.trans hb1 (by assumption)))⟩
    clear c0 c1 c2 c3 c4
    (try simp only [nil_iff] at *)
    unfold leafF
    (try unfold bareF at *)
    (try simp only [beq_decI])
    first | (simp_all; done) | (simp_all; omega)
set_option maxRecDepth 100000 in
set_option maxHeartbeats 1600000 in
theorem r4_valid2 (n d : Int) (s : ByteArray) (m : Nat) (A : Option Addr) (c : Nat) (nest : Int) (w : World) (_hs : s.size ≤ 140737488355328) : Calls Tryd.prog 108 #[.agg #[.int .i64 2, .int .i64 n, .int .i64 d, .string s, .slice A m c], .int .i64 nest] w fun e w' => e = .returned (.bool (leafF 2 n d s m)) ∧ Ext w w' := by
  obtain ⟨g, w1, hg, hw1, ⟨c0, c1, c2, c3, c4⟩, hx, -⟩ := box5 w 2 n d s A m c 112
  have HW1 := Lib.hid hw1
  have HG := Lib.hid hg
  clear hw1 hg
  go_enter Tryd.func108, Tryd.ntmps108
  go_upto_region 1 with (fail)
  rw [← HW1.out, ← HG.out]
  clear HW1 HG
  go_wp2_with (first | (go_at_call 112; ((with_reducible refine (r4_bare_tfff _ _ _ _ _ _ _ _).mono ?_); rintro e w' ⟨rfl, hb⟩; have hb1 : Ext w1 w' := hb; replace c0 := hb1.cell c0; replace c1 := hb1.cell c1; replace c2 := hb1.cell c2; replace c3 := hb1.cell c3; replace c4 := hb1.cell c4)) | (go_at_call 113; refine (ref_In _ _).mono ?_; rintro e w' ⟨rfl, rfl⟩))
  all_goals
    go_ret
    refine ⟨ret_bool ?_, (by first | exact hx | exact Ext.trans hx (by assumption) | exact Ext.trans hx (Ext.trans hb1 (by assumption)))⟩
    clear c0 c1 c2 c3 c4
    (try simp only [nil_iff] at *)
    unfold leafF
    (try unfold bareF at *)
    skip
    first | (simp_all; done) | (simp_all; omega)
set_option maxRecDepth 100000 in
set_option maxHeartbeats 1600000 in
theorem r4_valid3 (n d : Int) (s : ByteArray) (m : Nat) (A : Option Addr) (c : Nat) (nest : Int) (w : World) (_hs : s.size ≤ 140737488355328) : Calls Tryd.prog 108 #[.agg #[.int .i64 3, .int .i64 n, .int .i64 d, .string s, .slice A m c], .int .i64 nest] w fun e w' => e = .returned (.bool (leafF 3 n d s m)) ∧ Ext w w' := by
  obtain ⟨g, w1, hg, hw1, ⟨c0, c1, c2, c3, c4⟩, hx, -⟩ := box5 w 3 n d s A m c 112
  have HW1 := Lib.hid hw1
  have HG := Lib.hid hg
  clear hw1 hg
  go_enter Tryd.func108, Tryd.ntmps108
  go_upto_region 1 with (fail)
  rw [← HW1.out, ← HG.out]
  clear HW1 HG
  go_wp2_with (first | (go_at_call 112; ((with_reducible refine (r4_bare_ttff _ _ _ _ _ _ _ _).mono ?_); rintro e w' ⟨rfl, hb⟩; have hb1 : Ext w1 w' := hb; replace c0 := hb1.cell c0; replace c1 := hb1.cell c1; replace c2 := hb1.cell c2; replace c3 := hb1.cell c3; replace c4 := hb1.cell c4)) | (go_at_call 18; refine (r3_Valid _ _ _).mono ?_; rintro e w' ⟨rfl, hbv⟩; have hb2 : Ext _ w' := hbv))
  all_goals
    go_ret
    refine ⟨ret_bool ?_, (by first | exact hx | exact Ext.trans hx (by assumption) | exact Ext.trans hx (Ext.trans hb1 (by assumption)))⟩
    clear c0 c1 c2 c3 c4
    (try simp only [nil_iff] at *)
    unfold leafF
    (try unfold bareF at *)
    skip
    first | (simp_all; done) | (simp_all; omega)
set_option maxRecDepth 100000 in
set_option maxHeartbeats 1600000 in
theorem r4_valid4 (n d : Int) (s : ByteArray) (m : Nat) (A : Option Addr) (c : Nat) (nest : Int) (w : World) (hs : s.size ≤ 140737488355328) : Calls Tryd.prog 108 #[.agg #[.int .i64 4, .int .i64 n, .int .i64 d, .string s, .slice A m c], .int .i64 nest] w fun e w' => e = .returned (.bool (leafF 4 n d s m)) ∧ Ext w w' := by
  obtain ⟨g, w1, hg, hw1, ⟨c0, c1, c2, c3, c4⟩, hx, -⟩ := box5 w 4 n d s A m c 112
  have HW1 := Lib.hid hw1
  have HG := Lib.hid hg
  clear hw1 hg
  go_enter Tryd.func108, Tryd.ntmps108
  go_upto_region 1 with (fail)
  rw [← HW1.out, ← HG.out]
  clear HW1 HG
  go_wp2_with (first | (go_at_call 112; ((with_reducible refine (r4_bare_fftf _ _ _ _ _ _ _ _).mono ?_); rintro e w' ⟨rfl, hb⟩; have hb1 : Ext w1 w' := hb; replace c0 := hb1.cell c0; replace c1 := hb1.cell c1; replace c2 := hb1.cell c2; replace c3 := hb1.cell c3; replace c4 := hb1.cell c4)) | (go_at_call 114; refine (r4_str _ _ hs).mono ?_; rintro e w' ⟨rfl, rfl⟩))
  all_goals
    go_ret
    refine ⟨ret_bool ?_, (by first | exact hx | exact Ext.trans hx (by assumption) | exact Ext.trans hx (Ext.trans hb1 (by assumption)))⟩
    clear c0 c1 c2 c3 c4
    (try simp only [nil_iff] at *)
    unfold leafF
    (try unfold bareF at *)
    skip
    first | (simp_all; done) | (simp_all; omega)
set_option maxRecDepth 100000 in
set_option maxHeartbeats 1600000 in
theorem r4_valid5 (n d : Int) (s : ByteArray) (m : Nat) (A : Option Addr) (c : Nat) (nest : Int) (w : World) (_hs : s.size ≤ 140737488355328) : Calls Tryd.prog 108 #[.agg #[.int .i64 5, .int .i64 n, .int .i64 d, .string s, .slice A m c], .int .i64 nest] w fun e w' => e = .returned (.bool (leafF 5 n d s m)) ∧ Ext w w' := by
  obtain ⟨g, w1, hg, hw1, ⟨c0, c1, c2, c3, c4⟩, hx, -⟩ := box5 w 5 n d s A m c 112
  have HW1 := Lib.hid hw1
  have HG := Lib.hid hg
  clear hw1 hg
  go_enter Tryd.func108, Tryd.ntmps108
  go_upto_region 1 with (fail)
  rw [← HW1.out, ← HG.out]
  clear HW1 HG
  go_wp2_with (go_at_call 112; ((with_reducible refine (r4_bare_tfff _ _ _ _ _ _ _ _).mono ?_); rintro e w' ⟨rfl, hb⟩; have hb1 : Ext w1 w' := hb; replace c0 := hb1.cell c0; replace c1 := hb1.cell c1; replace c2 := hb1.cell c2; replace c3 := hb1.cell c3; replace c4 := hb1.cell c4))
  all_goals
    go_ret
    refine ⟨ret_bool ?_, (by first | exact hx | exact Ext.trans hx (by assumption) | exact Ext.trans hx (Ext.trans hb1 (by assumption)))⟩
    clear c0 c1 c2 c3 c4
    (try simp only [nil_iff] at *)
    unfold leafF
    (try unfold bareF at *)
    skip
    first | (simp_all; done) | (simp_all; omega)
set_option maxRecDepth 100000 in
set_option maxHeartbeats 1600000 in
theorem r4_valid6 (n d : Int) (s : ByteArray) (m : Nat) (A : Option Addr) (c : Nat) (nest : Int) (w : World) (_hs : s.size ≤ 140737488355328) : Calls Tryd.prog 108 #[.agg #[.int .i64 6, .int .i64 n, .int .i64 d, .string s, .slice A m c], .int .i64 nest] w fun e w' => e = .returned (.bool (leafF 6 n d s m)) ∧ Ext w w' := by
  obtain ⟨g, w1, hg, hw1, ⟨c0, c1, c2, c3, c4⟩, hx, -⟩ := box5 w 6 n d s A m c 112
  have HW1 := Lib.hid hw1
  have HG := Lib.hid hg
  clear hw1 hg
  go_enter Tryd.func108, Tryd.ntmps108
  go_upto_region 1 with (fail)
  rw [← HW1.out, ← HG.out]
  clear HW1 HG
  go_wp2_with (go_at_call 112; ((with_reducible refine (r4_bare_tfff _ _ _ _ _ _ _ _).mono ?_); rintro e w' ⟨rfl, hb⟩; have hb1 : Ext w1 w' := hb; replace c0 := hb1.cell c0; replace c1 := hb1.cell c1; replace c2 := hb1.cell c2; replace c3 := hb1.cell c3; replace c4 := hb1.cell c4))
  all_goals
    go_ret
    refine ⟨ret_bool ?_, (by first | exact hx | exact Ext.trans hx (by assumption) | exact Ext.trans hx (Ext.trans hb1 (by assumption)))⟩
    clear c0 c1 c2 c3 c4
    (try simp only [nil_iff] at *)
    unfold leafF
    (try unfold bareF at *)
    skip
    first | (simp_all; done) | (simp_all; omega)
set_option maxRecDepth 100000 in
set_option maxHeartbeats 1600000 in
theorem r4_valido (k : Int) (hk : (k == 0) = false ∧ (k == 1) = false ∧ (k == 2) = false ∧ (k == 3) = false ∧ (k == 4) = false ∧ (k == 5) = false ∧ (k == 6) = false ∧ (k == 7) = false ∧ (k == 8) = false) (n d : Int) (s : ByteArray) (m : Nat) (A : Option Addr) (c : Nat) (nest : Int) (w : World) (_hs : s.size ≤ 140737488355328) : Calls Tryd.prog 108 #[.agg #[.int .i64 k, .int .i64 n, .int .i64 d, .string s, .slice A m c], .int .i64 nest] w fun e w' => e = .returned (.bool (leafF k n d s m)) ∧ Ext w w' := by
  have hne := other9 hk
  obtain ⟨h0, h1, h2, h3, h4, h5, h6, h7, h8⟩ := hk
  obtain ⟨n0, n1, n2, n3, n4, n5, n6, n7, n8⟩ := hne
  obtain ⟨g, w1, hg, hw1, ⟨c0, c1, c2, c3, c4⟩, hx, -⟩ := box5 w k n d s A m c 112
  have HW1 := Lib.hid hw1
  have HG := Lib.hid hg
  clear hw1 hg
  go_enter Tryd.func108, Tryd.ntmps108
  go_upto_region 1 with (fail)
  rw [← HW1.out, ← HG.out]
  clear HW1 HG
  go_wp2_with fail
  all_goals
    go_ret
    refine ⟨ret_bool ?_, (by first | exact hx | exact Ext.trans hx (by assumption) | exact Ext.trans hx (Ext.trans hb1 (by assumption)))⟩
    clear c0 c1 c2 c3 c4
    (try simp only [nil_iff] at *)
    unfold leafF
    (try unfold bareF at *)
    skip
    first | (simp_all; done) | (simp_all; omega)
end Go.Proofs.YtlkpmbkmmfoakaaDoor
