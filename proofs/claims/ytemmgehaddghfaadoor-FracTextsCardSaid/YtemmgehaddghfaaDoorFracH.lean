/- THE WALKS over package frac: Of, Mul, Div. -/
import Derived.Test.YtemmgehaddghfaaDoorFracG
namespace Go.Proofs.YtemmgehaddghfaaDoor
open Go.RowKit

/-- a fraction and whether it exists, as a result -/
def FracIs (r : Int × Int × Bool) (w : World) (e : Ending) (w' : World) : Prop := e = .returned (.tuple #[.agg #[.int .i64 r.1, .int .i64 r.2.1], .bool r.2.2]) ∧ Below w.heap.size w w'

/-- n/d in lowest terms -/
def ofS (n d : Int) : Int × Int × Bool := if inB n && inB d && d != 0 then (if d < 0 then (-(n / cgcd n d), -(d / cgcd n d), true) else (n / cgcd n d, d / cgcd n d, true)) else (0, 0, false)

theorem ofS_no {n d : Int} (h : inB n = false ∨ inB d = false ∨ d = 0) : ofS n d = (0, 0, false) := by
  unfold ofS
  rcases h with h | h | h
  · rw [h]; rfl
  · rw [h, Bool.and_false]; rfl
  · subst h; simp

theorem cgcd_bounds {n d : Int} (hd : d ≠ 0) (h2 : -1000000000000000 ≤ d ∧ d ≤ 1000000000000000) : 1 ≤ cgcd n d ∧ cgcd n d ≤ 1000000000000000 := by
  unfold cgcd
  have h := Nat.gcd_pos_of_pos_right n.natAbs (show 0 < d.natAbs by omega)
  have h' := Nat.le_of_dvd (show 0 < d.natAbs by omega) (Nat.gcd_dvd_right n.natAbs d.natAbs)
  omega

theorem quo_facts {n g : Int} (hg : 1 ≤ g) (hd : g ∣ n) (h : -1000000000000000 ≤ n ∧ n ≤ 1000000000000000) : n.tdiv g = n / g ∧ n.tdiv (-g) = -(n / g) ∧ (-n).tdiv g = -(n / g) ∧ -1000000000000000 ≤ n / g ∧ n / g ≤ 1000000000000000 := by
  obtain ⟨c, rfl⟩ := hd
  have e : g * c / g = c := Int.mul_ediv_cancel_left c (by omega)
  have e2 : (g * c).tdiv g = c := Int.mul_tdiv_cancel_left c (by omega)
  have hc : c.natAbs ≤ (g * c).natAbs := by
    rw [Int.natAbs_mul]
    exact Nat.le_mul_of_pos_left _ (by omega)
  rw [Int.tdiv_neg, Int.neg_tdiv, e2, e]
  exact ⟨rfl, rfl, rfl, by omega, by omega⟩

set_option maxHeartbeats 800000 in
theorem frac_Of_no (n d : Int) (w : World) (h : inB n = false ∨ inB d = false ∨ d = 0) :
    Calls Tryd.prog 9 #[.int .i64 n, .int .i64 d] w (FracIs (ofS n d) w) := by
  have FIN : Hid (FracIs (ofS n d) w (.returned (.tuple #[.agg #[.int .i64 0, .int .i64 0], .bool false])) (w.alloc (.cells #[.int .i64 0, .int .i64 0] 23))) := by
    rw [ofS_no h]; exact ⟨rfl, (Below.refl w.heap.size w).alloc (Nat.le_refl _) _⟩
  cases hn : inB n
  · go_enter Tryd.func9, Tryd.ntmps9
    go_wp2_with (go_at_call 33; refine (num_In _ _).mono ?_; rintro e w' ⟨rfl, rfl⟩)
    exact bodyPost_ret (v := .tuple #[.agg #[.int .i64 0, .int .i64 0], .bool false]) (by simp [results, Tryd.results9, go_sem]) rfl FIN.out
  · cases hd : inB d
    · go_enter Tryd.func9, Tryd.ntmps9
      go_wp2_with (go_at_call 33; refine (num_In _ _).mono ?_; rintro e w' ⟨rfl, rfl⟩)
      exact bodyPost_ret (v := .tuple #[.agg #[.int .i64 0, .int .i64 0], .bool false]) (by simp [results, Tryd.results9, go_sem]) rfl FIN.out
    · obtain rfl : d = 0 := by
        rcases h with h | h | h
        · rw [hn] at h; cases h
        · rw [hd] at h; cases h
        · exact h
      go_enter Tryd.func9, Tryd.ntmps9
      go_wp2_with (go_at_call 33; refine (num_In _ _).mono ?_; rintro e w' ⟨rfl, rfl⟩)
      exact bodyPost_ret (v := .tuple #[.agg #[.int .i64 0, .int .i64 0], .bool false]) (by simp [results, Tryd.results9, go_sem]) rfl FIN.out

set_option maxHeartbeats 1600000 in
theorem frac_Of_pos (n d : Int) (w : World) (hn : inB n = true) (hd : inB d = true) (h : 0 < d) :
    Calls Tryd.prog 9 #[.int .i64 n, .int .i64 d] w (FracIs (ofS n d) w) := by
  have hn' := inB_true.1 hn
  have hd' := inB_true.1 hd
  have hO : ofS n d = ((n / cgcd n d), (d / cgcd n d), true) := by
    unfold ofS; rw [hn, hd, bne_iff_ne.2 (show d ≠ 0 by omega)]
    simp only [Bool.and_self, if_true]
    rw [if_neg (by omega)]
  obtain ⟨g1, g2⟩ := cgcd_bounds (n := n) (show d ≠ 0 by omega) hd'
  obtain ⟨q1, q2, q3, q4, q5⟩ := quo_facts g1 (cgcd_left n d) hn'
  obtain ⟨p1, p2, p3, p4, p5⟩ := quo_facts g1 (cgcd_right n d) hd'
  have hg : gcdV n d = cgcd n d := gcdV_yes hn hd
  have hd0 : (d == 0) = false := beq_eq_false_iff_ne.2 (by omega)
  obtain ⟨a1, a2⟩ := hn'
  obtain ⟨d1, d2⟩ := hd'
  generalize cgcd n d = g at *
  have hg0 : (g == 0) = false := beq_eq_false_iff_ne.2 (by omega)
  have hg00 : (-g == 0) = false := beq_eq_false_iff_ne.2 (by omega)
  generalize hx : n / g = x at *
  generalize hy : d / g = y at *
  have HO := Lib.hid hO
  clear hO hx hy q3 p3
  go_enter Tryd.func9, Tryd.ntmps9
  go_wp2_with (go_at_call 33; refine (num_In _ _).mono ?_; rintro e w' ⟨rfl, rfl⟩)
  refine (num_Gcd _ _ _).mono ?_
  rintro e w' ⟨rfl, nn, rfl⟩
  go_wp2_with fail
  go_region
  all_goals go_wp2
  refine bodyPost_ret (v := .tuple #[.agg #[.int .i64 (x), .int .i64 (y)], .bool true]) (by simp [results, Tryd.results9, go_sem]) rfl ?_
  rw [HO.out]
  exact ⟨rfl, (by repeat (first | with_reducible exact Below.refl _ _ | with_reducible assumption | with_reducible refine below_drewN' ?_ _ | (with_reducible refine Below.setCell ?_ (by first | (simp; done) | (simp; omega)) _) | (with_reducible refine Below.alloc ?_ (by first | exact Nat.le_refl _ | (simp; done) | (simp; omega)) _)))⟩

set_option maxHeartbeats 1600000 in
theorem frac_Of_neg (n d : Int) (w : World) (hn : inB n = true) (hd : inB d = true) (h : d < 0) :
    Calls Tryd.prog 9 #[.int .i64 n, .int .i64 d] w (FracIs (ofS n d) w) := by
  have hn' := inB_true.1 hn
  have hd' := inB_true.1 hd
  have hO : ofS n d = ((-(n / cgcd n d)), (-(d / cgcd n d)), true) := by
    unfold ofS; rw [hn, hd, bne_iff_ne.2 (show d ≠ 0 by omega)]
    simp only [Bool.and_self, if_true]
    rw [if_pos h]
  obtain ⟨g1, g2⟩ := cgcd_bounds (n := n) (show d ≠ 0 by omega) hd'
  obtain ⟨q1, q2, q3, q4, q5⟩ := quo_facts g1 (cgcd_left n d) hn'
  obtain ⟨p1, p2, p3, p4, p5⟩ := quo_facts g1 (cgcd_right n d) hd'
  have hg : gcdV n d = cgcd n d := gcdV_yes hn hd
  have hd0 : (d == 0) = false := beq_eq_false_iff_ne.2 (by omega)
  obtain ⟨a1, a2⟩ := hn'
  obtain ⟨d1, d2⟩ := hd'
  generalize cgcd n d = g at *
  have hg0 : (g == 0) = false := beq_eq_false_iff_ne.2 (by omega)
  have hg00 : (-g == 0) = false := beq_eq_false_iff_ne.2 (by omega)
  generalize hx : n / g = x at *
  generalize hy : d / g = y at *
  have HO := Lib.hid hO
  clear hO hx hy q3 p3
  go_enter Tryd.func9, Tryd.ntmps9
  go_wp2_with (go_at_call 33; refine (num_In _ _).mono ?_; rintro e w' ⟨rfl, rfl⟩)
  refine (num_Gcd _ _ _).mono ?_
  rintro e w' ⟨rfl, nn, rfl⟩
  go_wp2_with fail
  go_region
  all_goals go_wp2
  refine bodyPost_ret (v := .tuple #[.agg #[.int .i64 (-x), .int .i64 (-y)], .bool true]) (by simp [results, Tryd.results9, go_sem]) rfl ?_
  rw [HO.out]
  exact ⟨rfl, (by repeat (first | with_reducible exact Below.refl _ _ | with_reducible assumption | with_reducible refine below_drewN' ?_ _ | (with_reducible refine Below.setCell ?_ (by first | (simp; done) | (simp; omega)) _) | (with_reducible refine Below.alloc ?_ (by first | exact Nat.le_refl _ | (simp; done) | (simp; omega)) _)))⟩

theorem frac_Of (n d : Int) (w : World) :
    Calls Tryd.prog 9 #[.int .i64 n, .int .i64 d] w (FracIs (ofS n d) w) := by
  cases hn : inB n
  · exact frac_Of_no n d w (.inl hn)
  · cases hd : inB d
    · exact frac_Of_no n d w (.inr (.inl hd))
    · rcases Int.lt_trichotomy d 0 with h | h | h
      · exact frac_Of_neg n d w hn hd h
      · exact frac_Of_no n d w (.inr (.inr h))
      · exact frac_Of_pos n d w hn hd h

end Go.Proofs.YtemmgehaddghfaaDoor
