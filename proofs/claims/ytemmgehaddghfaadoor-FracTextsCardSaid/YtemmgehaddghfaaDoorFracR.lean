/- THE WALK over the reference's Of. -/
import Derived.Test.YtemmgehaddghfaaDoorFracX
namespace Go.Proofs.YtemmgehaddghfaaDoor
open Go.RowKit

set_option maxHeartbeats 1600000 in
theorem r3_Of_no (n d : Int) (w : World) (h : inB n = false ∨ inB d = false ∨ d = 0) :
    Calls Tryd.prog 10 #[.int .i64 n, .int .i64 d] w (FracIs (ofS n d) w) := by
  have FIN : Hid (FracIs (ofS n d) w (.returned (.tuple #[.agg #[.int .i64 0, .int .i64 0], .bool false])) (w.alloc (.cells #[.int .i64 0, .int .i64 0] 23))) := by
    rw [ofS_no h]; exact ⟨rfl, (Below.refl w.heap.size w).alloc (Nat.le_refl _) _⟩
  by_cases h1 : n < -1000000000000000
  · go_enter Tryd.func10, Tryd.ntmps10
    go_wp2
    exact bodyPost_ret (v := .tuple #[.agg #[.int .i64 0, .int .i64 0], .bool false]) (by simp [results, Tryd.results10, go_sem]) rfl FIN.out
  · by_cases h2 : 1000000000000000 < n
    · go_enter Tryd.func10, Tryd.ntmps10
      go_wp2
      exact bodyPost_ret (v := .tuple #[.agg #[.int .i64 0, .int .i64 0], .bool false]) (by simp [results, Tryd.results10, go_sem]) rfl FIN.out
    · by_cases h3 : d < -1000000000000000
      · go_enter Tryd.func10, Tryd.ntmps10
        go_wp2
        exact bodyPost_ret (v := .tuple #[.agg #[.int .i64 0, .int .i64 0], .bool false]) (by simp [results, Tryd.results10, go_sem]) rfl FIN.out
      · by_cases h4 : 1000000000000000 < d
        · go_enter Tryd.func10, Tryd.ntmps10
          go_wp2
          exact bodyPost_ret (v := .tuple #[.agg #[.int .i64 0, .int .i64 0], .bool false]) (by simp [results, Tryd.results10, go_sem]) rfl FIN.out
        · obtain rfl : d = 0 := by
            rcases h with h | h | h
            · rw [inB_false] at h; omega
            · rw [inB_false] at h; omega
            · exact h
          go_enter Tryd.func10, Tryd.ntmps10
          go_wp2
          exact bodyPost_ret (v := .tuple #[.agg #[.int .i64 0, .int .i64 0], .bool false]) (by simp [results, Tryd.results10, go_sem]) rfl FIN.out

theorem cgcd_abs2 (n d : Int) : cgcd (n.natAbs : Int) (d.natAbs : Int) = cgcd n d := by unfold cgcd; rw [Int.natAbs_natCast, Int.natAbs_natCast]

set_option maxHeartbeats 1600000 in
theorem r3_Of_yes (n d : Int) (w : World) (hn : inB n = true) (hd : inB d = true) (h : d ≠ 0) :
    Calls Tryd.prog 10 #[.int .i64 n, .int .i64 d] w (FracIs (ofS n d) w) := by
  have hn' := inB_true.1 hn
  have hd' := inB_true.1 hd
  have hO : ofS n d = if d < 0 then (-(n / cgcd n d), -(d / cgcd n d), true) else (n / cgcd n d, d / cgcd n d, true) := by
    unfold ofS; rw [hn, hd, bne_iff_ne.2 h]
    simp only [Bool.and_self, if_true]
  obtain ⟨g1, g2⟩ := cgcd_bounds (n := n) h hd'
  obtain ⟨q1, q2, q3, q4, q5⟩ := quo_facts g1 (cgcd_left n d) hn'
  obtain ⟨p1, p2, p3, p4, p5⟩ := quo_facts g1 (cgcd_right n d) hd'
  have hg := cgcd_abs2 n d
  have hd0 : (d == 0) = false := beq_eq_false_iff_ne.2 h
  obtain ⟨a1, a2⟩ := hn'
  obtain ⟨d1, d2⟩ := hd'
  generalize cgcd n d = g at *
  have hg0 : (g == 0) = false := beq_eq_false_iff_ne.2 (by omega)
  have hg00 : ¬ g = 0 := by omega
  generalize hx : n / g = x at *
  generalize hy : d / g = y at *
  have HO := Lib.hid hO
  clear hO hx hy q2 p2 h hn hd
  by_cases hneg : d < 0
  · rw [if_pos hneg] at HO
    go_enter Tryd.func10, Tryd.ntmps10
    go_wp2_with (go_at_call 36; refine (r3_size _ _ (by omega) (by omega)).mono ?_; rintro e w' ⟨rfl, rfl⟩)
    refine (r3_gcd _ _ _ ⟨by omega, by omega⟩ ⟨by omega, by omega⟩).mono ?_
    rintro e w' ⟨rfl, nn, rfl⟩
    go_wp2_with fail
    go_region
    all_goals go_wp2
    refine bodyPost_ret (v := .tuple #[.agg #[.int .i64 (-x), .int .i64 (-y)], .bool true]) (by simp [results, Tryd.results10, go_sem]) rfl ?_
    rw [HO.out]
    exact ⟨rfl, (by repeat (first | with_reducible exact Below.refl _ _ | with_reducible assumption | with_reducible refine below_drewN' ?_ _ | (with_reducible refine Below.setCell ?_ (by first | (simp; done) | (simp; omega)) _) | (with_reducible refine Below.alloc ?_ (by first | exact Nat.le_refl _ | (simp; done) | (simp; omega)) _)))⟩
  · rw [if_neg hneg] at HO
    go_enter Tryd.func10, Tryd.ntmps10
    go_wp2_with (go_at_call 36; refine (r3_size _ _ (by omega) (by omega)).mono ?_; rintro e w' ⟨rfl, rfl⟩)
    refine (r3_gcd _ _ _ ⟨by omega, by omega⟩ ⟨by omega, by omega⟩).mono ?_
    rintro e w' ⟨rfl, nn, rfl⟩
    go_wp2_with fail
    go_region
    all_goals go_wp2
    refine bodyPost_ret (v := .tuple #[.agg #[.int .i64 x, .int .i64 y], .bool true]) (by simp [results, Tryd.results10, go_sem]) rfl ?_
    rw [HO.out]
    exact ⟨rfl, (by repeat (first | with_reducible exact Below.refl _ _ | with_reducible assumption | with_reducible refine below_drewN' ?_ _ | (with_reducible refine Below.setCell ?_ (by first | (simp; done) | (simp; omega)) _) | (with_reducible refine Below.alloc ?_ (by first | exact Nat.le_refl _ | (simp; done) | (simp; omega)) _)))⟩

theorem r3_Of (n d : Int) (w : World) :
    Calls Tryd.prog 10 #[.int .i64 n, .int .i64 d] w (FracIs (ofS n d) w) := by
  cases hn : inB n
  · exact r3_Of_no n d w (.inl hn)
  · cases hd : inB d
    · exact r3_Of_no n d w (.inr (.inl hd))
    · by_cases h : d = 0
      · exact r3_Of_no n d w (.inr (.inr h))
      · exact r3_Of_yes n d w hn hd h

end Go.Proofs.YtemmgehaddghfaaDoor
