/- THE WALKS over fractions: gcd, size, sign of the reference; Valid of both. -/
import Derived.Test.YtemmgehaddghfaaDoorNumC
import Derived.Test.YtemmgehaddghfaaDoorPlainF
import Derived.Deep.Cut
namespace Go.Proofs.YtemmgehaddghfaaDoor
open Go.RowKit

theorem below_step {w w1 w2 : World} (h : Below w.heap.size w w1) (h2 : Below w1.heap.size w1 w2) : Below w.heap.size w w2 := h.trans (h2.mono h.size)

theorem below_drewN' {B : Nat} {a w : World} (h : Below B a w) (n : Nat) : Below B a (w.drewN n) := h.trans ⟨rfl, rfl, rfl, Nat.le_refl _, fun _ _ => rfl⟩

theorem ret_bool {p q : Bool} (h : p = q) : Ending.returned (.bool p) = .returned (.bool q) := by rw [h]

set_option maxHeartbeats 400000 in
theorem r3_size (n : Int) (w : World) (h1 : -9223372036854775808 < n) (h2 : n ≤ 9223372036854775807) :
    Calls Tryd.prog 36 #[.int .i64 n] w fun e w' => e = .returned (.int .i64 n.natAbs) ∧ w = w' := by
  by_cases h : n < 0
  all_goals
    go_enter Tryd.func36, Tryd.ntmps36
    go_wp2
    all_goals go_ret
    all_goals (refine ⟨ret_int ?_, rfl⟩; omega)

/-- the sign -/
def sgn (n : Int) : Int := if n < 0 then -1 else if 0 < n then 1 else 0

set_option maxHeartbeats 400000 in
theorem r3_sign (n : Int) (w : World) :
    Calls Tryd.prog 44 #[.int .i64 n] w fun e w' => e = .returned (.int .i64 (sgn n)) ∧ w = w' := by
  by_cases h : n < 0
  · have HS : Hid (sgn n = -1) := if_pos h
    go_enter Tryd.func44, Tryd.ntmps44
    go_wp2
    go_ret
    exact ⟨ret_int HS.out.symm, rfl⟩
  · by_cases h' : 0 < n
    · have HS : Hid (sgn n = 1) := by unfold sgn; rw [if_neg h, if_pos h']; rfl
      go_enter Tryd.func44, Tryd.ntmps44
      go_wp2
      go_ret
      exact ⟨ret_int HS.out.symm, rfl⟩
    · have HS : Hid (sgn n = 0) := by unfold sgn; rw [if_neg h, if_neg h']; rfl
      go_enter Tryd.func44, Tryd.ntmps44
      go_wp2
      go_ret
      exact ⟨ret_int HS.out.symm, rfl⟩

set_option maxHeartbeats 800000 in
theorem r3_gcd_nat (a b : Nat) (w : World) (ha : a ≤ 1000000000000000) (hb : b ≤ 1000000000000000) :
    Calls Tryd.prog 35 #[.int .i64 a, .int .i64 b] w fun e w' => e = .returned (.int .i64 (Nat.gcd a b)) ∧ ∃ n, w' = w.drewN n := by
  go_enter Tryd.func35, Tryd.ntmps35
  go_wp2
  go_loopw [0, 1] (fun u v wr => ∃ x y : Nat, u = .int .i64 x ∧ v = .int .i64 y ∧ Hid (Nat.gcd x y = Nat.gcd a b) ∧ x ≤ 1000000000000000 ∧ y ≤ 1000000000000000 ∧ ∃ n, wr = w.drewN n) (fun _ v _ => (intOf v).toNat)
  case atStart => exact ⟨a, b, rfl, rfl, Lib.hid rfl, ha, hb, 0, rfl⟩
  case round =>
    obtain ⟨x, y, rfl, rfl, hg, hx, hy, n, rfl⟩ := hrel
    by_cases h0 : y = 0
    · subst h0
      go_wp2
      go_ret
      exact ⟨ret_int (by rw [← hg.out, Nat.gcd_zero_right]), n, rfl⟩
    · have hy0 : (0 : Int) < (y : Int) := by omega
      have hne : ((y : Int) != 0) = true := by rw [bne_iff_ne]; omega
      have hne2 : ((y : Int) == 0) = false := by rw [beq_eq_false_iff_ne]; omega
      go_wp2
      go_quiet (fail)
      go_wp2
      have hm := Int.emod_lt_of_pos (x : Int) hy0
      have hm0 := Int.emod_nonneg (x : Int) (show (y : Int) ≠ 0 by omega)
      go_roundw
      case rel => exact ⟨y, x % y, rfl, by go_num, Lib.hid ((gcd_step x y).trans hg.out), by omega, by omega, n + nq, by simp⟩
      case measure => simp [intOf]; omega

theorem r3_gcd (a b : Int) (w : World) (ha : 0 ≤ a ∧ a ≤ 1000000000000000) (hb : 0 ≤ b ∧ b ≤ 1000000000000000) :
    Calls Tryd.prog 35 #[.int .i64 a, .int .i64 b] w fun e w' => e = .returned (.int .i64 (cgcd a b)) ∧ ∃ n, w' = w.drewN n := by
  have h := r3_gcd_nat a.toNat b.toNat w (by omega) (by omega)
  have e1 : ((a.toNat : Nat) : Int) = a := by omega
  have e2 : ((b.toNat : Nat) : Int) = b := by omega
  have e3 : a.toNat = a.natAbs := by omega
  have e4 : b.toNat = b.natAbs := by omega
  rw [e1, e2, e3, e4] at h
  exact h

theorem validB_no1 {n d : Int} (h : d < 1) : validB n d = false := by
  unfold validB; rw [decide_eq_false (by omega)]; rfl

theorem validB_no2 {n d : Int} (h : 1000000000000000 < d) : validB n d = false := by
  unfold validB; rw [decide_eq_false (p := d ≤ 1000000000000000) (by omega), Bool.and_false]; rfl

theorem validB_no3 {n d : Int} (h : inB n = false) : validB n d = false := by
  unfold validB; rw [h, Bool.and_false]; rfl

theorem validB_gcd {n d : Int} (h1 : 1 ≤ d) (h2 : d ≤ 1000000000000000) (h : inB n = true) : (cgcd n d == 1) = validB n d := by
  unfold validB; rw [decide_eq_true h1, decide_eq_true h2, h]; rfl

theorem cgcd_abs (n d : Int) : cgcd (n.natAbs : Int) d = cgcd n d := by unfold cgcd; rw [Int.natAbs_natCast]

set_option maxHeartbeats 800000 in
theorem frac_Valid (n d : Int) (w : World) :
    Calls Tryd.prog 11 #[.agg #[.int .i64 n, .int .i64 d]] w fun e w' => e = .returned (.bool (validB n d)) ∧ Below w.heap.size w w' := by
  have hb0 := (Below.refl w.heap.size w).alloc (Nat.le_refl _) (.cells #[.int .i64 n, .int .i64 d] 23)
  by_cases h1 : d < 1
  · have H := Lib.hid (validB_no1 (n := n) h1)
    go_enter Tryd.func11, Tryd.ntmps11
    go_wp2
    go_ret
    exact ⟨ret_bool H.out.symm, hb0⟩
  · by_cases h2 : 1000000000000000 < d
    · have H := Lib.hid (validB_no2 (n := n) h2)
      go_enter Tryd.func11, Tryd.ntmps11
      go_wp2
      go_ret
      exact ⟨ret_bool H.out.symm, hb0⟩
    · rcases inB_cases n with ⟨hi, hi1, hi2⟩ | ⟨hi, hi1⟩
      · have H := Lib.hid (validB_gcd (n := n) (d := d) (by omega) (by omega) hi)
        have hg : gcdV n d = cgcd n d := gcdV_yes hi (inB_true.2 (by omega))
        go_enter Tryd.func11, Tryd.ntmps11
        go_wp2_with (go_at_call 33; refine (num_In _ _).mono ?_; rintro e w' ⟨rfl, rfl⟩)
        refine (num_Gcd _ _ _).mono ?_
        rintro e w' ⟨rfl, nn, rfl⟩
        have hb1 := below_drewN' hb0 nn
        go_wp2
        all_goals go_ret
        all_goals exact ⟨ret_bool (by rw [← H.out]), hb1⟩
      · have H := Lib.hid (validB_no3 (d := d) hi)
        go_enter Tryd.func11, Tryd.ntmps11
        go_wp2_with (go_at_call 33; refine (num_In _ _).mono ?_; rintro e w' ⟨rfl, rfl⟩)
        go_ret
        exact ⟨ret_bool H.out.symm, hb0⟩

set_option maxHeartbeats 800000 in
theorem r3_Valid (n d : Int) (w : World) :
    Calls Tryd.prog 12 #[.agg #[.int .i64 n, .int .i64 d]] w fun e w' => e = .returned (.bool (validB n d)) ∧ Below w.heap.size w w' := by
  have hb0 := (Below.refl w.heap.size w).alloc (Nat.le_refl _) (.cells #[.int .i64 n, .int .i64 d] 23)
  by_cases h1 : d < 1
  · have H := Lib.hid (validB_no1 (n := n) h1)
    have t1 : decide (1 ≤ d) = false := decide_eq_false (by omega)
    go_enter Tryd.func12, Tryd.ntmps12
    go_wp2
    go_quiet (fail)
    go_wp2
    go_ret
    exact ⟨ret_bool H.out.symm, below_drewN' hb0 _⟩
  · have t1 : decide (1 ≤ d) = true := decide_eq_true (by omega)
    by_cases h2 : 1000000000000000 < d
    · have H := Lib.hid (validB_no2 (n := n) h2)
      have t2 : decide (d ≤ 1000000000000000) = false := decide_eq_false (by omega)
      go_enter Tryd.func12, Tryd.ntmps12
      go_wp2
      go_quiet (fail)
      go_wp2
      go_ret
      exact ⟨ret_bool H.out.symm, below_drewN' hb0 _⟩
    · have t2 : decide (d ≤ 1000000000000000) = true := decide_eq_true (by omega)
      by_cases h3 : n < -1000000000000000
      · have H := Lib.hid (validB_no3 (d := d) (inB_false.2 (Or.inl h3)))
        have t3 : decide (-1000000000000000 ≤ n) = false := decide_eq_false (by omega)
        go_enter Tryd.func12, Tryd.ntmps12
        go_wp2
        go_quiet (fail)
        go_wp2
        go_ret
        exact ⟨ret_bool H.out.symm, below_drewN' hb0 _⟩
      · have t3 : decide (-1000000000000000 ≤ n) = true := decide_eq_true (by omega)
        by_cases h4 : 1000000000000000 < n
        · have H := Lib.hid (validB_no3 (d := d) (inB_false.2 (Or.inr h4)))
          have t4 : decide (n ≤ 1000000000000000) = false := decide_eq_false (by omega)
          go_enter Tryd.func12, Tryd.ntmps12
          go_wp2
          go_quiet (fail)
          go_wp2
          go_ret
          exact ⟨ret_bool H.out.symm, below_drewN' hb0 _⟩
        · have t4 : decide (n ≤ 1000000000000000) = true := decide_eq_true (by omega)
          have H := Lib.hid (validB_gcd (n := n) (d := d) (by omega) (by omega) (inB_true.2 (by omega)))
          have hc := cgcd_abs n d
          go_enter Tryd.func12, Tryd.ntmps12
          go_wp2
          go_quiet (((first | (go_at_call 36; exact Calls.quiet_of_same ((r3_size _ _ (by omega) (by omega)).mono fun e w' h => ⟨h.1, h.2.symm⟩)) | (go_at_call 35; exact Calls.quiet_of ((r3_gcd _ _ _ ⟨by omega, by omega⟩ ⟨by omega, by omega⟩))))))
          go_wp2
          all_goals go_ret
          all_goals exact ⟨ret_bool (by rw [← H.out]), below_drewN' hb0 _⟩
end Go.Proofs.YtemmgehaddghfaaDoor
