/- THE WALKS over package num: abs, Mul, Div, Mod, Gcd, and the law's same. -/
import Derived.Test.YtemmgehaddghfaaDoorNumA
import Derived.Deep.QuietTactic
import Derived.BigQuiet
namespace Go.Proofs.YtemmgehaddghfaaDoor
open Go.RowKit

theorem ret_int {k : IntKind} {a b : Int} (h : a = b) : Ending.returned (.int k a) = .returned (.int k b) := by rw [h]

theorem ret_int_bool {k : IntKind} {a b : Int} {p q : Bool} (h : a = b) (g : p = q) : Ending.returned (.tuple #[.int k a, .bool p]) = .returned (.tuple #[.int k b, .bool q]) := by rw [h, g]

/-- the product, if all is in range -/
def mulB (a b : Int) : Bool := bothB a b && inB (a * b)

def mulV (a b : Int) : Int := if mulB a b then a * b else 0

theorem mulB_zero {b : Int} (h : inB b = true) : mulB 0 b = true := by
  rw [mulB, bothB, h, Int.zero_mul]; rfl

theorem mul_big {a b : Int} (ha : a ≠ 0) : (1000000000000000 / (a.natAbs : Int) < (b.natAbs : Int)) ↔ (a * b < -1000000000000000 ∨ 1000000000000000 < a * b) := by
  have h0 : (0 : Int) < (a.natAbs : Int) := by omega
  rw [Int.ediv_lt_iff_lt_mul h0]
  have e : ((b.natAbs : Int) * (a.natAbs : Int)) = ((a * b).natAbs : Int) := by rw [Int.natAbs_mul, Int.natCast_mul, Int.mul_comm]
  rw [e]; omega

theorem mulB_big {a b : Int} (ha : a ≠ 0) (h : 1000000000000000 / (a.natAbs : Int) < (b.natAbs : Int)) : mulB a b = false := by
  have := (mul_big (b := b) ha).1 h
  rw [mulB, inB_false.2 this, Bool.and_false]

theorem mulB_small {a b : Int} (ha : a ≠ 0) (h1 : inB a = true) (h2 : inB b = true) (h : (b.natAbs : Int) ≤ 1000000000000000 / (a.natAbs : Int)) : mulB a b = true ∧ -1000000000000000 ≤ a * b ∧ a * b ≤ 1000000000000000 := by
  have : ¬ (a * b < -1000000000000000 ∨ 1000000000000000 < a * b) := fun k => by have := (mul_big (b := b) ha).2 k; omega
  refine ⟨?_, by omega, by omega⟩
  rw [mulB, bothB, h1, h2, inB_true.2 (by omega)]; rfl

theorem mulB_out {a b : Int} (h : bothB a b = false) : mulB a b = false := by rw [mulB, h]; rfl

theorem mul_yes {a b : Int} (h : mulB a b = true) : mulV a b = a * b := by unfold mulV; rw [if_pos h]

theorem mul_no {a b : Int} (h : mulB a b = false) : mulV a b = 0 := by unfold mulV; rw [h]; rfl

set_option maxHeartbeats 400000 in
theorem num_abs (n : Int) (w : World) (h1 : -1000000000000000 ≤ n) (h2 : n ≤ 1000000000000000) :
    Calls Tryd.prog 53 #[.int .i64 n] w fun e w' => e = .returned (.int .i64 n.natAbs) ∧ w = w' := by
  by_cases h : n < 0
  all_goals
    go_enter Tryd.func53, Tryd.ntmps53
    go_wp2
    all_goals go_ret
    all_goals (refine ⟨ret_int ?_, rfl⟩; omega)

set_option maxHeartbeats 800000 in
theorem num_Mul (a b : Int) (w : World) :
    Calls Tryd.prog 42 #[.int .i64 a, .int .i64 b] w fun e w' => e = .returned (.tuple #[.int .i64 (mulV a b), .bool (mulB a b)]) ∧ w = w' := by
  rcases inB_cases a with ⟨ha, ha1, ha2⟩ | ⟨ha, ha1⟩
  · rcases inB_cases b with ⟨hb, hb1, hb2⟩ | ⟨hb, hb1⟩
    · by_cases h0 : a = 0
      · subst h0
        have H := Lib.hid (mulB_zero hb)
        go_enter Tryd.func42, Tryd.ntmps42
        go_wp2_with (first | (go_at_call 33; refine (num_In _ _).mono ?_; rintro e w' ⟨rfl, rfl⟩) | (go_at_call 53; refine (num_abs _ _ (by omega) (by omega)).mono ?_; rintro e w' ⟨rfl, rfl⟩))
        go_ret2
        exact ⟨ret_int_bool (by rw [mul_yes H.out, Int.zero_mul]) H.out.symm, rfl⟩
      · have g1 : (1 : Int) ≤ (a.natAbs : Int) := by omega
        have g0 : (a != 0) = true := by rw [bne_iff_ne]; exact h0
        by_cases h : 1000000000000000 / (a.natAbs : Int) < (b.natAbs : Int)
        · have H := Lib.hid (mulB_big h0 h)
          go_enter Tryd.func42, Tryd.ntmps42
          go_wp2_with (first | (go_at_call 33; refine (num_In _ _).mono ?_; rintro e w' ⟨rfl, rfl⟩) | (go_at_call 53; refine (num_abs _ _ (by omega) (by omega)).mono ?_; rintro e w' ⟨rfl, rfl⟩))
          go_ret2
          exact ⟨ret_int_bool (by rw [mul_no H.out]) H.out.symm, rfl⟩
        · obtain ⟨m1, m2, m3⟩ := mulB_small h0 ha hb (by omega)
          have H := Lib.hid m1
          clear m1
          go_enter Tryd.func42, Tryd.ntmps42
          go_wp2_with (first | (go_at_call 33; refine (num_In _ _).mono ?_; rintro e w' ⟨rfl, rfl⟩) | (go_at_call 53; refine (num_abs _ _ (by omega) (by omega)).mono ?_; rintro e w' ⟨rfl, rfl⟩))
          go_ret2
          exact ⟨ret_int_bool (by rw [mul_yes H.out]) H.out.symm, rfl⟩
    · have H := Lib.hid (mulB_out (a := a) (b := b) (by simp [bothB, hb]))
      go_enter Tryd.func42, Tryd.ntmps42
      go_wp2_with (first | (go_at_call 33; refine (num_In _ _).mono ?_; rintro e w' ⟨rfl, rfl⟩) | (go_at_call 53; refine (num_abs _ _ (by omega) (by omega)).mono ?_; rintro e w' ⟨rfl, rfl⟩))
      go_ret2
      exact ⟨ret_int_bool (by rw [mul_no H.out]) H.out.symm, rfl⟩
  · have H := Lib.hid (mulB_out (a := a) (b := b) (by simp [bothB, ha]))
    go_enter Tryd.func42, Tryd.ntmps42
    go_wp2_with (first | (go_at_call 33; refine (num_In _ _).mono ?_; rintro e w' ⟨rfl, rfl⟩) | (go_at_call 53; refine (num_abs _ _ (by omega) (by omega)).mono ?_; rintro e w' ⟨rfl, rfl⟩))
    go_ret2
    exact ⟨ret_int_bool (by rw [mul_no H.out]) H.out.symm, rfl⟩

end Go.Proofs.YtemmgehaddghfaaDoor
