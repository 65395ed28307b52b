/- PARTS OF THE WALKS, joined: NumA, NumB, NumC. -/
import Derived.Test.YtbjddimafilflaaGreatDoorProg
import Derived.WalkKit
import Derived.WalkSpells
import Derived.WalkLawsBesides
import Derived.Lib.Hide
import Derived.Test.YtbjddimafilflaaGreatDoorP03
import Derived.Deep.QuietTactic
import Derived.BigQuiet
/- THE WALKS over package num: In, ranged, Add, Sub, abs, Mul, Div, Mod. -/
namespace Go.Proofs.YtbjddimafilflaaGreatDoor
open Go.RowKit
set_option maxHeartbeats 400000 in
theorem num_In (n : Int) (w : World) :
    Calls Tryz.prog 120 #[.int .i64 n] w fun e w' => e = .returned (.bool (inB n)) ∧ w = w' := by
  go_enter Tryz.func120, Tryz.ntmps120
  go_wp2
  all_goals go_ret
  all_goals (unfold inB; simp [*]; try omega)
set_option maxHeartbeats 400000 in
theorem ref_In (n : Int) (w : World) :
    Calls Tryz.prog 112 #[.int .i64 n] w fun e w' => e = .returned (.bool (inB n)) ∧ w = w' := by
  go_enter Tryz.func112, Tryz.ntmps112
  go_wp2
  all_goals go_ret
  all_goals (unfold inB; simp [*]; try omega)
/-- both in range -/
def bothB (a b : Int) : Bool := inB a && inB b
end Go.Proofs.YtbjddimafilflaaGreatDoor

/- THE WALKS over package num: abs, Mul, Div, Mod, Gcd, and the law's same. -/
namespace Go.Proofs.YtbjddimafilflaaGreatDoor
open Go.RowKit
theorem ret_int {k : IntKind} {a b : Int} (h : a = b) : Ending.returned (.int k a) = .returned (.int k b) := by rw [h]
set_option maxHeartbeats 400000 in
theorem num_abs (n : Int) (w : World) (h1 : -1000000000000000 ≤ n) (h2 : n ≤ 1000000000000000) :
    Calls Tryz.prog 136 #[.int .i64 n] w fun e w' => e = .returned (.int .i64 n.natAbs) ∧ w = w' := by
  by_cases h : n < 0
  all_goals
    go_enter Tryz.func136, Tryz.ntmps136
    go_wp2
    all_goals go_ret
    all_goals (refine ⟨ret_int ?_, rfl⟩; omega)
end Go.Proofs.YtbjddimafilflaaGreatDoor

/- THE WALKS over package num: Gcd, Div, Mod; the law's same. -/
namespace Go.Proofs.YtbjddimafilflaaGreatDoor
open Go.RowKit
/-- the greatest common divisor, 0 out of range -/
def gcdV (a b : Int) : Int := if bothB a b then (Nat.gcd a.natAbs b.natAbs : Int) else 0
theorem gcdV_yes {a b : Int} (ha : inB a = true) (hb : inB b = true) : gcdV a b = (Nat.gcd a.natAbs b.natAbs : Int) := by
  unfold gcdV bothB; rw [ha, hb]; rfl
theorem gcdV_no {a b : Int} (h : bothB a b = false) : gcdV a b = 0 := by unfold gcdV; rw [h]; rfl
theorem gcd_step (x y : Nat) : Nat.gcd y (x % y) = Nat.gcd x y := by
  rw [Nat.gcd_comm x y, Nat.gcd_rec y x, Nat.gcd_comm]
set_option maxHeartbeats 800000 in
theorem num_Gcd (a b : Int) (w : World) :
    Calls Tryz.prog 129 #[.int .i64 a, .int .i64 b] w fun e w' => e = .returned (.int .i64 (gcdV a b)) ∧ ∃ n, w' = w.drewN n := by
  rcases inB_cases a with ⟨ha, ha1, ha2⟩ | ⟨ha, ha1⟩
  · rcases inB_cases b with ⟨hb, hb1, hb2⟩ | ⟨hb, hb1⟩
    · have H := Lib.hid (gcdV_yes ha hb)
      go_enter Tryz.func129, Tryz.ntmps129
      go_wp2_with (first | (go_at_call 120; refine (num_In _ _).mono ?_; rintro e w' ⟨rfl, rfl⟩) | (go_at_call 136; refine (num_abs _ _ (by omega) (by omega)).mono ?_; rintro e w' ⟨rfl, rfl⟩))
      go_loopw [0, 1] (fun u v wr => ∃ x y : Nat, u = .int .i64 x ∧ v = .int .i64 y ∧ Hid (Nat.gcd x y = Nat.gcd a.natAbs b.natAbs) ∧ x ≤ 1000000000000000 ∧ y ≤ 1000000000000000 ∧ ∃ n, wr = w.drewN n) (fun _ v _ => (intOf v).toNat)
      case atStart => exact ⟨_, _, rfl, rfl, Lib.hid rfl, by omega, by omega, 0, rfl⟩
      case round =>
        obtain ⟨x, y, rfl, rfl, hg, hx, hy, n, rfl⟩ := hrel
        by_cases h0 : y = 0
        · subst h0
          go_wp2
          go_ret
          exact ⟨ret_int (by rw [H.out, ← hg.out, Nat.gcd_zero_right]), n, rfl⟩
        · have hy0 : (0 : Int) < (y : Int) := by omega
          have hne : ((y : Int) != 0) = true := by rw [bne_iff_ne]; omega
          have hne2 : ((y : Int) == 0) = false := by rw [beq_eq_false_iff_ne]; omega
          go_wp2
          go_quiet (fail)
          go_wp2
          have hm := Int.emod_lt_of_pos (x : Int) hy0
          have hm0 := Int.emod_nonneg (x : Int) (show (y : Int) ≠ 0 by omega)
          go_roundw
          case rel => exact ⟨y, x % y, rfl, by go_num, Lib.hid ((gcd_step x y).trans hg.out), by omega, by omega, n + nq, by simp⟩
          case measure => simp [intOf]; omega
    · have H := Lib.hid (gcdV_no (a := a) (b := b) (by simp [bothB, hb]))
      go_enter Tryz.func129, Tryz.ntmps129
      go_wp2_with (first | (go_at_call 120; refine (num_In _ _).mono ?_; rintro e w' ⟨rfl, rfl⟩) | (go_at_call 136; refine (num_abs _ _ (by omega) (by omega)).mono ?_; rintro e w' ⟨rfl, rfl⟩))
      go_ret
      exact ⟨ret_int H.out.symm, 0, rfl⟩
  · have H := Lib.hid (gcdV_no (a := a) (b := b) (by simp [bothB, ha]))
    go_enter Tryz.func129, Tryz.ntmps129
    go_wp2_with (first | (go_at_call 120; refine (num_In _ _).mono ?_; rintro e w' ⟨rfl, rfl⟩) | (go_at_call 136; refine (num_abs _ _ (by omega) (by omega)).mono ?_; rintro e w' ⟨rfl, rfl⟩))
    go_ret
    exact ⟨ret_int H.out.symm, 0, rfl⟩
end Go.Proofs.YtbjddimafilflaaGreatDoor
