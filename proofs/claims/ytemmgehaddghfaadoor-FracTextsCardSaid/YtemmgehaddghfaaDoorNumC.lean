/- THE WALKS over package num: Gcd, Div, Mod; the law's same. -/
import Derived.Test.YtemmgehaddghfaaDoorNumB
namespace Go.Proofs.YtemmgehaddghfaaDoor
open Go.RowKit

/-- the greatest common divisor, 0 out of range -/
def gcdV (a b : Int) : Int := if bothB a b then (Nat.gcd a.natAbs b.natAbs : Int) else 0

theorem gcdV_yes {a b : Int} (ha : inB a = true) (hb : inB b = true) : gcdV a b = (Nat.gcd a.natAbs b.natAbs : Int) := by
  unfold gcdV bothB; rw [ha, hb]; rfl

theorem gcdV_no {a b : Int} (h : bothB a b = false) : gcdV a b = 0 := by unfold gcdV; rw [h]; rfl

theorem gcd_step (x y : Nat) : Nat.gcd y (x % y) = Nat.gcd x y := by
  rw [Nat.gcd_comm x y, Nat.gcd_rec y x, Nat.gcd_comm]

set_option maxHeartbeats 800000 in
theorem num_Gcd (a b : Int) (w : World) :
    Calls Tryd.prog 34 #[.int .i64 a, .int .i64 b] w fun e w' => e = .returned (.int .i64 (gcdV a b)) ∧ ∃ n, w' = w.drewN n := by
  rcases inB_cases a with ⟨ha, ha1, ha2⟩ | ⟨ha, ha1⟩
  · rcases inB_cases b with ⟨hb, hb1, hb2⟩ | ⟨hb, hb1⟩
    · have H := Lib.hid (gcdV_yes ha hb)
      go_enter Tryd.func34, Tryd.ntmps34
      go_wp2_with (first | (go_at_call 33; refine (num_In _ _).mono ?_; rintro e w' ⟨rfl, rfl⟩) | (go_at_call 53; refine (num_abs _ _ (by omega) (by omega)).mono ?_; rintro e w' ⟨rfl, rfl⟩))
      go_loopw [0, 1] (fun u v wr => ∃ x y : Nat, u = .int .i64 x ∧ v = .int .i64 y ∧ Hid (Nat.gcd x y = Nat.gcd a.natAbs b.natAbs) ∧ x ≤ 1000000000000000 ∧ y ≤ 1000000000000000 ∧ ∃ n, wr = w.drewN n) (fun _ v _ => (intOf v).toNat)
      case atStart => exact ⟨_, _, rfl, rfl, Lib.hid rfl, by omega, by omega, 0, rfl⟩
      case round =>
        obtain ⟨x, y, rfl, rfl, hg, hx, hy, n, rfl⟩ := hrel
        by_cases h0 : y = 0
        · subst h0
          go_wp2
          go_ret
          exact ⟨ret_int (by rw [H.out, ← hg.out, Nat.gcd_zero_right]), n, rfl⟩
        · have hy0 : (0 : Int) < (y : Int) := by omega
          have hne : ((y : Int) != 0) = true := by rw [bne_iff_ne]; omega
          have hne2 : ((y : Int) == 0) = false := by rw [beq_eq_false_iff_ne]; omega
          go_wp2
          go_quiet (fail)
          go_wp2
          have hm := Int.emod_lt_of_pos (x : Int) hy0
          have hm0 := Int.emod_nonneg (x : Int) (show (y : Int) ≠ 0 by omega)
          go_roundw
          case rel => exact ⟨y, x % y, rfl, by go_num, Lib.hid ((gcd_step x y).trans hg.out), by omega, by omega, n + nq, by simp⟩
          case measure => simp [intOf]; omega
    · have H := Lib.hid (gcdV_no (a := a) (b := b) (by simp [bothB, hb]))
      go_enter Tryd.func34, Tryd.ntmps34
      go_wp2_with (first | (go_at_call 33; refine (num_In _ _).mono ?_; rintro e w' ⟨rfl, rfl⟩) | (go_at_call 53; refine (num_abs _ _ (by omega) (by omega)).mono ?_; rintro e w' ⟨rfl, rfl⟩))
      go_ret
      exact ⟨ret_int H.out.symm, 0, rfl⟩
  · have H := Lib.hid (gcdV_no (a := a) (b := b) (by simp [bothB, ha]))
    go_enter Tryd.func34, Tryd.ntmps34
    go_wp2_with (first | (go_at_call 33; refine (num_In _ _).mono ?_; rintro e w' ⟨rfl, rfl⟩) | (go_at_call 53; refine (num_abs _ _ (by omega) (by omega)).mono ?_; rintro e w' ⟨rfl, rfl⟩))
    go_ret
    exact ⟨ret_int H.out.symm, 0, rfl⟩

/-- may one divide -/
def divB (a b : Int) : Bool := bothB a b && b != 0

def divV (a b : Int) : Int := if divB a b then a.tdiv b else 0

def modV (a b : Int) : Int := if divB a b then a.tmod b else 0

theorem divB_yes {a b : Int} (ha : inB a = true) (hb : inB b = true) (h : b ≠ 0) : divB a b = true := by
  rw [divB, bothB, ha, hb, bne_iff_ne.2 h]; rfl

theorem divB_zero (a : Int) : divB a 0 = false := by simp [divB]

theorem divB_out {a b : Int} (h : bothB a b = false) : divB a b = false := by rw [divB, h]; rfl

theorem tdiv_in {a b : Int} (h1 : -1000000000000000 ≤ a) (h2 : a ≤ 1000000000000000) : -1000000000000000 ≤ a.tdiv b ∧ a.tdiv b ≤ 1000000000000000 := by
  have : (a.tdiv b).natAbs ≤ a.natAbs := by rw [Int.natAbs_tdiv]; exact Nat.div_le_self _ _
  omega

theorem tmod_in {a b : Int} (h1 : -1000000000000000 ≤ a) (h2 : a ≤ 1000000000000000) : -1000000000000000 ≤ a.tmod b ∧ a.tmod b ≤ 1000000000000000 := by
  have : (a.tmod b).natAbs ≤ a.natAbs := by rw [Int.natAbs_tmod]; exact Nat.mod_le _ _
  omega

end Go.Proofs.YtemmgehaddghfaaDoor
