/- THE WALKS over the wide integers: sign; the long division. -/
import Derived.Test.YtemmgehaddghfaaDoorFracB
import Derived.Test.YtemmgehaddghfaaDoorPlainDiv
namespace Go.Proofs.YtemmgehaddghfaaDoor
open Go.RowKit

/-- the sign of a wide integer -/
def sgnW (s : Bool) (m : Nat) : Int := if m = 0 then 0 else if s then -1 else 1

theorem or_zero {h l : Int} {m : Nat} (W : WB h l m) : (bits .or .u64 h l == 0) = decide (m = 0) := by
  unfold WB at W
  obtain ⟨h', rfl⟩ := Int.eq_ofNat_of_zero_le W.1.1
  obtain ⟨l', rfl⟩ := Int.eq_ofNat_of_zero_le W.2.1.1
  rw [bits_or_u64_nat h' l' (by omega) (by omega)]
  by_cases hm : m = 0
  · rw [decide_eq_true hm]
    obtain rfl : h' = 0 := by omega
    obtain rfl : l' = 0 := by omega
    rfl
  · rw [decide_eq_false hm, beq_eq_false_iff_ne]
    intro e
    have e' : h' ||| l' = 0 := by omega
    rw [Nat.or_eq_zero_iff] at e'
    omega

set_option maxHeartbeats 800000 in
theorem wide_sign (s : Bool) (h l : Int) (m : Nat) (w : World) (W : WB h l m) :
    Calls Tryd.prog 39 #[.agg #[.bool s, .int .u64 h, .int .u64 l]] w fun e w' => e = .returned (.int .i64 (sgnW s m)) ∧ Below w.heap.size w w' := by
  have hb0 := (Below.refl w.heap.size w).alloc (Nat.le_refl _) (.cells #[.bool s, .int .u64 h, .int .u64 l] 43)
  have HO := or_zero W
  by_cases hm : m = 0
  · rw [decide_eq_true hm] at HO
    have HS : Hid (sgnW s m = 0) := if_pos hm
    go_enter Tryd.func39, Tryd.ntmps39
    go_wp2
    go_ret
    exact ⟨ret_int HS.out.symm, hb0⟩
  · rw [decide_eq_false hm] at HO
    have HS : Hid (sgnW s m = if s then -1 else 1) := if_neg hm
    cases s
    · go_enter Tryd.func39, Tryd.ntmps39
      go_wp2
      go_ret
      exact ⟨ret_int HS.out.symm, hb0⟩
    · go_enter Tryd.func39, Tryd.ntmps39
      go_wp2
      go_ret
      exact ⟨ret_int HS.out.symm, hb0⟩

set_option maxHeartbeats 800000 in
theorem div64_small (l y : Int) (w : World) (hl : 0 ≤ l ∧ l < 18446744073709551616) (hy : 1 ≤ y ∧ y < 18446744073709551616) :
    Calls Tryd.prog 59 #[.int .u64 0, .int .u64 l, .int .u64 y] w fun e w' => e = .returned (.tuple #[.int .u64 (l / y), .int .u64 (l % y)]) ∧ ∃ n, w' = w.drewN n := by
  have h0 : (y == 0) = false := beq_eq_false_iff_ne.2 (by omega)
  have l1 := hl.1
  have y1 := hy.1
  go_enter Tryd.func59, Tryd.ntmps59
  go_wp2
  go_quiet (fail)
  go_wp2
  go_ret2
  exact ⟨rfl, _, rfl⟩
end Go.Proofs.YtemmgehaddghfaaDoor
