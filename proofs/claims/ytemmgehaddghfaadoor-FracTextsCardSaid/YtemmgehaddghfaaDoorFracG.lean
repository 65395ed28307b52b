/- THE WALKS over the wide integers: mod and over. -/
import Derived.Test.YtemmgehaddghfaaDoorFracE
namespace Go.Proofs.YtemmgehaddghfaaDoor
open Go.RowKit

/-- the long division, in one contract -/
theorem div64_any (h l : Int) (m y : Nat) (w : World) (W : WB h l m) (hy1 : 1 ≤ y) (hy : y ≤ 1000000000000000) (hh : h < y) :
    Calls Tryd.prog 59 #[.int .u64 h, .int .u64 l, .int .u64 y] w fun e w' => e = .returned (.tuple #[.int .u64 (m / y : Nat), .int .u64 (m % y : Nat)]) ∧ ∃ n, w' = w.drewN n := by
  unfold WB at W
  obtain ⟨h', rfl⟩ := Int.eq_ofNat_of_zero_le W.1.1
  obtain ⟨l', rfl⟩ := Int.eq_ofNat_of_zero_le W.2.1.1
  have e : m = h' * 18446744073709551616 + l' := by omega
  by_cases h0 : h' = 0
  · subst h0
    have em : m = l' := by omega
    have := div64_small (l' : Int) (y : Int) w ⟨by omega, by omega⟩ ⟨by omega, by omega⟩
    rw [em]
    simpa using this
  · have := div64_big h' l' y w (by omega) (by omega) (by omega) hy
    rw [e]
    exact this.mono fun e w' ⟨h1, h2⟩ => ⟨h1, 0, h2.symm⟩

theorem WB_mod {h l : Int} {m : Nat} (W : WB h l m) (y : Nat) (hy1 : 1 ≤ y) (hy : y ≤ 1000000000000000) : WB (h % y) l (((h % y).toNat * 18446744073709551616 + l.toNat)) ∧ (((h % y).toNat * 18446744073709551616 + l.toNat)) % y = m % y ∧ h % y < y ∧ 0 ≤ h % y := by
  unfold WB at *
  have p1 := Int.emod_nonneg h (show (y : Int) ≠ 0 by omega)
  have p2 := Int.emod_lt_of_pos h (show (0 : Int) < (y : Int) by omega)
  refine ⟨⟨⟨p1, by omega⟩, W.2.1, by omega⟩, ?_, p2, p1⟩
  obtain ⟨h', rfl⟩ := Int.eq_ofNat_of_zero_le W.1.1
  obtain ⟨l', rfl⟩ := Int.eq_ofNat_of_zero_le W.2.1.1
  have e : m = h' * 18446744073709551616 + l' := by omega
  have e2 : ((h' : Int) % (y : Int)).toNat = h' % y := by rw [← Int.natCast_emod, Int.toNat_natCast]
  rw [e, e2, Int.toNat_natCast, Nat.add_mod, Nat.mul_mod, Nat.mod_mod, ← Nat.mul_mod, ← Nat.add_mod]

set_option maxHeartbeats 800000 in
theorem wide_mod (s : Bool) (h l : Int) (m y : Nat) (w : World) (W : WB h l m) (hy1 : 1 ≤ y) (hy : y ≤ 1000000000000000) :
    Calls Tryd.prog 40 #[.agg #[.bool s, .int .u64 h, .int .u64 l], .int .u64 y] w fun e w' => e = .returned (.int .u64 (m % y : Nat)) ∧ Below w.heap.size w w' := by
  obtain ⟨W', e, p1, p2⟩ := WB_mod W y hy1 hy
  have h1 := W.1.1
  have y0 : ((y : Int) == 0) = false := beq_eq_false_iff_ne.2 (by omega)
  have HC := fun w => div64_any (h % y) l _ y w W' hy1 hy p1
  rw [e] at HC
  have HC' := Lib.hid HC
  have hb0 := (Below.refl w.heap.size w).alloc (Nat.le_refl _) (.cells #[.bool s, .int .u64 h, .int .u64 l] 43)
  clear HC e W' W
  go_enter Tryd.func40, Tryd.ntmps40
  go_wp2_with fail
  go_quiet ((go_at_call 59; exact Calls.quiet_of (HC'.out _)))
  go_wp2
  go_ret
  exact ⟨ret_int (by simp), below_drewN' hb0 _⟩

/-- the quotient of a wide integer, if it is in range -/
def overB (m y : Nat) : Bool := decide (m / y ≤ 1000000000000000)

def overV (s : Bool) (m y : Nat) : Int := if overB m y then (if s then -((m / y : Nat) : Int) else ((m / y : Nat) : Int)) else 0

theorem over_no {s : Bool} {m y : Nat} (h : overB m y = false) : overV s m y = 0 := by unfold overV; rw [h]; rfl

theorem over_big {h l : Int} {m y : Nat} (W : WB h l m) (hy1 : 1 ≤ y) (hh : (y : Int) ≤ h) : overB m y = false := by
  unfold WB at W
  obtain ⟨h', rfl⟩ := Int.eq_ofNat_of_zero_le W.1.1
  apply decide_eq_false
  have : 18446744073709551616 ≤ m / y := by
    rw [Nat.le_div_iff_mul_le (by omega)]
    have : y * 18446744073709551616 ≤ h' * 18446744073709551616 := Nat.mul_le_mul_right _ (by omega)
    rw [Nat.mul_comm]
    omega
  omega

set_option maxHeartbeats 800000 in
theorem wide_over (s : Bool) (h l : Int) (m y : Nat) (w : World) (W : WB h l m) (hy1 : 1 ≤ y) (hy : y ≤ 1000000000000000) :
    Calls Tryd.prog 41 #[.agg #[.bool s, .int .u64 h, .int .u64 l], .int .u64 y] w fun e w' => e = .returned (.tuple #[.int .i64 (overV s m y), .bool (overB m y)]) ∧ Below w.heap.size w w' := by
  have hb0 := (Below.refl w.heap.size w).alloc (Nat.le_refl _) (.cells #[.bool s, .int .u64 h, .int .u64 l] 43)
  by_cases hh : (y : Int) ≤ h
  · have HO := Lib.hid (over_big W hy1 hh)
    clear W
    go_enter Tryd.func41, Tryd.ntmps41
    go_wp2
    go_ret2
    exact ⟨ret_int_bool (over_no HO.out).symm HO.out.symm, hb0⟩
  · have HC := Lib.hid (fun w => div64_any h l m y w W hy1 hy (by omega))
    have hM : Hid (m / y < 18446744073709551616) := by
      unfold WB at W
      obtain ⟨h', rfl⟩ := Int.eq_ofNat_of_zero_le W.1.1
      have : (h' + 1) * 18446744073709551616 ≤ y * 18446744073709551616 := Nat.mul_le_mul_right _ (by omega)
      show m / y < _
      rw [Nat.div_lt_iff_lt_mul (by omega), Nat.mul_comm 18446744073709551616]
      omega
    clear W
    obtain ⟨q, hq⟩ : ∃ q : Int, Hid (q = ((m / y : Nat) : Int)) := ⟨_, rfl⟩
    rw [← hq.out] at HC
    generalize hr : ((m % y : Nat) : Int) = r at HC
    clear hr
    have q0 : 0 ≤ q := by rw [hq.out]; exact Int.natCast_nonneg _
    by_cases hbig : 1000000000000000 < q
    · have HO : Hid (overB m y = false) := decide_eq_false (by have := hq.out; omega)
      go_enter Tryd.func41, Tryd.ntmps41
      go_wp2_with (go_at_call 59; refine (HC.out _).mono ?_; rintro e w' ⟨rfl, n, rfl⟩)
      go_ret2
      exact ⟨ret_int_bool (over_no HO.out).symm HO.out.symm, below_drewN' hb0 _⟩
    · have HO : Hid (overB m y = true) := decide_eq_true (by have := hq.out; omega)
      have q1 : q ≤ 1000000000000000 := by omega
      cases s
      · have HV : Hid (overV false m y = q) := by have h1 := HO.out; have h2 := hq.out; unfold overV; rw [h1, h2]; rfl
        go_enter Tryd.func41, Tryd.ntmps41
        go_wp2_with (go_at_call 59; refine (HC.out _).mono ?_; rintro e w' ⟨rfl, n, rfl⟩)
        go_ret2
        exact ⟨ret_int_bool (HV.out.symm) HO.out.symm, below_drewN' hb0 _⟩
      · have HV : Hid (overV true m y = -q) := by have h1 := HO.out; have h2 := hq.out; unfold overV; rw [h1, h2]; rfl
        go_enter Tryd.func41, Tryd.ntmps41
        go_wp2_with (go_at_call 59; refine (HC.out _).mono ?_; rintro e w' ⟨rfl, n, rfl⟩)
        go_ret2
        exact ⟨ret_int_bool (HV.out.symm) HO.out.symm, below_drewN' hb0 _⟩
end Go.Proofs.YtemmgehaddghfaaDoor
