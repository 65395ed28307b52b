/- PARTS OF THE WALKS, joined: FracC, FracD, FracK. -/
import Derived.Test.YtbjddimafilflaaGreatDoorP07
import Derived.Lib.BitFns
import Derived.Deep.CutBlock
import Derived.Deep.DeepCutAuto
/- THE WALKS over the wide integers: sign; the long division. -/
namespace Go.Proofs.YtbjddimafilflaaGreatDoor
open Go.RowKit
/-- the sign of a wide integer -/
def sgnW (s : Bool) (m : Nat) : Int := if m = 0 then 0 else if s then -1 else 1
theorem or_zero {h l : Int} {m : Nat} (W : WB h l m) : (bits .or .u64 h l == 0) = decide (m = 0) := by
  unfold WB at W
  obtain ⟨h', rfl⟩ := Int.eq_ofNat_of_zero_le W.1.1
  obtain ⟨l', rfl⟩ := Int.eq_ofNat_of_zero_le W.2.1.1
  rw [bits_or_u64_nat h' l' (by omega) (by omega)]
  by_cases hm : m = 0
  · rw [decide_eq_true hm]
    obtain rfl : h' = 0 := by omega
    obtain rfl : l' = 0 := by omega
    rfl
  · rw [decide_eq_false hm, beq_eq_false_iff_ne]
    intro e
    have e' : h' ||| l' = 0 := by omega
    rw [Nat.or_eq_zero_iff] at e'
    omega
set_option maxHeartbeats 800000 in
theorem wide_sign (s : Bool) (h l : Int) (m : Nat) (w : World) (W : WB h l m) :
    Calls Tryz.prog 127 #[.agg #[.bool s, .int .u64 h, .int .u64 l]] w fun e w' => e = .returned (.int .i64 (sgnW s m)) ∧ Below w.heap.size w w' := by
  have hb0 := (Below.refl w.heap.size w).alloc (Nat.le_refl _) (.cells #[.bool s, .int .u64 h, .int .u64 l] 122)
  have HO := or_zero W
  by_cases hm : m = 0
  · rw [decide_eq_true hm] at HO
    have HS : Hid (sgnW s m = 0) := if_pos hm
    go_enter Tryz.func127, Tryz.ntmps127
    go_wp2
    go_ret
    exact ⟨ret_int HS.out.symm, hb0⟩
  · rw [decide_eq_false hm] at HO
    have HS : Hid (sgnW s m = if s then -1 else 1) := if_neg hm
    cases s
    · go_enter Tryz.func127, Tryz.ntmps127
      go_wp2
      go_ret
      exact ⟨ret_int HS.out.symm, hb0⟩
    · go_enter Tryz.func127, Tryz.ntmps127
      go_wp2
      go_ret
      exact ⟨ret_int HS.out.symm, hb0⟩
end Go.Proofs.YtbjddimafilflaaGreatDoor

/- PLAIN facts for the long division's shifts. -/
namespace Go.Proofs.YtbjddimafilflaaGreatDoor
open Go.RowKit
theorem and_low {x : Nat} (h : x < 18446744073709551616) : bits .and .u64 (x : Int) 4294967295 = ((x % 4294967296 : Nat) : Int) := by
  have := u64_and_nat x 4294967295 h (by omega)
  rw [show ((4294967295 : Nat) : Int) = 4294967295 from rfl] at this
  rw [this]
  congr 1
  exact Nat.and_two_pow_sub_one_eq_mod x 32
theorem halves {a b : Nat} (ha : a < 4294967296) (hb : b < 4294967296) : ((a * 4294967296 + b : Nat) : Int) / 4294967296 = (a : Int) ∧ bits .and .u64 ((a * 4294967296 + b : Nat) : Int) 4294967295 = (b : Int) := by
  refine ⟨by omega, ?_⟩
  rw [and_low (by omega)]; congr 1; omega
end Go.Proofs.YtbjddimafilflaaGreatDoor

/- A wide integer as a signed one: plain. -/
namespace Go.Proofs.YtbjddimafilflaaGreatDoor
open Go.RowKit
def wval (s : Bool) (m : Nat) : Int := if s then -(m : Int) else (m : Int)
theorem wval_product (a b : Int) : wval (decide (a < 0) != decide (b < 0)) (a.natAbs * b.natAbs) = a * b := by
  unfold wval
  have e : ((a.natAbs * b.natAbs : Nat) : Int) = (a.natAbs : Int) * (b.natAbs : Int) := by simp
  rw [e]
  by_cases ha : a < 0 <;> by_cases hb : b < 0
  · rw [decide_eq_true ha, decide_eq_true hb, show (a.natAbs : Int) = -a from by omega, show (b.natAbs : Int) = -b from by omega]; simp; grind
  · rw [decide_eq_true ha, decide_eq_false hb, show (a.natAbs : Int) = -a from by omega, show (b.natAbs : Int) = b from by omega]; simp; grind
  · rw [decide_eq_false ha, decide_eq_true hb, show (a.natAbs : Int) = a from by omega, show (b.natAbs : Int) = -b from by omega]; simp; grind
  · rw [decide_eq_false ha, decide_eq_false hb, show (a.natAbs : Int) = a from by omega, show (b.natAbs : Int) = b from by omega]; simp
theorem wval_plus (s1 : Bool) (m1 : Nat) (s2 : Bool) (m2 : Nat) : wval (plusW s1 m1 s2 m2).1 (plusW s1 m1 s2 m2).2 = wval s1 m1 + wval s2 m2 := by
  unfold wval plusW
  cases s1 <;> cases s2
  · simp
  · by_cases h : m1 < m2 <;> simp [h] <;> omega
  · by_cases h : m1 < m2 <;> simp [h] <;> omega
  · simp; omega
theorem sgnW_sgn {s : Bool} {m : Nat} : sgnW s m = sgn (wval s m) := by
  unfold sgnW wval sgn
  by_cases h : m = 0
  · subst h; cases s <;> simp
  · rw [if_neg h]; cases s
    · simp; omega
    · simp; omega
end Go.Proofs.YtbjddimafilflaaGreatDoor
