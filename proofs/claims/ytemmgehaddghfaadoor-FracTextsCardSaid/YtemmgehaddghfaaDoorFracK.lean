/- A wide integer as a signed one: plain. -/
import Derived.Test.YtemmgehaddghfaaDoorFracJ
namespace Go.Proofs.YtemmgehaddghfaaDoor
open Go.RowKit

def wval (s : Bool) (m : Nat) : Int := if s then -(m : Int) else (m : Int)

theorem wval_abs (s : Bool) (m : Nat) : (wval s m).natAbs = m := by
  unfold wval; cases s <;> simp

theorem wval_product (a b : Int) : wval (decide (a < 0) != decide (b < 0)) (a.natAbs * b.natAbs) = a * b := by
  unfold wval
  have e : ((a.natAbs * b.natAbs : Nat) : Int) = (a.natAbs : Int) * (b.natAbs : Int) := by simp
  rw [e]
  by_cases ha : a < 0 <;> by_cases hb : b < 0
  · rw [decide_eq_true ha, decide_eq_true hb, show (a.natAbs : Int) = -a from by omega, show (b.natAbs : Int) = -b from by omega]; simp; grind
  · rw [decide_eq_true ha, decide_eq_false hb, show (a.natAbs : Int) = -a from by omega, show (b.natAbs : Int) = b from by omega]; simp; grind
  · rw [decide_eq_false ha, decide_eq_true hb, show (a.natAbs : Int) = a from by omega, show (b.natAbs : Int) = -b from by omega]; simp; grind
  · rw [decide_eq_false ha, decide_eq_false hb, show (a.natAbs : Int) = a from by omega, show (b.natAbs : Int) = b from by omega]; simp

theorem wval_plus (s1 : Bool) (m1 : Nat) (s2 : Bool) (m2 : Nat) : wval (plusW s1 m1 s2 m2).1 (plusW s1 m1 s2 m2).2 = wval s1 m1 + wval s2 m2 := by
  unfold wval plusW
  cases s1 <;> cases s2
  · simp
  · by_cases h : m1 < m2 <;> simp [h] <;> omega
  · by_cases h : m1 < m2 <;> simp [h] <;> omega
  · simp; omega

theorem sgnW_zero {s : Bool} {m : Nat} : (sgnW s m == 0) = decide (wval s m = 0) := by
  unfold sgnW wval
  by_cases h : m = 0
  · subst h; cases s <;> simp
  · rw [if_neg h]; cases s <;> simp [h]

theorem sgnW_sgn {s : Bool} {m : Nat} : sgnW s m = sgn (wval s m) := by
  unfold sgnW wval sgn
  by_cases h : m = 0
  · subst h; cases s <;> simp
  · rw [if_neg h]; cases s
    · simp; omega
    · simp; omega

/-- the greatest common divisor by the rest -/
theorem cgcd_mod (m : Nat) (T g : Int) (hT : T.natAbs = m) (hg : 1 ≤ g) : cgcd ((m % g.toNat : Nat) : Int) g = cgcd T g := by
  unfold cgcd
  rw [Int.natAbs_natCast, hT, show g.toNat = g.natAbs from by omega]
  congr 1
  rw [← Nat.gcd_rec, Nat.gcd_comm]

theorem over_div (s : Bool) (m y : Nat) (hy : 1 ≤ y) (hd : (y : Int) ∣ wval s m) : inB (wval s m / y) = overB m y ∧ (overB m y = true → overV s m y = wval s m / y) := by
  have hm := wval_abs s m
  have hq : (wval s m / (y : Int)) = wval s (m / y) := by
    obtain ⟨c, hc⟩ := hd
    have hmc : m = y * c.natAbs := by rw [← hm, hc, Int.natAbs_mul, Int.natAbs_natCast]
    rw [hc, Int.mul_ediv_cancel_left _ (by omega), hmc, Nat.mul_div_cancel_left _ (by omega)]
    unfold wval at hc ⊢
    have hy0 : (y : Int) ≠ 0 := by omega
    rw [hmc] at hc
    rw [Int.natCast_mul] at hc
    cases s
    · simp at hc ⊢
      have := Int.eq_of_mul_eq_mul_left hy0 hc
      omega
    · simp at hc ⊢
      rw [← Int.mul_neg] at hc
      have := Int.eq_of_mul_eq_mul_left hy0 hc
      omega
  rw [hq]
  refine ⟨?_, fun h => ?_⟩
  · unfold overB wval inB
    cases s <;> simp only [Bool.false_eq_true, if_false, if_true] <;> generalize m / y = q <;> rw [← Bool.decide_and] <;> congr 1 <;> exact propext (by omega)
  · unfold overV wval; rw [h]; rfl
end Go.Proofs.YtemmgehaddghfaaDoor
