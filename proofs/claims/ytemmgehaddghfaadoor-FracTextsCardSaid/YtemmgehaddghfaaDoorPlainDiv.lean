/- PLAIN: the long division of 128 bits by 64. No program. -/
namespace Go.Proofs.YtemmgehaddghfaaDoor

/-- q is the quotient that the loop looks for: never too small. -/
theorem le_of_quo {y q u un : Nat} (hy : 0 < y) (h : (u * 4294967296 + un) / y ≤ q) : u * 4294967296 + un < (q + 1) * y := by
  have := Nat.lt_mul_div_succ (u * 4294967296 + un) hy
  have h2 : y * ((u * 4294967296 + un) / y + 1) ≤ y * (q + 1) := Nat.mul_le_mul_left _ (by omega)
  rw [Nat.mul_comm (q + 1)]; omega

theorem quo_eq {y q u un : Nat} (hy : 0 < y) (h1 : (u * 4294967296 + un) / y ≤ q) (h2 : q * y ≤ u * 4294967296 + un) : (u * 4294967296 + un) / y = q := by
  have := (Nat.le_div_iff_mul_le hy).2 h2
  omega

/-- the test of the loop, in the divisor's halves -/
theorem test_iff {y1 y0 q r u un : Nat} (hI : q * y1 + r = u) : (r * 4294967296 + un < q * y0) ↔ (u * 4294967296 + un < q * (y1 * 4294967296 + y0)) := by
  subst hI
  rw [Nat.mul_add, Nat.add_mul, ← Nat.mul_assoc]
  omega

theorem step_down {y q u un : Nat} (hy : 0 < y) (h : u * 4294967296 + un < q * y) : 1 ≤ q ∧ (u * 4294967296 + un) / y ≤ q - 1 := by
  have : (u * 4294967296 + un) / y < q := (Nat.div_lt_iff_lt_mul hy).2 h
  exact ⟨Nat.lt_of_le_of_lt (Nat.zero_le _) this, Nat.le_sub_one_of_lt this⟩
theorem step_big {y q u un : Nat} (hu : u < y) (hn : un < 4294967296) (h : 4294967296 ≤ q) : 1 ≤ q ∧ (u * 4294967296 + un) / y ≤ q - 1 := by
  have : (u * 4294967296 + un) / y < 4294967296 := by
    rw [Nat.div_lt_iff_lt_mul (by omega)]
    have : (u + 1) * 4294967296 ≤ y * 4294967296 := Nat.mul_le_mul_right _ hu
    rw [Nat.mul_comm 4294967296]
    omega
  exact ⟨by omega, Nat.le_sub_one_of_lt (Nat.lt_of_lt_of_le this h)⟩
/-- behind the break -/
theorem at_break {y1 y0 q r u un : Nat} (hI : q * y1 + r = u) (hq : q ≤ 4294967296) (h0 : y0 < 4294967296) (hr : 4294967296 ≤ r) : q * (y1 * 4294967296 + y0) ≤ u * 4294967296 + un := by
  have : ¬ (r * 4294967296 + un < q * y0) := by
    have : q * y0 ≤ 4294967296 * 4294967295 := Nat.mul_le_mul hq (by omega)
    omega
  rw [test_iff hI] at this
  omega
theorem first_q {y1 y0 u : Nat} (h1 : 2147483648 ≤ y1) (h0 : y0 < 4294967296) (hu : u < y1 * 4294967296 + y0) : u / y1 ≤ 4294967297 := by
  rw [Nat.div_le_iff_le_mul_add_pred (by omega)]
  omega
theorem first_le {y1 y0 u un : Nat} (h1 : 0 < y1) (hn : un < 4294967296) : (u * 4294967296 + un) / (y1 * 4294967296 + y0) ≤ u / y1 := by
  have : (u * 4294967296 + un) / (y1 * 4294967296 + y0) ≤ (u * 4294967296 + un) / (y1 * 4294967296) := Nat.div_le_div_left (by omega) (by omega)
  rw [Nat.mul_comm y1, ← Nat.div_div_eq_div_mul] at this
  have e : (u * 4294967296 + un) / 4294967296 = u := by omega
  rw [e] at this
  rw [Nat.mul_comm y1]
  exact this
/-- the two digits together -/
theorem two_digits {y u un1 un0 : Nat} (hy : 0 < y) :
    ((u * 4294967296 + un1) * 4294967296 + un0) / y = ((u * 4294967296 + un1) / y) * 4294967296 + (((u * 4294967296 + un1) % y) * 4294967296 + un0) / y ∧
    ((u * 4294967296 + un1) * 4294967296 + un0) % y = (((u * 4294967296 + un1) % y) * 4294967296 + un0) % y := by
  have e := Nat.div_add_mod (u * 4294967296 + un1) y
  have e2 : (u * 4294967296 + un1) * 4294967296 + un0 = ((u * 4294967296 + un1) % y * 4294967296 + un0) + y * ((u * 4294967296 + un1) / y * 4294967296) := by
    have : (u * 4294967296 + un1) * 4294967296 = (y * ((u * 4294967296 + un1) / y) + (u * 4294967296 + un1) % y) * 4294967296 := by rw [e]
    rw [this, Nat.add_mul, Nat.mul_assoc]; omega
  constructor
  · rw [e2, Nat.add_mul_div_left _ _ hy, Nat.add_comm]
  · rw [e2, Nat.add_mul_mod_self_left]

end Go.Proofs.YtemmgehaddghfaaDoor
