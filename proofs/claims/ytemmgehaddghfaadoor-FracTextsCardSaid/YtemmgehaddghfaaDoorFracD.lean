/- PLAIN facts for the long division's shifts. -/
import Derived.Test.YtemmgehaddghfaaDoorFracC
import Derived.Lib.BitFns
namespace Go.Proofs.YtemmgehaddghfaaDoor
open Go.RowKit

theorem wrap64_small {x : Int} (h0 : 0 ≤ x) (h1 : x < 18446744073709551616) : IntKind.u64.wrap x = x := by
  simp [IntKind.wrap, IntKind.signed, IntKind.bits]; omega

theorem wrap64_mod (x : Int) : IntKind.u64.wrap x = x % 18446744073709551616 := by
  simp [IntKind.wrap, IntKind.signed, IntKind.bits]

theorem min_s {s : Nat} (h : s ≤ 63) : min (IntKind.u64.wrap (s : Int)).toNat 64 = s := by
  rw [wrap64_small (by omega) (by omega)]; omega

theorem min_64s {s : Nat} (h : s ≤ 63) : min (IntKind.u64.wrap (64 - IntKind.u64.wrap (s : Int))).toNat 64 = 64 - s := by
  rw [wrap64_small (x := (s : Int)) (by omega) (by omega), wrap64_small (by omega) (by omega)]; omega

theorem or_words {a b s : Nat} (hb : b < 2 ^ s) (h : a * 2 ^ s + b < 18446744073709551616) : bits .or .u64 ((a * 2 ^ s : Nat) : Int) (b : Int) = ((a * 2 ^ s + b : Nat) : Int) := by
  rw [bits_or_u64_nat _ _ (by omega) (by omega)]
  congr 1
  rw [← Nat.shiftLeft_eq, Nat.shiftLeft_add_eq_or_of_lt hb]

theorem and_low {x : Nat} (h : x < 18446744073709551616) : bits .and .u64 (x : Int) 4294967295 = ((x % 4294967296 : Nat) : Int) := by
  have := u64_and_nat x 4294967295 h (by omega)
  rw [show ((4294967295 : Nat) : Int) = 4294967295 from rfl] at this
  rw [this]
  congr 1
  exact Nat.and_two_pow_sub_one_eq_mod x 32

theorem bitLenAux_bounds : ∀ (f x : Nat), x < 2 ^ f → 1 ≤ x → 2 ^ (Lib.bitLenAux f x) ≤ 2 * x ∧ x < 2 ^ (Lib.bitLenAux f x)
  | 0, x, h, h1 => by simp at h; omega
  | f + 1, x, h, h1 => by
    rw [Lib.bitLenAux, if_neg (by omega), Nat.pow_add]
    by_cases h2 : x / 2 = 0
    · rw [h2]
      have e : Lib.bitLenAux f 0 = 0 := by cases f <;> simp [Lib.bitLenAux]
      rw [e]; simp; omega
    · have := bitLenAux_bounds f (x / 2) (by rw [Nat.pow_succ] at h; omega) (by omega)
      omega

/-- the bits of a normalised divisor -/
theorem norm_bounds {y : Nat} (h1 : 1 ≤ y) (h2 : y ≤ 1000000000000000) : ∃ s : Nat, 64 - (Lib.bitLen y : Int) = s ∧ 14 ≤ s ∧ s ≤ 63 ∧ 9223372036854775808 ≤ y * 2 ^ s ∧ y * 2 ^ s < 18446744073709551616 := by
  have hb := bitLenAux_bounds 64 y (by omega) h1
  have e : Lib.bitLen y = Lib.bitLenAux 64 y := rfl
  rw [← e] at hb
  generalize Lib.bitLen y = b at hb
  have hle : b ≤ 50 := by
    rcases Nat.lt_or_ge 50 b with g | g
    · have : 2 ^ 51 ≤ 2 ^ b := Nat.pow_le_pow_right (by omega) g
      omega
    · exact g
  have hpos : 1 ≤ b := by
    rcases Nat.eq_zero_or_pos b with g | g
    · subst g; simp at hb; omega
    · exact g
  refine ⟨64 - b, by omega, by omega, by omega, ?_, ?_⟩
  · have e1 : 2 ^ b * 2 ^ (64 - b) = 18446744073709551616 := by rw [← Nat.pow_add, show b + (64 - b) = 64 by omega]
    have e2 : 2 ^ b * 2 ^ (64 - b) ≤ (2 * y) * 2 ^ (64 - b) := Nat.mul_le_mul_right _ hb.1
    rw [e1, Nat.mul_assoc] at e2
    omega
  · have e1 : 2 ^ b * 2 ^ (64 - b) = 18446744073709551616 := by rw [← Nat.pow_add, show b + (64 - b) = 64 by omega]
    have e2 : y * 2 ^ (64 - b) < 2 ^ b * 2 ^ (64 - b) := Nat.mul_lt_mul_of_pos_right hb.2 (Nat.two_pow_pos _)
    rw [e1] at e2
    exact e2

/-- the shifted dividend and divisor -/
theorem shifted {h l y s : Nat} (hh : h < y) (hl : l < 18446744073709551616) (s1 : s ≤ 63) :
    h * 2 ^ s + l / 2 ^ (64 - s) < y * 2 ^ s ∧ l / 2 ^ (64 - s) < 2 ^ s ∧ (h * 2 ^ s + l / 2 ^ (64 - s)) * 18446744073709551616 + l * 2 ^ s % 18446744073709551616 = (h * 18446744073709551616 + l) * 2 ^ s := by
  have e1 : 2 ^ s * 2 ^ (64 - s) = 18446744073709551616 := by rw [← Nat.pow_add, show s + (64 - s) = 64 by omega]
  have b1 : l / 2 ^ (64 - s) < 2 ^ s := by
    rw [Nat.div_lt_iff_lt_mul (Nat.two_pow_pos _), e1]; exact hl
  have b2 : (h + 1) * 2 ^ s ≤ y * 2 ^ s := Nat.mul_le_mul_right _ hh
  rw [Nat.add_mul, Nat.one_mul] at b2
  refine ⟨by omega, b1, ?_⟩
  have e2 : l * 2 ^ s / 18446744073709551616 = l / 2 ^ (64 - s) := by
    rw [← e1, Nat.mul_comm l, Nat.mul_div_mul_left _ _ (Nat.two_pow_pos _)]
  have e3 := Nat.div_add_mod (l * 2 ^ s) 18446744073709551616
  rw [e2] at e3
  rw [Nat.add_mul (h * 2 ^ s), Nat.add_mul (h * 18446744073709551616), Nat.mul_assoc h, Nat.mul_comm (2 ^ s), ← Nat.mul_assoc h]
  omega

theorem two_halves (A C : Nat) : (A * 4294967296 + C / 4294967296) * 4294967296 + C % 4294967296 = A * 18446744073709551616 + C := by
  have e := Nat.div_add_mod' C 4294967296
  rw [Nat.add_mul, Nat.mul_assoc, Nat.add_assoc, e]

/-- what the first statements lay -/
theorem shift_facts {h l y s : Nat} (hh : h < y) (hl : l < 18446744073709551616) (s1 : s ≤ 63) (hy0 : 9223372036854775808 ≤ y * 2 ^ s) (hy : y * 2 ^ s < 18446744073709551616) :
    ∃ Y1 Y0 U V1 V0 : Nat,
      (2147483648 ≤ Y1 ∧ Y1 < 4294967296) ∧ Y0 < 4294967296 ∧ V1 < 4294967296 ∧ V0 < 4294967296 ∧ U < Y1 * 4294967296 + Y0 ∧ Y1 * 4294967296 + Y0 = y * 2 ^ s ∧
      (U * 4294967296 + V1) * 4294967296 + V0 = (h * 18446744073709551616 + l) * 2 ^ s ∧
      IntKind.u64.wrap ((y : Int) * 2 ^ min (IntKind.u64.wrap (s : Int)).toNat 64) = ((Y1 * 4294967296 + Y0 : Nat) : Int) ∧
      bits .or .u64 (IntKind.u64.wrap ((h : Int) * 2 ^ min (IntKind.u64.wrap (s : Int)).toNat 64)) ((l : Int) / 2 ^ min (IntKind.u64.wrap (64 - IntKind.u64.wrap (s : Int))).toNat 64) = (U : Int) ∧
      IntKind.u64.wrap ((l : Int) * 2 ^ min (IntKind.u64.wrap (s : Int)).toNat 64) = ((V1 * 4294967296 + V0 : Nat) : Int) := by
  obtain ⟨b1, b2, e⟩ := shifted hh hl s1
  have hle : h * 2 ^ s ≤ y * 2 ^ s := Nat.mul_le_mul_right _ (by omega)
  refine ⟨y * 2 ^ s / 4294967296, y * 2 ^ s % 4294967296, h * 2 ^ s + l / 2 ^ (64 - s), l * 2 ^ s % 18446744073709551616 / 4294967296, l * 2 ^ s % 18446744073709551616 % 4294967296, ?_, ?_, ?_, ?_, ?_, ?_, ?_, ?_, ?_, ?_⟩
  · clear e b1 b2 hle; omega
  · exact Nat.mod_lt _ (by omega)
  · have k : ∀ A : Nat, A % 18446744073709551616 / 4294967296 < 4294967296 := fun A => by omega
    exact k _
  · exact Nat.mod_lt _ (by omega)
  · rw [Nat.div_add_mod']; exact b1
  · rw [Nat.div_add_mod']
  · rw [← e]
    exact two_halves _ _
  · rw [min_s s1, wrap64_small (Int.mul_nonneg (by omega) (Int.pow_nonneg (by omega))), Nat.div_add_mod']
    · simp
    · have : ((y * 2 ^ s : Nat) : Int) = (y : Int) * 2 ^ s := by simp
      omega
  · rw [min_s s1, min_64s s1, wrap64_small (Int.mul_nonneg (by omega) (Int.pow_nonneg (by omega)))]
    · have e1 : (h : Int) * 2 ^ s = ((h * 2 ^ s : Nat) : Int) := by simp
      have e2 : (l : Int) / 2 ^ (64 - s) = ((l / 2 ^ (64 - s) : Nat) : Int) := by simp
      rw [e1, e2]
      exact or_words b2 (by omega)
    · have : ((h * 2 ^ s : Nat) : Int) = (h : Int) * 2 ^ s := by simp
      omega
  · rw [min_s s1, wrap64_mod, Nat.div_add_mod']
    simp

theorem halves {a b : Nat} (ha : a < 4294967296) (hb : b < 4294967296) : ((a * 4294967296 + b : Nat) : Int) / 4294967296 = (a : Int) ∧ bits .and .u64 ((a * 4294967296 + b : Nat) : Int) 4294967295 = (b : Int) := by
  refine ⟨by omega, ?_⟩
  rw [and_low (by omega)]; congr 1; omega

theorem shift_all {h l y s : Nat} (hh : h < y) (hl : l < 18446744073709551616) (s1 : s ≤ 63) (hy0 : 9223372036854775808 ≤ y * 2 ^ s) (hy : y * 2 ^ s < 18446744073709551616) :
    ∃ Y1 Y0 U V1 V0 D V : Nat,
      ((2147483648 ≤ Y1 ∧ Y1 < 4294967296) ∧ Y0 < 4294967296 ∧ V1 < 4294967296 ∧ V0 < 4294967296 ∧ U < D ∧ D < 18446744073709551616) ∧
      Hid (D = Y1 * 4294967296 + Y0 ∧ D = y * 2 ^ s ∧ (U * 4294967296 + V1) * 4294967296 + V0 = (h * 18446744073709551616 + l) * 2 ^ s) ∧
      IntKind.u64.wrap ((y : Int) * 2 ^ min (IntKind.u64.wrap (s : Int)).toNat 64) = (D : Int) ∧
      bits .or .u64 (IntKind.u64.wrap ((h : Int) * 2 ^ min (IntKind.u64.wrap (s : Int)).toNat 64)) ((l : Int) / 2 ^ min (IntKind.u64.wrap (64 - IntKind.u64.wrap (s : Int))).toNat 64) = (U : Int) ∧
      IntKind.u64.wrap ((l : Int) * 2 ^ min (IntKind.u64.wrap (s : Int)).toNat 64) = (V : Int) ∧
      (D : Int) / 4294967296 = (Y1 : Int) ∧ bits .and .u64 (D : Int) 4294967295 = (Y0 : Int) ∧ (V : Int) / 4294967296 = (V1 : Int) ∧ bits .and .u64 (V : Int) 4294967295 = (V0 : Int) := by
  obtain ⟨Y1, Y0, U, V1, V0, a1, a3, a4, a5, a6, a7, a8, F1, F2, F3⟩ := shift_facts hh hl s1 hy0 hy
  exact ⟨Y1, Y0, U, V1, V0, _, _, ⟨a1, a3, a4, a5, a6, by rw [a7]; exact hy⟩, ⟨rfl, a7, a8⟩, F1, F2, F3, (halves a1.2 a3).1, (halves a1.2 a3).2, (halves a4 a5).1, (halves a4 a5).2⟩
end Go.Proofs.YtemmgehaddghfaaDoor
