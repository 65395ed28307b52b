/- PARTS OF THE WALKS, joined: FracC, FracD, FracE, FracG, FracH, FracI. -/
import Derived.Test.YtlkpmbkmmfoakaaDoorU02
import Derived.Lib.BitFns
import Derived.Deep.CutBlock
import Derived.Deep.DeepCutAuto
/- THE WALKS over the wide integers: sign; the long division. -/
namespace Go.Proofs.YtlkpmbkmmfoakaaDoor
open Go.RowKit
/-- the sign of a wide integer -/
def sgnW (s : Bool) (m : Nat) : Int := if m = 0 then 0 else if s then -1 else 1
theorem or_zero {h l : Int} {m : Nat} (W : WB h l m) : (bits .or .u64 h l == 0) = decide (m = 0) := by
  unfold WB at W
  obtain ⟨h', rfl⟩ := Int.eq_ofNat_of_zero_le W.1.1
  obtain ⟨l', rfl⟩ := Int.eq_ofNat_of_zero_le W.2.1.1
  rw [bits_or_u64_nat h' l' (by omega) (by omega)]
  by_cases hm : m = 0
  · rw [decide_eq_true hm]
    obtain rfl : h' = 0 := by omega
    obtain rfl : l' = 0 := by omega
    rfl
  · rw [decide_eq_false hm, beq_eq_false_iff_ne]
    intro e
    have e' : h' ||| l' = 0 := by omega
    rw [Nat.or_eq_zero_iff] at e'
    omega
set_option maxHeartbeats 800000 in
theorem wide_sign (s : Bool) (h l : Int) (m : Nat) (w : World) (W : WB h l m) :
    Calls Tryd.prog 50 #[.agg #[.bool s, .int .u64 h, .int .u64 l]] w fun e w' => e = .returned (.int .i64 (sgnW s m)) ∧ Below w.heap.size w w' := by
  have hb0 := (Below.refl w.heap.size w).alloc (Nat.le_refl _) (.cells #[.bool s, .int .u64 h, .int .u64 l] 75)
  have HO := or_zero W
  by_cases hm : m = 0
  · rw [decide_eq_true hm] at HO
    have HS : Hid (sgnW s m = 0) := if_pos hm
    go_enter Tryd.func50, Tryd.ntmps50
    go_wp2
    go_ret
    exact ⟨ret_int HS.out.symm, hb0⟩
  · rw [decide_eq_false hm] at HO
    have HS : Hid (sgnW s m = if s then -1 else 1) := if_neg hm
    cases s
    · go_enter Tryd.func50, Tryd.ntmps50
      go_wp2
      go_ret
      exact ⟨ret_int HS.out.symm, hb0⟩
    · go_enter Tryd.func50, Tryd.ntmps50
      go_wp2
      go_ret
      exact ⟨ret_int HS.out.symm, hb0⟩
set_option maxHeartbeats 800000 in
theorem div64_small (l y : Int) (w : World) (hl : 0 ≤ l ∧ l < 18446744073709551616) (hy : 1 ≤ y ∧ y < 18446744073709551616) :
    Calls Tryd.prog 79 #[.int .u64 0, .int .u64 l, .int .u64 y] w fun e w' => e = .returned (.tuple #[.int .u64 (l / y), .int .u64 (l % y)]) ∧ ∃ n, w' = w.drewN n := by
  have h0 : (y == 0) = false := beq_eq_false_iff_ne.2 (by omega)
  have l1 := hl.1
  have y1 := hy.1
  go_enter Tryd.func79, Tryd.ntmps79
  go_wp2
  go_quiet (fail)
  go_wp2
  go_ret2
  exact ⟨rfl, _, rfl⟩
end Go.Proofs.YtlkpmbkmmfoakaaDoor

/- PLAIN facts for the long division's shifts. -/
namespace Go.Proofs.YtlkpmbkmmfoakaaDoor
open Go.RowKit
theorem wrap64_small {x : Int} (h0 : 0 ≤ x) (h1 : x < 18446744073709551616) : IntKind.u64.wrap x = x := by
  simp [IntKind.wrap, IntKind.signed, IntKind.bits]; omega
theorem wrap64_mod (x : Int) : IntKind.u64.wrap x = x % 18446744073709551616 := by
  simp [IntKind.wrap, IntKind.signed, IntKind.bits]
theorem min_s {s : Nat} (h : s ≤ 63) : min (IntKind.u64.wrap (s : Int)).toNat 64 = s := by
  rw [wrap64_small (by omega) (by omega)]; omega
theorem min_64s {s : Nat} (h : s ≤ 63) : min (IntKind.u64.wrap (64 - IntKind.u64.wrap (s : Int))).toNat 64 = 64 - s := by
  rw [wrap64_small (x := (s : Int)) (by omega) (by omega), wrap64_small (by omega) (by omega)]; omega
theorem or_words {a b s : Nat} (hb : b < 2 ^ s) (h : a * 2 ^ s + b < 18446744073709551616) : bits .or .u64 ((a * 2 ^ s : Nat) : Int) (b : Int) = ((a * 2 ^ s + b : Nat) : Int) := by
  rw [bits_or_u64_nat _ _ (by omega) (by omega)]
  congr 1
  rw [← Nat.shiftLeft_eq, Nat.shiftLeft_add_eq_or_of_lt hb]
theorem and_low {x : Nat} (h : x < 18446744073709551616) : bits .and .u64 (x : Int) 4294967295 = ((x % 4294967296 : Nat) : Int) := by
  have := u64_and_nat x 4294967295 h (by omega)
  rw [show ((4294967295 : Nat) : Int) = 4294967295 from rfl] at this
  rw [this]
  congr 1
  exact Nat.and_two_pow_sub_one_eq_mod x 32
theorem bitLenAux_bounds : ∀ (f x : Nat), x < 2 ^ f → 1 ≤ x → 2 ^ (Lib.bitLenAux f x) ≤ 2 * x ∧ x < 2 ^ (Lib.bitLenAux f x)
  | 0, x, h, h1 => by simp at h; omega
  | f + 1, x, h, h1 => by
    rw [Lib.bitLenAux, if_neg (by omega), Nat.pow_add]
    by_cases h2 : x / 2 = 0
    · rw [h2]
      have e : Lib.bitLenAux f 0 = 0 := by cases f <;> simp [Lib.bitLenAux]
      rw [e]; simp; omega
    · have := bitLenAux_bounds f (x / 2) (by rw [Nat.pow_succ] at h; omega) (by omega)
      omega
/-- the bits of a normalised divisor -/
theorem norm_bounds {y : Nat} (h1 : 1 ≤ y) (h2 : y ≤ 1000000000000000) : ∃ s : Nat, 64 - (Lib.bitLen y : Int) = s ∧ 14 ≤ s ∧ s ≤ 63 ∧ 9223372036854775808 ≤ y * 2 ^ s ∧ y * 2 ^ s < 18446744073709551616 := by
  have hb := bitLenAux_bounds 64 y (by omega) h1
  have e : Lib.bitLen y = Lib.bitLenAux 64 y := rfl
  rw [← e] at hb
  generalize Lib.bitLen y = b at hb
  have hle : b ≤ 50 := by
    rcases Nat.lt_or_ge 50 b with g | g
    · have : 2 ^ 51 ≤ 2 ^ b := Nat.pow_le_pow_right (by omega) g
      omega
    · exact g
  have hpos : 1 ≤ b := by
    rcases Nat.eq_zero_or_pos b with g | g
    · subst g; simp at hb; omega
    · exact g
  refine ⟨64 - b, by omega, by omega, by omega, ?_, ?_⟩
  · have e1 : 2 ^ b * 2 ^ (64 - b) = 18446744073709551616 := by rw [← Nat.pow_add, show b + (64 - b) = 64 by omega]
    have e2 : 2 ^ b * 2 ^ (64 - b) ≤ (2 * y) * 2 ^ (64 - b) := Nat.mul_le_mul_right _ hb.1
    rw [e1, Nat.mul_assoc] at e2
    omega
  · have e1 : 2 ^ b * 2 ^ (64 - b) = 18446744073709551616 := by rw [← Nat.pow_add, show b + (64 - b) = 64 by omega]
    have e2 : y * 2 ^ (64 - b) < 2 ^ b * 2 ^ (64 - b) := Nat.mul_lt_mul_of_pos_right hb.2 (Nat.two_pow_pos _)
    rw [e1] at e2
    exact e2
/-- the shifted dividend and divisor -/
theorem shifted {h l y s : Nat} (hh : h < y) (hl : l < 18446744073709551616) (s1 : s ≤ 63) :
    h * 2 ^ s + l / 2 ^ (64 - s) < y * 2 ^ s ∧ l / 2 ^ (64 - s) < 2 ^ s ∧ (h * 2 ^ s + l / 2 ^ (64 - s)) * 18446744073709551616 + l * 2 ^ s % 18446744073709551616 = (h * 18446744073709551616 + l) * 2 ^ s := by
  have e1 : 2 ^ s * 2 ^ (64 - s) = 18446744073709551616 := by rw [← Nat.pow_add, show s + (64 - s) = 64 by omega]
  have b1 : l / 2 ^ (64 - s) < 2 ^ s := by
    rw [Nat.div_lt_iff_lt_mul (Nat.two_pow_pos _), e1]; exact hl
  have b2 : (h + 1) * 2 ^ s ≤ y * 2 ^ s := Nat.mul_le_mul_right _ hh
  rw [Nat.add_mul, Nat.one_mul] at b2
  refine ⟨by omega, b1, ?_⟩
  have e2 : l * 2 ^ s / 18446744073709551616 = l / 2 ^ (64 - s) := by
    rw [← e1, Nat.mul_comm l, Nat.mul_div_mul_left _ _ (Nat.two_pow_pos _)]
  have e3 := Nat.div_add_mod (l * 2 ^ s) 18446744073709551616
  rw [e2] at e3
  rw [Nat.add_mul (h * 2 ^ s), Nat.add_mul (h * 18446744073709551616), Nat.mul_assoc h, Nat.mul_comm (2 ^ s), ← Nat.mul_assoc h]
  omega
theorem two_halves (A C : Nat) : (A * 4294967296 + C / 4294967296) * 4294967296 + C % 4294967296 = A * 18446744073709551616 + C := by
  have e := Nat.div_add_mod' C 4294967296
  rw [Nat.add_mul, Nat.mul_assoc, Nat.add_assoc, e]
/-- what the first statements lay -/
theorem shift_facts {h l y s : Nat} (hh : h < y) (hl : l < 18446744073709551616) (s1 : s ≤ 63) (hy0 : 9223372036854775808 ≤ y * 2 ^ s) (hy : y * 2 ^ s < 18446744073709551616) :
    ∃ Y1 Y0 U V1 V0 : Nat,
      (2147483648 ≤ Y1 ∧ Y1 < 4294967296) ∧ Y0 < 4294967296 ∧ V1 < 4294967296 ∧ V0 < 4294967296 ∧ U < Y1 * 4294967296 + Y0 ∧ Y1 * 4294967296 + Y0 = y * 2 ^ s ∧
      (U * 4294967296 + V1) * 4294967296 + V0 = (h * 18446744073709551616 + l) * 2 ^ s ∧
      IntKind.u64.wrap ((y : Int) * 2 ^ min (IntKind.u64.wrap (s : Int)).toNat 64) = ((Y1 * 4294967296 + Y0 : Nat) : Int) ∧
      bits .or .u64 (IntKind.u64.wrap ((h : Int) * 2 ^ min (IntKind.u64.wrap (s : Int)).toNat 64)) ((l : Int) / 2 ^ min (IntKind.u64.wrap (64 - IntKind.u64.wrap (s : Int))).toNat 64) = (U : Int) ∧
      IntKind.u64.wrap ((l : Int) * 2 ^ min (IntKind.u64.wrap (s : Int)).toNat 64) = ((V1 * 4294967296 + V0 : Nat) : Int) := by
  obtain ⟨b1, b2, e⟩ := shifted hh hl s1
  have hle : h * 2 ^ s ≤ y * 2 ^ s := Nat.mul_le_mul_right _ (by omega)
  refine ⟨y * 2 ^ s / 4294967296, y * 2 ^ s % 4294967296, h * 2 ^ s + l / 2 ^ (64 - s), l * 2 ^ s % 18446744073709551616 / 4294967296, l * 2 ^ s % 18446744073709551616 % 4294967296, ?_, ?_, ?_, ?_, ?_, ?_, ?_, ?_, ?_, ?_⟩
  · clear e b1 b2 hle; omega
  · exact Nat.mod_lt _ (by omega)
  · have k : ∀ A : Nat, A % 18446744073709551616 / 4294967296 < 4294967296 := fun A => by omega
    exact k _
  · exact Nat.mod_lt _ (by omega)
  · rw [Nat.div_add_mod']; exact b1
  · rw [Nat.div_add_mod']
  · rw [← e]
    exact two_halves _ _
  · rw [min_s s1, wrap64_small (Int.mul_nonneg (by omega) (Int.pow_nonneg (by omega))), Nat.div_add_mod']
    · simp
    · have : ((y * 2 ^ s : Nat) : Int) = (y : Int) * 2 ^ s := by simp
      omega
  · rw [min_s s1, min_64s s1, wrap64_small (Int.mul_nonneg (by omega) (Int.pow_nonneg (by omega)))]
    · have e1 : (h : Int) * 2 ^ s = ((h * 2 ^ s : Nat) : Int) := by simp
      have e2 : (l : Int) / 2 ^ (64 - s) = ((l / 2 ^ (64 - s) : Nat) : Int) := by simp
      rw [e1, e2]
      exact or_words b2 (by omega)
    · have : ((h * 2 ^ s : Nat) : Int) = (h : Int) * 2 ^ s := by simp
      omega
  · rw [min_s s1, wrap64_mod, Nat.div_add_mod']
    simp
theorem halves {a b : Nat} (ha : a < 4294967296) (hb : b < 4294967296) : ((a * 4294967296 + b : Nat) : Int) / 4294967296 = (a : Int) ∧ bits .and .u64 ((a * 4294967296 + b : Nat) : Int) 4294967295 = (b : Int) := by
  refine ⟨by omega, ?_⟩
  rw [and_low (by omega)]; congr 1; omega
theorem shift_all {h l y s : Nat} (hh : h < y) (hl : l < 18446744073709551616) (s1 : s ≤ 63) (hy0 : 9223372036854775808 ≤ y * 2 ^ s) (hy : y * 2 ^ s < 18446744073709551616) :
    ∃ Y1 Y0 U V1 V0 D V : Nat,
      ((2147483648 ≤ Y1 ∧ Y1 < 4294967296) ∧ Y0 < 4294967296 ∧ V1 < 4294967296 ∧ V0 < 4294967296 ∧ U < D ∧ D < 18446744073709551616) ∧
      Hid (D = Y1 * 4294967296 + Y0 ∧ D = y * 2 ^ s ∧ (U * 4294967296 + V1) * 4294967296 + V0 = (h * 18446744073709551616 + l) * 2 ^ s) ∧
      IntKind.u64.wrap ((y : Int) * 2 ^ min (IntKind.u64.wrap (s : Int)).toNat 64) = (D : Int) ∧
      bits .or .u64 (IntKind.u64.wrap ((h : Int) * 2 ^ min (IntKind.u64.wrap (s : Int)).toNat 64)) ((l : Int) / 2 ^ min (IntKind.u64.wrap (64 - IntKind.u64.wrap (s : Int))).toNat 64) = (U : Int) ∧
      IntKind.u64.wrap ((l : Int) * 2 ^ min (IntKind.u64.wrap (s : Int)).toNat 64) = (V : Int) ∧
      (D : Int) / 4294967296 = (Y1 : Int) ∧ bits .and .u64 (D : Int) 4294967295 = (Y0 : Int) ∧ (V : Int) / 4294967296 = (V1 : Int) ∧ bits .and .u64 (V : Int) 4294967295 = (V0 : Int) := by
  obtain ⟨Y1, Y0, U, V1, V0, a1, a3, a4, a5, a6, a7, a8, F1, F2, F3⟩ := shift_facts hh hl s1 hy0 hy
  exact ⟨Y1, Y0, U, V1, V0, _, _, ⟨a1, a3, a4, a5, a6, by rw [a7]; exact hy⟩, ⟨rfl, a7, a8⟩, F1, F2, F3, (halves a1.2 a3).1, (halves a1.2 a3).2, (halves a4 a5).1, (halves a4 a5).2⟩
end Go.Proofs.YtlkpmbkmmfoakaaDoor

/- THE WALK over math/bits.Div64 at a dividend of more than one word. -/
namespace Go.Proofs.YtlkpmbkmmfoakaaDoor
open Go.RowKit
/-- what a round of the loop keeps -/
def RoundI (D Y1 U V1 q r : Nat) : Prop := q * Y1 + r = U ∧ (U * 4294967296 + V1) / D ≤ q
theorem start_round {D Y1 Y0 U V1 q r : Nat} (hD : D = Y1 * 4294967296 + Y0) (h1 : 2147483648 ≤ Y1) (hV : V1 < 4294967296) (hq : U / Y1 = q) (hr : q * Y1 + r = U) : RoundI D Y1 U V1 q r := by
  subst hD hq
  exact ⟨hr, first_le (by omega) hV⟩
theorem round_big {D Y1 U V1 q r : Nat} (hU : U < D) (hV : V1 < 4294967296) (h : RoundI D Y1 U V1 q r) (hq : 4294967296 ≤ q) : RoundI D Y1 U V1 (q - 1) (r + Y1) ∧ 1 ≤ q := by
  obtain ⟨h1, h2⟩ := h
  have := step_big hU hV hq
  refine ⟨⟨?_, this.2⟩, this.1⟩
  have e : q = (q - 1) + 1 := by omega
  rw [e, Nat.add_mul, Nat.one_mul] at h1
  omega
theorem round_more {D Y1 Y0 U V1 q r : Nat} (hD : D = Y1 * 4294967296 + Y0) (hp : 0 < D) (h : RoundI D Y1 U V1 q r) (ht : r * 4294967296 + V1 < q * Y0) : RoundI D Y1 U V1 (q - 1) (r + Y1) ∧ 1 ≤ q := by
  obtain ⟨h1, h2⟩ := h
  have := step_down hp (by rw [hD]; exact (test_iff h1).1 ht)
  refine ⟨⟨?_, this.2⟩, this.1⟩
  have e : q = (q - 1) + 1 := by omega
  rw [e, Nat.add_mul, Nat.one_mul] at h1
  omega
theorem round_done {D Y1 Y0 U V1 q r : Nat} (hD : D = Y1 * 4294967296 + Y0) (hp : 0 < D) (h : RoundI D Y1 U V1 q r) (ht : ¬ r * 4294967296 + V1 < q * Y0) : (U * 4294967296 + V1) / D = q := by
  obtain ⟨h1, h2⟩ := h
  refine quo_eq hp h2 ?_
  rw [test_iff h1, ← hD] at ht
  omega
theorem round_break {D Y1 Y0 U V1 q r : Nat} (hD : D = Y1 * 4294967296 + Y0) (hp : 0 < D) (h0 : Y0 < 4294967296) (h : RoundI D Y1 U V1 q r) (hq : q ≤ 4294967296) (hr : 4294967296 ≤ r) : (U * 4294967296 + V1) / D = q := by
  obtain ⟨h1, h2⟩ := h
  refine quo_eq hp h2 ?_
  rw [hD]; exact at_break h1 hq h0 hr
theorem quo_word {q1 q3 : Int} {X : Nat} (h : q1.toNat * 4294967296 + q3.toNat = X) (hX : X < 18446744073709551616) (h1 : 0 ≤ q1) (h3 : 0 ≤ q3) : (q1 * 4294967296 % 18446744073709551616 + q3) % 18446744073709551616 = (X : Int) := by omega
theorem rem_word {M V0 z mm D : Nat} (h : z + mm = M * 4294967296 + V0) (hm : mm < D) (hD : D < 18446744073709551616) : (((M : Int) * 4294967296 % 18446744073709551616 + V0) % 18446744073709551616 - (z : Int) % 18446744073709551616) % 18446744073709551616 = (mm : Int) := by omega
/-- what the two loops have found -/
theorem long_div {h l y s U V1 V0 D q1 q3 : Nat} (hy : h < y) (hl : l < 18446744073709551616) (hD : D = y * 2 ^ s) (hN : (U * 4294967296 + V1) * 4294967296 + V0 = (h * 18446744073709551616 + l) * 2 ^ s)
    (h1 : (U * 4294967296 + V1) / D = q1) (h3 : (((U * 4294967296 + V1) % D) * 4294967296 + V0) / D = q3) :
    q1 * 4294967296 + q3 = (h * 18446744073709551616 + l) / y ∧ (h * 18446744073709551616 + l) / y < 18446744073709551616 ∧ (((U * 4294967296 + V1) % D) * 4294967296 + V0) % D = (h * 18446744073709551616 + l) % y * 2 ^ s := by
  have hD0 : 0 < D := by rw [hD]; exact Nat.mul_pos (by omega) (Nat.two_pow_pos _)
  obtain ⟨t1, t2⟩ := two_digits (u := U) (un1 := V1) (un0 := V0) hD0
  rw [hN, hD, Nat.mul_div_mul_right _ _ (Nat.two_pow_pos _), ← hD, h1, h3] at t1
  rw [hN] at t2
  have e : (h * 18446744073709551616 + l) * 2 ^ s % D = (h * 18446744073709551616 + l) % y * 2 ^ s := by rw [hD, Nat.mul_mod_mul_right]
  rw [e] at t2
  refine ⟨t1.symm, ?_, t2.symm⟩
  rw [Nat.div_lt_iff_lt_mul (by omega)]
  have : (h + 1) * 18446744073709551616 ≤ y * 18446744073709551616 := Nat.mul_le_mul_right _ hy
  rw [Nat.mul_comm 18446744073709551616]
  omega
theorem mul_as {a b c : Int} {A B C : Nat} (ha : a = (A : Int)) (hb : b = (B : Int)) (hc : c = (C : Int)) (h : A * B = C) : a * b = c := by
  subst ha hb hc; rw [← h]; simp
set_option maxRecDepth 100000 in
set_option maxHeartbeats 1600000 in
theorem div64_big (h l y : Nat) (w : World) (hh1 : 1 ≤ h) (hh2 : h < y) (hl : l < 18446744073709551616) (hy : y ≤ 1000000000000000) :
    Calls Tryd.prog 79 #[.int .u64 h, .int .u64 l, .int .u64 y] w fun e w' => e = .returned (.tuple #[.int .u64 ((h * 18446744073709551616 + l) / y : Nat), .int .u64 ((h * 18446744073709551616 + l) % y : Nat)]) ∧ w = w' := by
  obtain ⟨s, hs, s0, s1, n1, n2⟩ := norm_bounds (y := y) (by omega) hy
  obtain ⟨Y1, Y0, U, V1, V0, D, V, ⟨⟨a1, a2⟩, a3, a4, a5, a6, a7⟩, HH, F1, F2, F3, G1, G2, G3, G4⟩ := shift_all hh2 hl s1 n1 n2
  clear n1 n2
  rw [min_s s1] at F1 F3
  rw [min_s s1, min_64s s1] at F2
  have HZ := Tryd.bits_LeadingZeros64 (y : Int) w (by omega) (by omega)
  rw [Int.toNat_natCast, hs] at HZ
  have HZ' := Lib.hid HZ
  have h0 : ((y : Int) == 0) = false := beq_eq_false_iff_ne.2 (by omega)
  have h1 : ((h : Int) == 0) = false := beq_eq_false_iff_ne.2 (by omega)
  clear HZ hs
  have hD0 : 0 < D := by omega
  have hDle : D = Y1 * 4294967296 + Y0 := HH.out.1
  generalize hy1 : (Y1 : Int) = y1 at G1
  generalize hy0 : (Y0 : Int) = y0 at G2
  generalize hu : (U : Int) = u at F2
  generalize hv1 : (V1 : Int) = v1 at G3
  generalize hv0 : (V0 : Int) = v0 at G4
  generalize hd : (D : Int) = d at F1 G1 G2
  generalize hv : (V : Int) = v at F3 G3 G4
  have b1 : 2147483648 ≤ y1 := by omega
  have b2 : y1 < 4294967296 := by omega
  have b3 : 0 ≤ y0 := by omega
  have b4 : y0 < 4294967296 := by omega
  have b5 : 0 ≤ v1 := by omega
  have b6 : v1 < 4294967296 := by omega
  have b7 : 0 ≤ v0 := by omega
  have b8 : v0 < 4294967296 := by omega
  have b9 : 0 ≤ u := by omega
  have b10 : u < d := by omega
  have b11 : d < 18446744073709551616 := by omega
  have HA := Lib.hid (show (((2147483648 ≤ Y1 ∧ Y1 < 4294967296) ∧ Y0 < 4294967296 ∧ V1 < 4294967296 ∧ V0 < 4294967296 ∧ U < D ∧ D < 18446744073709551616) ∧ 0 < D ∧ D = Y1 * 4294967296 + Y0) ∧ (Y1 : Int) = y1 ∧ (Y0 : Int) = y0 ∧ (U : Int) = u ∧ (V1 : Int) = v1 ∧ (V0 : Int) = v0 ∧ (D : Int) = d from ⟨⟨⟨⟨a1, a2⟩, a3, a4, a5, a6, a7⟩, hD0, hDle⟩, hy1, hy0, hu, hv1, hv0, hd⟩)
  clear a1 a2 a3 a4 a5 a6 a7 hD0 hDle hy1 hy0 hu hv1 hv0 hd hv
  go_enter Tryd.func79, Tryd.ntmps79
  go_upto_region 15 with (go_at_call 99; refine HZ'.out.mono ?_; rintro e w' ⟨rfl, rfl⟩)
  clear F1 F2 F3 G1 G2 G3 G4 h0 h1
  obtain ⟨q0, r0, p0, J1, J2, c1, c3, c4, c5, HR⟩ : ∃ q0 r0 p0 : Int, u / y1 = q0 ∧ q0 * y1 = p0 ∧ 0 ≤ p0 ∧ u - p0 = r0 ∧ (0 ≤ r0 ∧ r0 < 4294967296) ∧ (0 ≤ q0 ∧ q0 ≤ 4294967297) ∧ Hid (RoundI D Y1 U V1 q0.toNat r0.toNat) := by
    obtain ⟨⟨⟨⟨a1, a2⟩, a3, a4, a5, a6, a7⟩, hD0, hDle⟩, rfl, rfl, rfl, rfl, rfl, rfl⟩ := HA.out
    have e := Nat.div_add_mod' U Y1
    have m := Nat.mod_lt U (show 0 < Y1 by omega)
    have k := first_q (y0 := Y0) a1 a3 (by rw [← hDle]; exact a6)
    have S := start_round hDle a1 a4 rfl e
    have x1 : (U : Int) / (Y1 : Int) = ((U / Y1 : Nat) : Int) := by simp
    generalize U / Y1 = A at *
    generalize U % Y1 = B at *
    refine ⟨(A : Int), (B : Int), ((A * Y1 : Nat) : Int), x1, by simp, by omega, by omega, ⟨by omega, by omega⟩, ⟨by omega, by omega⟩, ?_⟩
    rw [Int.toNat_natCast, Int.toNat_natCast]
    exact S
  obtain ⟨c6, c7⟩ := c4
  obtain ⟨c8, c9⟩ := c5
  clear hy
  go_upto_block 0 with (fail)
  have HJ := Lib.hid J1
  clear J1 J2
  go_cut [15, 16] (fun a _ wx => wx = w' ∧ ∃ q : Int, a = .int .u64 q ∧ 0 ≤ q ∧ Hid ((U * 4294967296 + V1) / D = q.toNat))
  case first =>
    go_wp2_with fail
    go_loop [15, 16] (fun a b => ∃ q r : Int, a = .int .u64 q ∧ b = .int .u64 r ∧ (0 ≤ q ∧ q ≤ 4294967297) ∧ (0 ≤ r ∧ r < 4294967296) ∧ Hid (RoundI D Y1 U V1 q.toNat r.toNat)) (fun a _ => (intOf a).toNat)
    case atStart => exact ⟨q0, r0, by rw [HJ.out], rfl, ⟨c8, c9⟩, ⟨c6, c7⟩, HR⟩
    case round =>
      obtain ⟨q, r, rfl, rfl, ⟨k1, k2⟩, ⟨k3, k4⟩, hI⟩ := hrel
      by_cases hbig : 4294967296 ≤ q
      · have ⟨HI, hq1⟩ : Hid (RoundI D Y1 U V1 (q - 1).toNat (r + y1).toNat) ∧ 1 ≤ q := by
          obtain ⟨⟨⟨⟨a1, a2⟩, a3, a4, a5, a6, a7⟩, hD0, hDle⟩, rfl, rfl, rfl, rfl, rfl, rfl⟩ := HA.out
          have hq' : 4294967296 ≤ q.toNat := by omega
          have k := round_big a6 a4 hI.out hq'
          rw [show (q - 1).toNat = q.toNat - 1 from by omega, show (r + (Y1 : Int)).toNat = r.toNat + Y1 from by omega]
          exact ⟨k.1, by omega⟩
        by_cases hbrk : 4294967296 ≤ r + y1
        · have HE : Hid ((U * 4294967296 + V1) / D = (q - 1).toNat) := by
            obtain ⟨⟨⟨⟨a1, a2⟩, a3, a4, a5, a6, a7⟩, hD0, hDle⟩, rfl, rfl, rfl, rfl, rfl, rfl⟩ := HA.out
            exact round_break hDle hD0 a3 HI.out (by omega) (by omega)
          go_wp2_with fail
          go_meet
          exact ⟨rfl, q - 1, rfl, by omega, HE⟩
        · go_wp2_with fail
          go_round
          case rel => exact ⟨q - 1, r + y1, rfl, rfl, ⟨by omega, by omega⟩, ⟨by omega, by omega⟩, HI⟩
          case measure => simp [intOf]; omega
      · obtain ⟨a, J3, k5, k6, HT⟩ : ∃ a : Int, q * y0 = a ∧ 0 ≤ a ∧ a < 18446744073709551616 ∧ Hid (a = ((q.toNat * Y0 : Nat) : Int)) := by
          obtain ⟨⟨⟨⟨a1, a2⟩, a3, a4, a5, a6, a7⟩, hD0, hDle⟩, rfl, rfl, rfl, rfl, rfl, rfl⟩ := HA.out
          have m : q.toNat * Y0 ≤ 4294967296 * 4294967295 := Nat.mul_le_mul (by omega) (by omega)
          refine ⟨((q.toNat * Y0 : Nat) : Int), mul_as (A := q.toNat) (by omega) rfl rfl rfl, by omega, by omega, rfl⟩
        by_cases ht : 4294967296 * r + v1 < a
        · have ⟨HI, hq1⟩ : Hid (RoundI D Y1 U V1 (q - 1).toNat (r + y1).toNat) ∧ 1 ≤ q := by
            obtain ⟨⟨⟨⟨a1, a2⟩, a3, a4, a5, a6, a7⟩, hD0, hDle⟩, rfl, rfl, rfl, rfl, rfl, rfl⟩ := HA.out
            have e := HT.out
            have k := round_more hDle hD0 hI.out (by generalize q.toNat * Y0 = z at *; omega)
            rw [show (q - 1).toNat = q.toNat - 1 from by omega, show (r + (Y1 : Int)).toNat = r.toNat + Y1 from by omega]
            exact ⟨k.1, by omega⟩
          by_cases hbrk : 4294967296 ≤ r + y1
          · have HE : Hid ((U * 4294967296 + V1) / D = (q - 1).toNat) := by
              obtain ⟨⟨⟨⟨a1, a2⟩, a3, a4, a5, a6, a7⟩, hD0, hDle⟩, rfl, rfl, rfl, rfl, rfl, rfl⟩ := HA.out
              exact round_break hDle hD0 a3 HI.out (by omega) (by omega)
            go_wp2_with fail
            go_meet
            exact ⟨rfl, q - 1, rfl, by omega, HE⟩
          · go_wp2_with fail
            go_round
            case rel => exact ⟨q - 1, r + y1, rfl, rfl, ⟨by omega, by omega⟩, ⟨by omega, by omega⟩, HI⟩
            case measure => simp [intOf]; omega
        · have HE : Hid ((U * 4294967296 + V1) / D = q.toNat) := by
            obtain ⟨⟨⟨⟨a1, a2⟩, a3, a4, a5, a6, a7⟩, hD0, hDle⟩, rfl, rfl, rfl, rfl, rfl, rfl⟩ := HA.out
            have e := HT.out
            exact round_done hDle hD0 hI.out (by generalize q.toNat * Y0 = z at *; omega)
          go_wp2_with fail
          go_meet
          exact ⟨rfl, q, rfl, by omega, HE⟩
  case rest =>
    obtain ⟨rfl, q1, rfl, z0, HQ1⟩ := hcut
    obtain ⟨M, m, J4, d1, d2, HM⟩ : ∃ (M : Nat) (m : Int), IntKind.u64.wrap (IntKind.u64.wrap (IntKind.u64.wrap (u * 4294967296) + v1) - IntKind.u64.wrap (q1 * d)) = m ∧ 0 ≤ m ∧ m < d ∧ Hid ((M : Int) = m ∧ M = (U * 4294967296 + V1) % D) := by
      obtain ⟨⟨⟨⟨a1, a2⟩, a3, a4, a5, a6, a7⟩, hD0, hDle⟩, rfl, rfl, rfl, rfl, rfl, rfl⟩ := HA.out
      have e := Nat.div_add_mod' (U * 4294967296 + V1) D
      have k := Nat.mod_lt (U * 4294967296 + V1) hD0
      rw [HQ1.out] at e
      refine ⟨(U * 4294967296 + V1) % D, (((U * 4294967296 + V1) % D : Nat) : Int), ?_, by omega, by omega, rfl, rfl⟩
      have x : q1 * (D : Int) = ((q1.toNat * D : Nat) : Int) := mul_as (A := q1.toNat) (by omega) rfl rfl rfl
      rw [wrap64_mod, wrap64_mod, wrap64_mod, wrap64_mod, x]
      generalize q1.toNat * D = z at *
      generalize (U * 4294967296 + V1) % D = m at *
      omega
    go_upto_region 22 with (fail)
    clear J4
    obtain ⟨q2, r2, p2, J5, J6, e1, e3, e4, e5, HR2⟩ : ∃ q0 r0 p0 : Int, m / y1 = q0 ∧ q0 * y1 = p0 ∧ 0 ≤ p0 ∧ m - p0 = r0 ∧ (0 ≤ r0 ∧ r0 < 4294967296) ∧ (0 ≤ q0 ∧ q0 ≤ 4294967297) ∧ Hid (RoundI D Y1 M V0 q0.toNat r0.toNat) := by
      obtain ⟨⟨⟨⟨a1, a2⟩, a3, a4, a5, a6, a7⟩, hD0, hDle⟩, rfl, rfl, rfl, rfl, rfl, rfl⟩ := HA.out
      obtain ⟨rfl, hM⟩ := HM.out
      have e := Nat.div_add_mod' M Y1
      have k := Nat.mod_lt M (show 0 < Y1 by omega)
      have kk := first_q (y0 := Y0) (u := M) a1 a3 (by omega)
      have S := start_round hDle a1 a5 rfl e
      have x1 : (M : Int) / (Y1 : Int) = ((M / Y1 : Nat) : Int) := by simp
      generalize M / Y1 = A at *
      generalize M % Y1 = B at *
      refine ⟨(A : Int), (B : Int), ((A * Y1 : Nat) : Int), x1, by simp, by omega, by omega, ⟨by omega, by omega⟩, ⟨by omega, by omega⟩, ?_⟩
      rw [Int.toNat_natCast, Int.toNat_natCast]
      exact S
    obtain ⟨e6, e7⟩ := e4
    obtain ⟨e8, e9⟩ := e5
    go_upto_block 2 with (fail)
    have HJ2 := Lib.hid J5
    clear J5 J6
    go_cut [18, 16] (fun a _ wx => wx = wc ∧ ∃ q : Int, a = .int .u64 q ∧ 0 ≤ q ∧ Hid ((M * 4294967296 + V0) / D = q.toNat))
    case first =>
      go_wp2_with fail
      go_loop [18, 16] (fun a b => ∃ q r : Int, a = .int .u64 q ∧ b = .int .u64 r ∧ (0 ≤ q ∧ q ≤ 4294967297) ∧ (0 ≤ r ∧ r < 4294967296) ∧ Hid (RoundI D Y1 M V0 q.toNat r.toNat)) (fun a _ => (intOf a).toNat)
      case atStart => exact ⟨q2, r2, by rw [HJ2.out], rfl, ⟨e8, e9⟩, ⟨e6, e7⟩, HR2⟩
      case round =>
        obtain ⟨q, r, rfl, rfl, ⟨k1, k2⟩, ⟨k3, k4⟩, hI⟩ := hrel
        by_cases hbig : 4294967296 ≤ q
        · have ⟨HI, hq1⟩ : Hid (RoundI D Y1 M V0 (q - 1).toNat (r + y1).toNat) ∧ 1 ≤ q := by
            obtain ⟨⟨⟨⟨a1, a2⟩, a3, a4, a5, a6, a7⟩, hD0, hDle⟩, rfl, rfl, rfl, rfl, rfl, rfl⟩ := HA.out
            have hMD : M < D := by have := HM.out.1; omega
            have hq' : 4294967296 ≤ q.toNat := by omega
            have k := round_big hMD a5 hI.out hq'
            rw [show (q - 1).toNat = q.toNat - 1 from by omega, show (r + (Y1 : Int)).toNat = r.toNat + Y1 from by omega]
            exact ⟨k.1, by omega⟩
          by_cases hbrk : 4294967296 ≤ r + y1
          · have HE : Hid ((M * 4294967296 + V0) / D = (q - 1).toNat) := by
              obtain ⟨⟨⟨⟨a1, a2⟩, a3, a4, a5, a6, a7⟩, hD0, hDle⟩, rfl, rfl, rfl, rfl, rfl, rfl⟩ := HA.out
              exact round_break hDle hD0 a3 HI.out (by omega) (by omega)
            go_wp2_with fail
            go_meet
            exact ⟨rfl, q - 1, rfl, by omega, HE⟩
          · go_wp2_with fail
            go_round
            case rel => exact ⟨q - 1, r + y1, rfl, rfl, ⟨by omega, by omega⟩, ⟨by omega, by omega⟩, HI⟩
            case measure => simp [intOf]; omega
        · obtain ⟨a, J3, k5, k6, HT⟩ : ∃ a : Int, q * y0 = a ∧ 0 ≤ a ∧ a < 18446744073709551616 ∧ Hid (a = ((q.toNat * Y0 : Nat) : Int)) := by
            obtain ⟨⟨⟨⟨a1, a2⟩, a3, a4, a5, a6, a7⟩, hD0, hDle⟩, rfl, rfl, rfl, rfl, rfl, rfl⟩ := HA.out
            have m : q.toNat * Y0 ≤ 4294967296 * 4294967295 := Nat.mul_le_mul (by omega) (by omega)
            refine ⟨((q.toNat * Y0 : Nat) : Int), mul_as (A := q.toNat) (by omega) rfl rfl rfl, by omega, by omega, rfl⟩
          by_cases ht : 4294967296 * r + v0 < a
          · have ⟨HI, hq1⟩ : Hid (RoundI D Y1 M V0 (q - 1).toNat (r + y1).toNat) ∧ 1 ≤ q := by
              obtain ⟨⟨⟨⟨a1, a2⟩, a3, a4, a5, a6, a7⟩, hD0, hDle⟩, rfl, rfl, rfl, rfl, rfl, rfl⟩ := HA.out
              have e := HT.out
              have k := round_more hDle hD0 hI.out (by generalize q.toNat * Y0 = z at *; omega)
              rw [show (q - 1).toNat = q.toNat - 1 from by omega, show (r + (Y1 : Int)).toNat = r.toNat + Y1 from by omega]
              exact ⟨k.1, by omega⟩
            by_cases hbrk : 4294967296 ≤ r + y1
            · have HE : Hid ((M * 4294967296 + V0) / D = (q - 1).toNat) := by
                obtain ⟨⟨⟨⟨a1, a2⟩, a3, a4, a5, a6, a7⟩, hD0, hDle⟩, rfl, rfl, rfl, rfl, rfl, rfl⟩ := HA.out
                exact round_break hDle hD0 a3 HI.out (by omega) (by omega)
              go_wp2_with fail
              go_meet
              exact ⟨rfl, q - 1, rfl, by omega, HE⟩
            · go_wp2_with fail
              go_round
              case rel => exact ⟨q - 1, r + y1, rfl, rfl, ⟨by omega, by omega⟩, ⟨by omega, by omega⟩, HI⟩
              case measure => simp [intOf]; omega
          · have HE : Hid ((M * 4294967296 + V0) / D = q.toNat) := by
              obtain ⟨⟨⟨⟨a1, a2⟩, a3, a4, a5, a6, a7⟩, hD0, hDle⟩, rfl, rfl, rfl, rfl, rfl, rfl⟩ := HA.out
              have e := HT.out
              exact round_done hDle hD0 hI.out (by generalize q.toNat * Y0 = z at *; omega)
            go_wp2_with fail
            go_meet
            exact ⟨rfl, q, rfl, by omega, HE⟩
    case rest =>
      obtain ⟨hwx, q3, rfl, z3, HQ3⟩ := hcut
      have ⟨E1, E2⟩ : Hid (IntKind.u64.wrap (IntKind.u64.wrap (q1 * 4294967296) + q3) = (((h * 18446744073709551616 + l) / y : Nat) : Int)) ∧ Hid (IntKind.u64.wrap (IntKind.u64.wrap (IntKind.u64.wrap (m * 4294967296) + v0) - IntKind.u64.wrap (q3 * d)) / 2 ^ s = (((h * 18446744073709551616 + l) % y : Nat) : Int)) := by
        obtain ⟨⟨⟨⟨a1, a2⟩, a3, a4, a5, a6, a7⟩, hD0, hDle⟩, rfl, rfl, rfl, rfl, rfl, rfl⟩ := HA.out
        obtain ⟨rfl, hM⟩ := HM.out
        have hq3 := HQ3.out
        rw [hM] at hq3
        obtain ⟨f1, f2, f3⟩ := long_div hh2 hl HH.out.2.1 HH.out.2.2 HQ1.out hq3
        have e := Nat.div_add_mod' ((U * 4294967296 + V1) % D * 4294967296 + V0) D
        have k := Nat.mod_lt ((U * 4294967296 + V1) % D * 4294967296 + V0) hD0
        rw [hq3, ← hM] at e
        rw [← hM] at f3 k
        constructor
        · show IntKind.u64.wrap (IntKind.u64.wrap (q1 * 4294967296) + q3) = _
          rw [wrap64_mod, wrap64_mod]
          exact quo_word f1 f2 z0 z3
        · show IntKind.u64.wrap (IntKind.u64.wrap (IntKind.u64.wrap ((M : Int) * 4294967296) + V0) - IntKind.u64.wrap (q3 * D)) / 2 ^ s = _
          have x : q3 * (D : Int) = ((q3.toNat * D : Nat) : Int) := mul_as (A := q3.toNat) (by omega) rfl rfl rfl
          have x2 : IntKind.u64.wrap (IntKind.u64.wrap (IntKind.u64.wrap ((M : Int) * 4294967296) + V0) - IntKind.u64.wrap (q3 * D)) = (((M * 4294967296 + V0) % D : Nat) : Int) := by
            rw [wrap64_mod, wrap64_mod, wrap64_mod, wrap64_mod, x]
            exact rem_word e k a7
          rw [x2, f3]
          have x3 : ((((h * 18446744073709551616 + l) % y * 2 ^ s : Nat) : Int)) / 2 ^ s = ((((h * 18446744073709551616 + l) % y * 2 ^ s) / 2 ^ s : Nat) : Int) := by simp
          rw [x3, Nat.mul_div_cancel _ (Nat.two_pow_pos _)]
      go_wp2_with fail
      go_ret2
      exact ⟨by rw [← E1.out, ← E2.out]; rfl, rfl⟩
end Go.Proofs.YtlkpmbkmmfoakaaDoor

/- THE WALKS over the wide integers: mod and over. -/
namespace Go.Proofs.YtlkpmbkmmfoakaaDoor
open Go.RowKit
/-- the long division, in one contract -/
theorem div64_any (h l : Int) (m y : Nat) (w : World) (W : WB h l m) (hy1 : 1 ≤ y) (hy : y ≤ 1000000000000000) (hh : h < y) :
    Calls Tryd.prog 79 #[.int .u64 h, .int .u64 l, .int .u64 y] w fun e w' => e = .returned (.tuple #[.int .u64 (m / y : Nat), .int .u64 (m % y : Nat)]) ∧ ∃ n, w' = w.drewN n := by
  unfold WB at W
  obtain ⟨h', rfl⟩ := Int.eq_ofNat_of_zero_le W.1.1
  obtain ⟨l', rfl⟩ := Int.eq_ofNat_of_zero_le W.2.1.1
  have e : m = h' * 18446744073709551616 + l' := by omega
  by_cases h0 : h' = 0
  · subst h0
    have em : m = l' := by omega
    have := div64_small (l' : Int) (y : Int) w ⟨by omega, by omega⟩ ⟨by omega, by omega⟩
    rw [em]
    simpa using this
  · have := div64_big h' l' y w (by omega) (by omega) (by omega) hy
    rw [e]
    exact this.mono fun e w' ⟨h1, h2⟩ => ⟨h1, 0, h2.symm⟩
theorem WB_mod {h l : Int} {m : Nat} (W : WB h l m) (y : Nat) (hy1 : 1 ≤ y) (hy : y ≤ 1000000000000000) : WB (h % y) l (((h % y).toNat * 18446744073709551616 + l.toNat)) ∧ (((h % y).toNat * 18446744073709551616 + l.toNat)) % y = m % y ∧ h % y < y ∧ 0 ≤ h % y := by
  unfold WB at *
  have p1 := Int.emod_nonneg h (show (y : Int) ≠ 0 by omega)
  have p2 := Int.emod_lt_of_pos h (show (0 : Int) < (y : Int) by omega)
  refine ⟨⟨⟨p1, by omega⟩, W.2.1, by omega⟩, ?_, p2, p1⟩
  obtain ⟨h', rfl⟩ := Int.eq_ofNat_of_zero_le W.1.1
  obtain ⟨l', rfl⟩ := Int.eq_ofNat_of_zero_le W.2.1.1
  have e : m = h' * 18446744073709551616 + l' := by omega
  have e2 : ((h' : Int) % (y : Int)).toNat = h' % y := by rw [← Int.natCast_emod, Int.toNat_natCast]
  rw [e, e2, Int.toNat_natCast, Nat.add_mod, Nat.mul_mod, Nat.mod_mod, ← Nat.mul_mod, ← Nat.add_mod]
set_option maxHeartbeats 800000 in
theorem wide_mod (s : Bool) (h l : Int) (m y : Nat) (w : World) (W : WB h l m) (hy1 : 1 ≤ y) (hy : y ≤ 1000000000000000) :
    Calls Tryd.prog 51 #[.agg #[.bool s, .int .u64 h, .int .u64 l], .int .u64 y] w fun e w' => e = .returned (.int .u64 (m % y : Nat)) ∧ Below w.heap.size w w' := by
  obtain ⟨W', e, p1, p2⟩ := WB_mod W y hy1 hy
  have h1 := W.1.1
  have y0 : ((y : Int) == 0) = false := beq_eq_false_iff_ne.2 (by omega)
  have HC := fun w => div64_any (h % y) l _ y w W' hy1 hy p1
  rw [e] at HC
  have HC' := Lib.hid HC
  have hb0 := (Below.refl w.heap.size w).alloc (Nat.le_refl _) (.cells #[.bool s, .int .u64 h, .int .u64 l] 75)
  clear HC e W' W
  go_enter Tryd.func51, Tryd.ntmps51
  go_wp2_with fail
  go_quiet ((go_at_call 79; exact Calls.quiet_of (HC'.out _)))
  go_wp2
  go_ret
  exact ⟨ret_int (by simp), below_drewN' hb0 _⟩
/-- the quotient of a wide integer, if it is in range -/
def overB (m y : Nat) : Bool := decide (m / y ≤ 1000000000000000)
def overV (s : Bool) (m y : Nat) : Int := if overB m y then (if s then -((m / y : Nat) : Int) else ((m / y : Nat) : Int)) else 0
theorem over_no {s : Bool} {m y : Nat} (h : overB m y = false) : overV s m y = 0 := by unfold overV; rw [h]; rfl
theorem over_big {h l : Int} {m y : Nat} (W : WB h l m) (hy1 : 1 ≤ y) (hh : (y : Int) ≤ h) : overB m y = false := by
  unfold WB at W
  obtain ⟨h', rfl⟩ := Int.eq_ofNat_of_zero_le W.1.1
  apply decide_eq_false
  have : 18446744073709551616 ≤ m / y := by
    rw [Nat.le_div_iff_mul_le (by omega)]
    have : y * 18446744073709551616 ≤ h' * 18446744073709551616 := Nat.mul_le_mul_right _ (by omega)
    rw [Nat.mul_comm]
    omega
  omega
set_option maxHeartbeats 800000 in
theorem wide_over (s : Bool) (h l : Int) (m y : Nat) (w : World) (W : WB h l m) (hy1 : 1 ≤ y) (hy : y ≤ 1000000000000000) :
    Calls Tryd.prog 52 #[.agg #[.bool s, .int .u64 h, .int .u64 l], .int .u64 y] w fun e w' => e = .returned (.tuple #[.int .i64 (overV s m y), .bool (overB m y)]) ∧ Below w.heap.size w w' := by
  have hb0 := (Below.refl w.heap.size w).alloc (Nat.le_refl _) (.cells #[.bool s, .int .u64 h, .int .u64 l] 75)
  by_cases hh : (y : Int) ≤ h
  · have HO := Lib.hid (over_big W hy1 hh)
    clear W
    go_enter Tryd.func52, Tryd.ntmps52
    go_wp2
    go_ret2
    exact ⟨ret_int_bool (over_no HO.out).symm HO.out.symm, hb0⟩
  · have HC := Lib.hid (fun w => div64_any h l m y w W hy1 hy (by omega))
    have hM : Hid (m / y < 18446744073709551616) := by
      unfold WB at W
      obtain ⟨h', rfl⟩ := Int.eq_ofNat_of_zero_le W.1.1
      have : (h' + 1) * 18446744073709551616 ≤ y * 18446744073709551616 := Nat.mul_le_mul_right _ (by omega)
      show m / y < _
      rw [Nat.div_lt_iff_lt_mul (by omega), Nat.mul_comm 18446744073709551616]
      omega
    clear W
    obtain ⟨q, hq⟩ : ∃ q : Int, Hid (q = ((m / y : Nat) : Int)) := ⟨_, rfl⟩
    rw [← hq.out] at HC
    generalize hr : ((m % y : Nat) : Int) = r at HC
    clear hr
    have q0 : 0 ≤ q := by rw [hq.out]; exact Int.natCast_nonneg _
    by_cases hbig : 1000000000000000 < q
    · have HO : Hid (overB m y = false) := decide_eq_false (by have := hq.out; omega)
      go_enter Tryd.func52, Tryd.ntmps52
      go_wp2_with (go_at_call 79; refine (HC.out _).mono ?_; rintro e w' ⟨rfl, n, rfl⟩)
      go_ret2
      exact ⟨ret_int_bool (over_no HO.out).symm HO.out.symm, below_drewN' hb0 _⟩
    · have HO : Hid (overB m y = true) := decide_eq_true (by have := hq.out; omega)
      have q1 : q ≤ 1000000000000000 := by omega
      cases s
      · have HV : Hid (overV false m y = q) := by have h1 := HO.out; have h2 := hq.out; unfold overV; rw [h1, h2]; rfl
        go_enter Tryd.func52, Tryd.ntmps52
        go_wp2_with (go_at_call 79; refine (HC.out _).mono ?_; rintro e w' ⟨rfl, n, rfl⟩)
        go_ret2
        exact ⟨ret_int_bool (HV.out.symm) HO.out.symm, below_drewN' hb0 _⟩
      · have HV : Hid (overV true m y = -q) := by have h1 := HO.out; have h2 := hq.out; unfold overV; rw [h1, h2]; rfl
        go_enter Tryd.func52, Tryd.ntmps52
        go_wp2_with (go_at_call 79; refine (HC.out _).mono ?_; rintro e w' ⟨rfl, n, rfl⟩)
        go_ret2
        exact ⟨ret_int_bool (HV.out.symm) HO.out.symm, below_drewN' hb0 _⟩
end Go.Proofs.YtlkpmbkmmfoakaaDoor

/- THE WALKS over package frac: Of, Mul, Div. -/
namespace Go.Proofs.YtlkpmbkmmfoakaaDoor
open Go.RowKit
/-- a fraction and whether it exists, as a result -/
def FracIs (r : Int × Int × Bool) (w : World) (e : Ending) (w' : World) : Prop := e = .returned (.tuple #[.agg #[.int .i64 r.1, .int .i64 r.2.1], .bool r.2.2]) ∧ Below w.heap.size w w'
theorem cgcd_bounds {n d : Int} (hd : d ≠ 0) (h2 : -1000000000000000 ≤ d ∧ d ≤ 1000000000000000) : 1 ≤ cgcd n d ∧ cgcd n d ≤ 1000000000000000 := by
  unfold cgcd
  have h := Nat.gcd_pos_of_pos_right n.natAbs (show 0 < d.natAbs by omega)
  have h' := Nat.le_of_dvd (show 0 < d.natAbs by omega) (Nat.gcd_dvd_right n.natAbs d.natAbs)
  omega
theorem quo_facts {n g : Int} (hg : 1 ≤ g) (hd : g ∣ n) (h : -1000000000000000 ≤ n ∧ n ≤ 1000000000000000) : n.tdiv g = n / g ∧ n.tdiv (-g) = -(n / g) ∧ (-n).tdiv g = -(n / g) ∧ -1000000000000000 ≤ n / g ∧ n / g ≤ 1000000000000000 := by
  obtain ⟨c, rfl⟩ := hd
  have e : g * c / g = c := Int.mul_ediv_cancel_left c (by omega)
  have e2 : (g * c).tdiv g = c := Int.mul_tdiv_cancel_left c (by omega)
  have hc : c.natAbs ≤ (g * c).natAbs := by
    rw [Int.natAbs_mul]
    exact Nat.le_mul_of_pos_left _ (by omega)
  rw [Int.tdiv_neg, Int.neg_tdiv, e2, e]
  exact ⟨rfl, rfl, rfl, by omega, by omega⟩
end Go.Proofs.YtlkpmbkmmfoakaaDoor

/- THE WALKS over package frac: Mul, Div. -/
namespace Go.Proofs.YtlkpmbkmmfoakaaDoor
open Go.RowKit
theorem cutS_mul {A B C D : Int} (hA : inB A = true) (hB : inB B = true) (hC : inB C = true) (hD : inB D = true) : cutS (A * B) (C * D) = if mulB A B && mulB C D then (mulV A B, mulV C D, true) else (0, 0, false) := by
  unfold cutS mulB
  rw [show bothB A B = true from by unfold bothB; rw [hA, hB]; rfl, show bothB C D = true from by unfold bothB; rw [hC, hD]; rfl, Bool.true_and, Bool.true_and]
  cases h1 : inB (A * B) <;> cases h2 : inB (C * D) <;> try rfl
  rw [mul_yes, mul_yes] <;> (unfold mulB bothB; simp [*])
set_option maxHeartbeats 1600000 in
theorem frac_Mul_yes (an ad bn bd : Int) (w : World) (ha : validB an ad = true) (hb : validB bn bd = true) :
    Calls Tryd.prog 98 #[.agg #[.int .i64 an, .int .i64 ad], .agg #[.int .i64 bn, .int .i64 bd]] w (FracIs (mulS an ad bn bd) w) := by
  obtain ⟨a1, a2, ⟨a3, a4⟩, a5⟩ := validB_iff.1 ha
  obtain ⟨b1, b2, ⟨b3, b4⟩, b5⟩ := validB_iff.1 hb
  have hO : mulS an ad bn bd = _ := mulS_formula ha hb
  obtain ⟨g1, g2⟩ := cgcd_bounds (n := an) (show bd ≠ 0 by omega) ⟨by omega, by omega⟩
  obtain ⟨k1, k2⟩ := cgcd_bounds (n := bn) (show ad ≠ 0 by omega) ⟨by omega, by omega⟩
  obtain ⟨q1, -, -, q4, q5⟩ := quo_facts g1 (cgcd_left an bd) ⟨a3, a4⟩
  obtain ⟨p1, -, -, p4, p5⟩ := quo_facts g1 (cgcd_right an bd) ⟨by omega, by omega⟩
  obtain ⟨r1, -, -, r4, r5⟩ := quo_facts k1 (cgcd_left bn ad) ⟨b3, b4⟩
  obtain ⟨s1, -, -, s4, s5⟩ := quo_facts k1 (cgcd_right bn ad) ⟨by omega, by omega⟩
  have hg : gcdV an bd = cgcd an bd := gcdV_yes (inB_true.2 ⟨a3, a4⟩) (inB_true.2 ⟨by omega, by omega⟩)
  have hk : gcdV bn ad = cgcd bn ad := gcdV_yes (inB_true.2 ⟨b3, b4⟩) (inB_true.2 ⟨by omega, by omega⟩)
  generalize cgcd an bd = g at *
  generalize cgcd bn ad = k at *
  generalize an / g = A at *
  generalize bd / g = D at *
  generalize bn / k = B at *
  generalize ad / k = C at *
  rw [cutS_mul (inB_true.2 ⟨q4, q5⟩) (inB_true.2 ⟨r4, r5⟩) (inB_true.2 ⟨s4, s5⟩) (inB_true.2 ⟨p4, p5⟩)] at hO
  have HO := Lib.hid hO
  have hg0 : (g == 0) = false := beq_eq_false_iff_ne.2 (by omega)
  have hk0 : (k == 0) = false := beq_eq_false_iff_ne.2 (by omega)
  clear hO a5 b5
  go_enter Tryd.func98, Tryd.ntmps98
  go_wp2_with (go_at_call 46; refine (frac_Valid _ _ _).mono ?_; rintro e w' ⟨rfl, hbb⟩; obtain ⟨hc, hf⟩ := bcell hbb; have c0 : w'.cell? ⟨w.heap.size, 0, none⟩ = some (.int .i64 an) := (hc _ _ (by first | omega | (simp; done) | (simp; omega))).trans (by go_simp); have f0 : w'.frozen? ⟨w.heap.size, 0, none⟩ = false := (hf _ _ (by first | omega | (simp; done) | (simp; omega))).trans (by go_simp); have c1 : w'.cell? ⟨w.heap.size, 1, none⟩ = some (.int .i64 ad) := (hc _ _ (by first | omega | (simp; done) | (simp; omega))).trans (by go_simp); have f1 : w'.frozen? ⟨w.heap.size, 1, none⟩ = false := (hf _ _ (by first | omega | (simp; done) | (simp; omega))).trans (by go_simp); have c2 : w'.cell? ⟨w.heap.size + 1, 0, none⟩ = some (.int .i64 bn) := (hc _ _ (by first | omega | (simp; done) | (simp; omega))).trans (by go_simp); have f2 : w'.frozen? ⟨w.heap.size + 1, 0, none⟩ = false := (hf _ _ (by first | omega | (simp; done) | (simp; omega))).trans (by go_simp); have c3 : w'.cell? ⟨w.heap.size + 1, 1, none⟩ = some (.int .i64 bd) := (hc _ _ (by first | omega | (simp; done) | (simp; omega))).trans (by go_simp); have f3 : w'.frozen? ⟨w.heap.size + 1, 1, none⟩ = false := (hf _ _ (by first | omega | (simp; done) | (simp; omega))).trans (by go_simp); have c4 : w'.cell? ⟨w.heap.size + 1 + 1, 0, none⟩ = some (.int .i64 0) := (hc _ _ (by first | omega | (simp; done) | (simp; omega))).trans (by go_simp); have f4 : w'.frozen? ⟨w.heap.size + 1 + 1, 0, none⟩ = false := (hf _ _ (by first | omega | (simp; done) | (simp; omega))).trans (by go_simp); have c5 : w'.cell? ⟨w.heap.size + 1 + 1, 1, none⟩ = some (.int .i64 0) := (hc _ _ (by first | omega | (simp; done) | (simp; omega))).trans (by go_simp); have f5 : w'.frozen? ⟨w.heap.size + 1 + 1, 1, none⟩ = false := (hf _ _ (by first | omega | (simp; done) | (simp; omega))).trans (by go_simp); have hz : w.heap.size + 1 + 1 < w'.heap.size := (by have hs := hbb.size; first | omega | (simp at hs; done) | (simp at hs; omega)); have hbA : Below w.heap.size w w' := Below.trans (b := _) (by repeat (first | with_reducible exact Below.refl _ _ | with_reducible assumption | with_reducible refine below_drewN' ?_ _ | (with_reducible refine Below.setCell ?_ (by first | (simp; done) | (simp; omega)) _) | (with_reducible refine Below.alloc ?_ (by first | exact Nat.le_refl _ | (simp; done) | (simp; omega)) _))) (hbb.mono (by first | omega | (simp; done) | (simp; omega))); clear hc hf hbb)
  refine forget_world (fun W => (Below w.heap.size w W ∧ w.heap.size + 1 + 1 < W.heap.size) ∧ (W.cell? ⟨w.heap.size, 0, none⟩ = some (.int .i64 an) ∧ W.frozen? ⟨w.heap.size, 0, none⟩ = false) ∧ (W.cell? ⟨w.heap.size, 1, none⟩ = some (.int .i64 ad) ∧ W.frozen? ⟨w.heap.size, 1, none⟩ = false) ∧ (W.cell? ⟨w.heap.size + 1, 0, none⟩ = some (.int .i64 bn) ∧ W.frozen? ⟨w.heap.size + 1, 0, none⟩ = false) ∧ (W.cell? ⟨w.heap.size + 1, 1, none⟩ = some (.int .i64 bd) ∧ W.frozen? ⟨w.heap.size + 1, 1, none⟩ = false) ∧ (W.cell? ⟨w.heap.size + 1 + 1, 0, none⟩ = some (.int .i64 0) ∧ W.frozen? ⟨w.heap.size + 1 + 1, 0, none⟩ = false) ∧ (W.cell? ⟨w.heap.size + 1 + 1, 1, none⟩ = some (.int .i64 0) ∧ W.frozen? ⟨w.heap.size + 1 + 1, 1, none⟩ = false)) ⟨⟨(by repeat (first | with_reducible exact Below.refl _ _ | with_reducible assumption | with_reducible refine below_drewN' ?_ _ | (with_reducible refine Below.setCell ?_ (by first | (simp; done) | (simp; omega)) _) | (with_reducible refine Below.alloc ?_ (by first | exact Nat.le_refl _ | (simp; done) | (simp; omega)) _))), by go_simp⟩, ⟨by go_simp, by go_simp⟩, ⟨by go_simp, by go_simp⟩, ⟨by go_simp, by go_simp⟩, ⟨by go_simp, by go_simp⟩, ⟨by go_simp, by go_simp⟩, ⟨by go_simp, by go_simp⟩⟩ ?_
  rintro W ⟨⟨hbB, hzB⟩, ⟨d0, g0⟩, ⟨d1, g1⟩, ⟨d2, g2⟩, ⟨d3, g3⟩, ⟨d4, g4⟩, ⟨d5, g5⟩⟩
  go_quiet ((go_at_call 47; exact Calls.quiet_of (num_Gcd _ _ _)))
  go_wp2_with fail
  cases hp : mulB A B <;> cases hq : mulB C D
  all_goals
    go_quiet ((go_at_call 53; refine (num_Mul _ _ _).mono ?_; rintro e w' ⟨rfl, rfl⟩; exact ⟨rfl, _, rfl⟩))
    go_wp2_with fail
    go_quiet ((go_at_call 53; refine (num_Mul _ _ _).mono ?_; rintro e w' ⟨rfl, rfl⟩; exact ⟨rfl, _, rfl⟩))
    go_wp2_with fail
    rw [hp, hq] at HO
  · refine bodyPost_ret (v := .tuple #[.agg #[.int .i64 0, .int .i64 0], .bool false]) (by simp [results, Tryd.results98, go_sem, d4, d5]) rfl ?_
    rw [HO.out]
    exact ⟨rfl, (by repeat (first | with_reducible exact Below.refl _ _ | with_reducible assumption | with_reducible refine below_drewN' ?_ _ | (with_reducible refine Below.setCell ?_ (by first | (simp; done) | (simp; omega)) _) | (with_reducible refine Below.alloc ?_ (by first | exact Nat.le_refl _ | (simp; done) | (simp; omega)) _)))⟩
  · refine bodyPost_ret (v := .tuple #[.agg #[.int .i64 0, .int .i64 0], .bool false]) (by simp [results, Tryd.results98, go_sem, d4, d5]) rfl ?_
    rw [HO.out]
    exact ⟨rfl, (by repeat (first | with_reducible exact Below.refl _ _ | with_reducible assumption | with_reducible refine below_drewN' ?_ _ | (with_reducible refine Below.setCell ?_ (by first | (simp; done) | (simp; omega)) _) | (with_reducible refine Below.alloc ?_ (by first | exact Nat.le_refl _ | (simp; done) | (simp; omega)) _)))⟩
  · refine bodyPost_ret (v := .tuple #[.agg #[.int .i64 0, .int .i64 0], .bool false]) (by simp [results, Tryd.results98, go_sem, d4, d5]) rfl ?_
    rw [HO.out]
    exact ⟨rfl, (by repeat (first | with_reducible exact Below.refl _ _ | with_reducible assumption | with_reducible refine below_drewN' ?_ _ | (with_reducible refine Below.setCell ?_ (by first | (simp; done) | (simp; omega)) _) | (with_reducible refine Below.alloc ?_ (by first | exact Nat.le_refl _ | (simp; done) | (simp; omega)) _)))⟩
  · refine bodyPost_ret (v := .tuple #[.agg #[.int .i64 (mulV A B), .int .i64 (mulV C D)], .bool true]) (by simp [results, Tryd.results98, go_sem, d4, d5]) rfl ?_
    rw [HO.out]
    exact ⟨rfl, (by repeat (first | with_reducible exact Below.refl _ _ | with_reducible assumption | with_reducible refine below_drewN' ?_ _ | (with_reducible refine Below.setCell ?_ (by first | (simp; done) | (simp; omega)) _) | (with_reducible refine Below.alloc ?_ (by first | exact Nat.le_refl _ | (simp; done) | (simp; omega)) _)))⟩
set_option maxHeartbeats 1600000 in
theorem frac_Mul_no (an ad bn bd : Int) (w : World) (h : validB an ad = false ∨ validB an ad = true ∧ validB bn bd = false) :
    Calls Tryd.prog 98 #[.agg #[.int .i64 an, .int .i64 ad], .agg #[.int .i64 bn, .int .i64 bd]] w (FracIs (mulS an ad bn bd) w) := by
  have HO : Hid (mulS an ad bn bd = (0, 0, false)) := by
    unfold mulS
    rcases h with h | ⟨h, h'⟩
    · rw [h]; rfl
    · rw [h, h']; rfl
  rcases h with ha | ⟨ha, hb⟩
  all_goals
    go_enter Tryd.func98, Tryd.ntmps98
    go_wp2_with (go_at_call 46; refine (frac_Valid _ _ _).mono ?_; rintro e w' ⟨rfl, hbb⟩; obtain ⟨hc, hf⟩ := bcell hbb; have c0 : w'.cell? ⟨w.heap.size, 0, none⟩ = some (.int .i64 an) := (hc _ _ (by first | omega | (simp; done) | (simp; omega))).trans (by go_simp); have f0 : w'.frozen? ⟨w.heap.size, 0, none⟩ = false := (hf _ _ (by first | omega | (simp; done) | (simp; omega))).trans (by go_simp); have c1 : w'.cell? ⟨w.heap.size, 1, none⟩ = some (.int .i64 ad) := (hc _ _ (by first | omega | (simp; done) | (simp; omega))).trans (by go_simp); have f1 : w'.frozen? ⟨w.heap.size, 1, none⟩ = false := (hf _ _ (by first | omega | (simp; done) | (simp; omega))).trans (by go_simp); have c2 : w'.cell? ⟨w.heap.size + 1, 0, none⟩ = some (.int .i64 bn) := (hc _ _ (by first | omega | (simp; done) | (simp; omega))).trans (by go_simp); have f2 : w'.frozen? ⟨w.heap.size + 1, 0, none⟩ = false := (hf _ _ (by first | omega | (simp; done) | (simp; omega))).trans (by go_simp); have c3 : w'.cell? ⟨w.heap.size + 1, 1, none⟩ = some (.int .i64 bd) := (hc _ _ (by first | omega | (simp; done) | (simp; omega))).trans (by go_simp); have f3 : w'.frozen? ⟨w.heap.size + 1, 1, none⟩ = false := (hf _ _ (by first | omega | (simp; done) | (simp; omega))).trans (by go_simp); have c4 : w'.cell? ⟨w.heap.size + 1 + 1, 0, none⟩ = some (.int .i64 0) := (hc _ _ (by first | omega | (simp; done) | (simp; omega))).trans (by go_simp); have f4 : w'.frozen? ⟨w.heap.size + 1 + 1, 0, none⟩ = false := (hf _ _ (by first | omega | (simp; done) | (simp; omega))).trans (by go_simp); have c5 : w'.cell? ⟨w.heap.size + 1 + 1, 1, none⟩ = some (.int .i64 0) := (hc _ _ (by first | omega | (simp; done) | (simp; omega))).trans (by go_simp); have f5 : w'.frozen? ⟨w.heap.size + 1 + 1, 1, none⟩ = false := (hf _ _ (by first | omega | (simp; done) | (simp; omega))).trans (by go_simp); have hz : w.heap.size + 1 + 1 < w'.heap.size := (by have hs := hbb.size; first | omega | (simp at hs; done) | (simp at hs; omega)); have hbA : Below w.heap.size w w' := Below.trans (b := _) (by repeat (first | with_reducible exact Below.refl _ _ | with_reducible assumption | with_reducible refine below_drewN' ?_ _ | (with_reducible refine Below.setCell ?_ (by first | (simp; done) | (simp; omega)) _) | (with_reducible refine Below.alloc ?_ (by first | exact Nat.le_refl _ | (simp; done) | (simp; omega)) _))) (hbb.mono (by first | omega | (simp; done) | (simp; omega))); clear hc hf hbb)
    refine bodyPost_ret (v := .tuple #[.agg #[.int .i64 0, .int .i64 0], .bool false]) (by simp [results, Tryd.results98, go_sem, c4, c5]) rfl ?_
    rw [HO.out]
    exact ⟨rfl, (by repeat (first | with_reducible exact Below.refl _ _ | with_reducible assumption | with_reducible refine below_drewN' ?_ _ | (with_reducible refine Below.setCell ?_ (by first | (simp; done) | (simp; omega)) _) | (with_reducible refine Below.alloc ?_ (by first | exact Nat.le_refl _ | (simp; done) | (simp; omega)) _)))⟩
theorem frac_Mul (an ad bn bd : Int) (w : World) :
    Calls Tryd.prog 98 #[.agg #[.int .i64 an, .int .i64 ad], .agg #[.int .i64 bn, .int .i64 bd]] w (FracIs (mulS an ad bn bd) w) := by
  cases ha : validB an ad
  · exact frac_Mul_no _ _ _ _ w (.inl ha)
  · cases hb : validB bn bd
    · exact frac_Mul_no _ _ _ _ w (.inr ⟨ha, hb⟩)
    · exact frac_Mul_yes _ _ _ _ w ha hb
end Go.Proofs.YtlkpmbkmmfoakaaDoor
