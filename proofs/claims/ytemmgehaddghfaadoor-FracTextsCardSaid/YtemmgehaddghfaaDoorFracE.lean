/- THE WALK over math/bits.Div64 at a dividend of more than one word. -/
import Derived.Test.YtemmgehaddghfaaDoorFracD
import Derived.Deep.CutBlock
import Derived.Deep.DeepCutAuto
namespace Go.Proofs.YtemmgehaddghfaaDoor
open Go.RowKit

/-- what a round of the loop keeps -/
def RoundI (D Y1 U V1 q r : Nat) : Prop := q * Y1 + r = U ∧ (U * 4294967296 + V1) / D ≤ q

theorem start_round {D Y1 Y0 U V1 q r : Nat} (hD : D = Y1 * 4294967296 + Y0) (h1 : 2147483648 ≤ Y1) (hV : V1 < 4294967296) (hq : U / Y1 = q) (hr : q * Y1 + r = U) : RoundI D Y1 U V1 q r := by
  subst hD hq
  exact ⟨hr, first_le (by omega) hV⟩

theorem round_big {D Y1 U V1 q r : Nat} (hU : U < D) (hV : V1 < 4294967296) (h : RoundI D Y1 U V1 q r) (hq : 4294967296 ≤ q) : RoundI D Y1 U V1 (q - 1) (r + Y1) ∧ 1 ≤ q := by
  obtain ⟨h1, h2⟩ := h
  have := step_big hU hV hq
  refine ⟨⟨?_, this.2⟩, this.1⟩
  have e : q = (q - 1) + 1 := by omega
  rw [e, Nat.add_mul, Nat.one_mul] at h1
  omega

theorem round_more {D Y1 Y0 U V1 q r : Nat} (hD : D = Y1 * 4294967296 + Y0) (hp : 0 < D) (h : RoundI D Y1 U V1 q r) (ht : r * 4294967296 + V1 < q * Y0) : RoundI D Y1 U V1 (q - 1) (r + Y1) ∧ 1 ≤ q := by
  obtain ⟨h1, h2⟩ := h
  have := step_down hp (by rw [hD]; exact (test_iff h1).1 ht)
  refine ⟨⟨?_, this.2⟩, this.1⟩
  have e : q = (q - 1) + 1 := by omega
  rw [e, Nat.add_mul, Nat.one_mul] at h1
  omega

theorem round_done {D Y1 Y0 U V1 q r : Nat} (hD : D = Y1 * 4294967296 + Y0) (hp : 0 < D) (h : RoundI D Y1 U V1 q r) (ht : ¬ r * 4294967296 + V1 < q * Y0) : (U * 4294967296 + V1) / D = q := by
  obtain ⟨h1, h2⟩ := h
  refine quo_eq hp h2 ?_
  rw [test_iff h1, ← hD] at ht
  omega

theorem round_break {D Y1 Y0 U V1 q r : Nat} (hD : D = Y1 * 4294967296 + Y0) (hp : 0 < D) (h0 : Y0 < 4294967296) (h : RoundI D Y1 U V1 q r) (hq : q ≤ 4294967296) (hr : 4294967296 ≤ r) : (U * 4294967296 + V1) / D = q := by
  obtain ⟨h1, h2⟩ := h
  refine quo_eq hp h2 ?_
  rw [hD]; exact at_break h1 hq h0 hr

theorem quo_word {q1 q3 : Int} {X : Nat} (h : q1.toNat * 4294967296 + q3.toNat = X) (hX : X < 18446744073709551616) (h1 : 0 ≤ q1) (h3 : 0 ≤ q3) : (q1 * 4294967296 % 18446744073709551616 + q3) % 18446744073709551616 = (X : Int) := by omega

theorem rem_word {M V0 z mm D : Nat} (h : z + mm = M * 4294967296 + V0) (hm : mm < D) (hD : D < 18446744073709551616) : (((M : Int) * 4294967296 % 18446744073709551616 + V0) % 18446744073709551616 - (z : Int) % 18446744073709551616) % 18446744073709551616 = (mm : Int) := by omega

/-- what the two loops have found -/
theorem long_div {h l y s U V1 V0 D q1 q3 : Nat} (hy : h < y) (hl : l < 18446744073709551616) (hD : D = y * 2 ^ s) (hN : (U * 4294967296 + V1) * 4294967296 + V0 = (h * 18446744073709551616 + l) * 2 ^ s)
    (h1 : (U * 4294967296 + V1) / D = q1) (h3 : (((U * 4294967296 + V1) % D) * 4294967296 + V0) / D = q3) :
    q1 * 4294967296 + q3 = (h * 18446744073709551616 + l) / y ∧ (h * 18446744073709551616 + l) / y < 18446744073709551616 ∧ (((U * 4294967296 + V1) % D) * 4294967296 + V0) % D = (h * 18446744073709551616 + l) % y * 2 ^ s := by
  have hD0 : 0 < D := by rw [hD]; exact Nat.mul_pos (by omega) (Nat.two_pow_pos _)
  obtain ⟨t1, t2⟩ := two_digits (u := U) (un1 := V1) (un0 := V0) hD0
  rw [hN, hD, Nat.mul_div_mul_right _ _ (Nat.two_pow_pos _), ← hD, h1, h3] at t1
  rw [hN] at t2
  have e : (h * 18446744073709551616 + l) * 2 ^ s % D = (h * 18446744073709551616 + l) % y * 2 ^ s := by rw [hD, Nat.mul_mod_mul_right]
  rw [e] at t2
  refine ⟨t1.symm, ?_, t2.symm⟩
  rw [Nat.div_lt_iff_lt_mul (by omega)]
  have : (h + 1) * 18446744073709551616 ≤ y * 18446744073709551616 := Nat.mul_le_mul_right _ hy
  rw [Nat.mul_comm 18446744073709551616]
  omega

theorem mul_as {a b c : Int} {A B C : Nat} (ha : a = (A : Int)) (hb : b = (B : Int)) (hc : c = (C : Int)) (h : A * B = C) : a * b = c := by
  subst ha hb hc; rw [← h]; simp

theorem div_as {a b c : Int} {A B C : Nat} (ha : a = (A : Int)) (hb : b = (B : Int)) (hc : c = (C : Int)) (h : A / B = C) : a / b = c := by
  subst ha hb hc; rw [← h]; simp

set_option maxRecDepth 100000 in
set_option maxHeartbeats 1600000 in
theorem div64_big (h l y : Nat) (w : World) (hh1 : 1 ≤ h) (hh2 : h < y) (hl : l < 18446744073709551616) (hy : y ≤ 1000000000000000) :
    Calls Tryd.prog 59 #[.int .u64 h, .int .u64 l, .int .u64 y] w fun e w' => e = .returned (.tuple #[.int .u64 ((h * 18446744073709551616 + l) / y : Nat), .int .u64 ((h * 18446744073709551616 + l) % y : Nat)]) ∧ w = w' := by
  obtain ⟨s, hs, s0, s1, n1, n2⟩ := norm_bounds (y := y) (by omega) hy
  obtain ⟨Y1, Y0, U, V1, V0, D, V, ⟨⟨a1, a2⟩, a3, a4, a5, a6, a7⟩, HH, F1, F2, F3, G1, G2, G3, G4⟩ := shift_all hh2 hl s1 n1 n2
  clear n1 n2
  rw [min_s s1] at F1 F3
  rw [min_s s1, min_64s s1] at F2
  have HZ := Tryd.bits_LeadingZeros64 (y : Int) w (by omega) (by omega)
  rw [Int.toNat_natCast, hs] at HZ
  have HZ' := Lib.hid HZ
  have h0 : ((y : Int) == 0) = false := beq_eq_false_iff_ne.2 (by omega)
  have h1 : ((h : Int) == 0) = false := beq_eq_false_iff_ne.2 (by omega)
  clear HZ hs
  have hD0 : 0 < D := by omega
  have hDle : D = Y1 * 4294967296 + Y0 := HH.out.1
  generalize hy1 : (Y1 : Int) = y1 at G1
  generalize hy0 : (Y0 : Int) = y0 at G2
  generalize hu : (U : Int) = u at F2
  generalize hv1 : (V1 : Int) = v1 at G3
  generalize hv0 : (V0 : Int) = v0 at G4
  generalize hd : (D : Int) = d at F1 G1 G2
  generalize hv : (V : Int) = v at F3 G3 G4
  have b1 : 2147483648 ≤ y1 := by omega
  have b2 : y1 < 4294967296 := by omega
  have b3 : 0 ≤ y0 := by omega
  have b4 : y0 < 4294967296 := by omega
  have b5 : 0 ≤ v1 := by omega
  have b6 : v1 < 4294967296 := by omega
  have b7 : 0 ≤ v0 := by omega
  have b8 : v0 < 4294967296 := by omega
  have b9 : 0 ≤ u := by omega
  have b10 : u < d := by omega
  have b11 : d < 18446744073709551616 := by omega
  have HA := Lib.hid (show (((2147483648 ≤ Y1 ∧ Y1 < 4294967296) ∧ Y0 < 4294967296 ∧ V1 < 4294967296 ∧ V0 < 4294967296 ∧ U < D ∧ D < 18446744073709551616) ∧ 0 < D ∧ D = Y1 * 4294967296 + Y0) ∧ (Y1 : Int) = y1 ∧ (Y0 : Int) = y0 ∧ (U : Int) = u ∧ (V1 : Int) = v1 ∧ (V0 : Int) = v0 ∧ (D : Int) = d from ⟨⟨⟨⟨a1, a2⟩, a3, a4, a5, a6, a7⟩, hD0, hDle⟩, hy1, hy0, hu, hv1, hv0, hd⟩)
  clear a1 a2 a3 a4 a5 a6 a7 hD0 hDle hy1 hy0 hu hv1 hv0 hd hv
  go_enter Tryd.func59, Tryd.ntmps59
  go_upto_region 15 with (go_at_call 67; refine HZ'.out.mono ?_; rintro e w' ⟨rfl, rfl⟩)
  clear F1 F2 F3 G1 G2 G3 G4 h0 h1
  obtain ⟨q0, r0, p0, J1, J2, c1, c3, c4, c5, HR⟩ : ∃ q0 r0 p0 : Int, u / y1 = q0 ∧ q0 * y1 = p0 ∧ 0 ≤ p0 ∧ u - p0 = r0 ∧ (0 ≤ r0 ∧ r0 < 4294967296) ∧ (0 ≤ q0 ∧ q0 ≤ 4294967297) ∧ Hid (RoundI D Y1 U V1 q0.toNat r0.toNat) := by
    obtain ⟨⟨⟨⟨a1, a2⟩, a3, a4, a5, a6, a7⟩, hD0, hDle⟩, rfl, rfl, rfl, rfl, rfl, rfl⟩ := HA.out
    have e := Nat.div_add_mod' U Y1
    have m := Nat.mod_lt U (show 0 < Y1 by omega)
    have k := first_q (y0 := Y0) a1 a3 (by rw [← hDle]; exact a6)
    have S := start_round hDle a1 a4 rfl e
    have x1 : (U : Int) / (Y1 : Int) = ((U / Y1 : Nat) : Int) := by simp
    generalize U / Y1 = A at *
    generalize U % Y1 = B at *
    refine ⟨(A : Int), (B : Int), ((A * Y1 : Nat) : Int), x1, by simp, by omega, by omega, ⟨by omega, by omega⟩, ⟨by omega, by omega⟩, ?_⟩
    rw [Int.toNat_natCast, Int.toNat_natCast]
    exact S
  obtain ⟨c6, c7⟩ := c4
  obtain ⟨c8, c9⟩ := c5
  clear hy
  go_upto_block 0 with (fail)
  have HJ := Lib.hid J1
  clear J1 J2
  go_cut [15, 16] (fun a _ wx => wx = w' ∧ ∃ q : Int, a = .int .u64 q ∧ 0 ≤ q ∧ Hid ((U * 4294967296 + V1) / D = q.toNat))
  case first =>
    go_wp2_with fail
    go_loop [15, 16] (fun a b => ∃ q r : Int, a = .int .u64 q ∧ b = .int .u64 r ∧ (0 ≤ q ∧ q ≤ 4294967297) ∧ (0 ≤ r ∧ r < 4294967296) ∧ Hid (RoundI D Y1 U V1 q.toNat r.toNat)) (fun a _ => (intOf a).toNat)
    case atStart => exact ⟨q0, r0, by rw [HJ.out], rfl, ⟨c8, c9⟩, ⟨c6, c7⟩, HR⟩
    case round =>
      obtain ⟨q, r, rfl, rfl, ⟨k1, k2⟩, ⟨k3, k4⟩, hI⟩ := hrel
      by_cases hbig : 4294967296 ≤ q
      · have ⟨HI, hq1⟩ : Hid (RoundI D Y1 U V1 (q - 1).toNat (r + y1).toNat) ∧ 1 ≤ q := by
          obtain ⟨⟨⟨⟨a1, a2⟩, a3, a4, a5, a6, a7⟩, hD0, hDle⟩, rfl, rfl, rfl, rfl, rfl, rfl⟩ := HA.out
          have hq' : 4294967296 ≤ q.toNat := by omega
          have k := round_big a6 a4 hI.out hq'
          rw [show (q - 1).toNat = q.toNat - 1 from by omega, show (r + (Y1 : Int)).toNat = r.toNat + Y1 from by omega]
          exact ⟨k.1, by omega⟩
        by_cases hbrk : 4294967296 ≤ r + y1
        · have HE : Hid ((U * 4294967296 + V1) / D = (q - 1).toNat) := by
            obtain ⟨⟨⟨⟨a1, a2⟩, a3, a4, a5, a6, a7⟩, hD0, hDle⟩, rfl, rfl, rfl, rfl, rfl, rfl⟩ := HA.out
            exact round_break hDle hD0 a3 HI.out (by omega) (by omega)
          go_wp2_with fail
          go_meet
          exact ⟨rfl, q - 1, rfl, by omega, HE⟩
        · go_wp2_with fail
          go_round
          case rel => exact ⟨q - 1, r + y1, rfl, rfl, ⟨by omega, by omega⟩, ⟨by omega, by omega⟩, HI⟩
          case measure => simp [intOf]; omega
      · obtain ⟨a, J3, k5, k6, HT⟩ : ∃ a : Int, q * y0 = a ∧ 0 ≤ a ∧ a < 18446744073709551616 ∧ Hid (a = ((q.toNat * Y0 : Nat) : Int)) := by
          obtain ⟨⟨⟨⟨a1, a2⟩, a3, a4, a5, a6, a7⟩, hD0, hDle⟩, rfl, rfl, rfl, rfl, rfl, rfl⟩ := HA.out
          have m : q.toNat * Y0 ≤ 4294967296 * 4294967295 := Nat.mul_le_mul (by omega) (by omega)
          refine ⟨((q.toNat * Y0 : Nat) : Int), mul_as (A := q.toNat) (by omega) rfl rfl rfl, by omega, by omega, rfl⟩
        by_cases ht : 4294967296 * r + v1 < a
        · have ⟨HI, hq1⟩ : Hid (RoundI D Y1 U V1 (q - 1).toNat (r + y1).toNat) ∧ 1 ≤ q := by
            obtain ⟨⟨⟨⟨a1, a2⟩, a3, a4, a5, a6, a7⟩, hD0, hDle⟩, rfl, rfl, rfl, rfl, rfl, rfl⟩ := HA.out
            have e := HT.out
            have k := round_more hDle hD0 hI.out (by generalize q.toNat * Y0 = z at *; omega)
            rw [show (q - 1).toNat = q.toNat - 1 from by omega, show (r + (Y1 : Int)).toNat = r.toNat + Y1 from by omega]
            exact ⟨k.1, by omega⟩
          by_cases hbrk : 4294967296 ≤ r + y1
          · have HE : Hid ((U * 4294967296 + V1) / D = (q - 1).toNat) := by
              obtain ⟨⟨⟨⟨a1, a2⟩, a3, a4, a5, a6, a7⟩, hD0, hDle⟩, rfl, rfl, rfl, rfl, rfl, rfl⟩ := HA.out
              exact round_break hDle hD0 a3 HI.out (by omega) (by omega)
            go_wp2_with fail
            go_meet
            exact ⟨rfl, q - 1, rfl, by omega, HE⟩
          · go_wp2_with fail
            go_round
            case rel => exact ⟨q - 1, r + y1, rfl, rfl, ⟨by omega, by omega⟩, ⟨by omega, by omega⟩, HI⟩
            case measure => simp [intOf]; omega
        · have HE : Hid ((U * 4294967296 + V1) / D = q.toNat) := by
            obtain ⟨⟨⟨⟨a1, a2⟩, a3, a4, a5, a6, a7⟩, hD0, hDle⟩, rfl, rfl, rfl, rfl, rfl, rfl⟩ := HA.out
            have e := HT.out
            exact round_done hDle hD0 hI.out (by generalize q.toNat * Y0 = z at *; omega)
          go_wp2_with fail
          go_meet
          exact ⟨rfl, q, rfl, by omega, HE⟩
  case rest =>
    obtain ⟨rfl, q1, rfl, z0, HQ1⟩ := hcut
    obtain ⟨M, m, J4, d1, d2, HM⟩ : ∃ (M : Nat) (m : Int), IntKind.u64.wrap (IntKind.u64.wrap (IntKind.u64.wrap (u * 4294967296) + v1) - IntKind.u64.wrap (q1 * d)) = m ∧ 0 ≤ m ∧ m < d ∧ Hid ((M : Int) = m ∧ M = (U * 4294967296 + V1) % D) := by
      obtain ⟨⟨⟨⟨a1, a2⟩, a3, a4, a5, a6, a7⟩, hD0, hDle⟩, rfl, rfl, rfl, rfl, rfl, rfl⟩ := HA.out
      have e := Nat.div_add_mod' (U * 4294967296 + V1) D
      have k := Nat.mod_lt (U * 4294967296 + V1) hD0
      rw [HQ1.out] at e
      refine ⟨(U * 4294967296 + V1) % D, (((U * 4294967296 + V1) % D : Nat) : Int), ?_, by omega, by omega, rfl, rfl⟩
      have x : q1 * (D : Int) = ((q1.toNat * D : Nat) : Int) := mul_as (A := q1.toNat) (by omega) rfl rfl rfl
      rw [wrap64_mod, wrap64_mod, wrap64_mod, wrap64_mod, x]
      generalize q1.toNat * D = z at *
      generalize (U * 4294967296 + V1) % D = m at *
      omega
    go_upto_region 22 with (fail)
    clear J4
    obtain ⟨q2, r2, p2, J5, J6, e1, e3, e4, e5, HR2⟩ : ∃ q0 r0 p0 : Int, m / y1 = q0 ∧ q0 * y1 = p0 ∧ 0 ≤ p0 ∧ m - p0 = r0 ∧ (0 ≤ r0 ∧ r0 < 4294967296) ∧ (0 ≤ q0 ∧ q0 ≤ 4294967297) ∧ Hid (RoundI D Y1 M V0 q0.toNat r0.toNat) := by
      obtain ⟨⟨⟨⟨a1, a2⟩, a3, a4, a5, a6, a7⟩, hD0, hDle⟩, rfl, rfl, rfl, rfl, rfl, rfl⟩ := HA.out
      obtain ⟨rfl, hM⟩ := HM.out
      have e := Nat.div_add_mod' M Y1
      have k := Nat.mod_lt M (show 0 < Y1 by omega)
      have kk := first_q (y0 := Y0) (u := M) a1 a3 (by omega)
      have S := start_round hDle a1 a5 rfl e
      have x1 : (M : Int) / (Y1 : Int) = ((M / Y1 : Nat) : Int) := by simp
      generalize M / Y1 = A at *
      generalize M % Y1 = B at *
      refine ⟨(A : Int), (B : Int), ((A * Y1 : Nat) : Int), x1, by simp, by omega, by omega, ⟨by omega, by omega⟩, ⟨by omega, by omega⟩, ?_⟩
      rw [Int.toNat_natCast, Int.toNat_natCast]
      exact S
    obtain ⟨e6, e7⟩ := e4
    obtain ⟨e8, e9⟩ := e5
    go_upto_block 2 with (fail)
    have HJ2 := Lib.hid J5
    clear J5 J6
    go_cut [18, 16] (fun a _ wx => wx = wc ∧ ∃ q : Int, a = .int .u64 q ∧ 0 ≤ q ∧ Hid ((M * 4294967296 + V0) / D = q.toNat))
    case first =>
      go_wp2_with fail
      go_loop [18, 16] (fun a b => ∃ q r : Int, a = .int .u64 q ∧ b = .int .u64 r ∧ (0 ≤ q ∧ q ≤ 4294967297) ∧ (0 ≤ r ∧ r < 4294967296) ∧ Hid (RoundI D Y1 M V0 q.toNat r.toNat)) (fun a _ => (intOf a).toNat)
      case atStart => exact ⟨q2, r2, by rw [HJ2.out], rfl, ⟨e8, e9⟩, ⟨e6, e7⟩, HR2⟩
      case round =>
        obtain ⟨q, r, rfl, rfl, ⟨k1, k2⟩, ⟨k3, k4⟩, hI⟩ := hrel
        by_cases hbig : 4294967296 ≤ q
        · have ⟨HI, hq1⟩ : Hid (RoundI D Y1 M V0 (q - 1).toNat (r + y1).toNat) ∧ 1 ≤ q := by
            obtain ⟨⟨⟨⟨a1, a2⟩, a3, a4, a5, a6, a7⟩, hD0, hDle⟩, rfl, rfl, rfl, rfl, rfl, rfl⟩ := HA.out
            have hMD : M < D := by have := HM.out.1; omega
            have hq' : 4294967296 ≤ q.toNat := by omega
            have k := round_big hMD a5 hI.out hq'
            rw [show (q - 1).toNat = q.toNat - 1 from by omega, show (r + (Y1 : Int)).toNat = r.toNat + Y1 from by omega]
            exact ⟨k.1, by omega⟩
          by_cases hbrk : 4294967296 ≤ r + y1
          · have HE : Hid ((M * 4294967296 + V0) / D = (q - 1).toNat) := by
              obtain ⟨⟨⟨⟨a1, a2⟩, a3, a4, a5, a6, a7⟩, hD0, hDle⟩, rfl, rfl, rfl, rfl, rfl, rfl⟩ := HA.out
              exact round_break hDle hD0 a3 HI.out (by omega) (by omega)
            go_wp2_with fail
            go_meet
            exact ⟨rfl, q - 1, rfl, by omega, HE⟩
          · go_wp2_with fail
            go_round
            case rel => exact ⟨q - 1, r + y1, rfl, rfl, ⟨by omega, by omega⟩, ⟨by omega, by omega⟩, HI⟩
            case measure => simp [intOf]; omega
        · obtain ⟨a, J3, k5, k6, HT⟩ : ∃ a : Int, q * y0 = a ∧ 0 ≤ a ∧ a < 18446744073709551616 ∧ Hid (a = ((q.toNat * Y0 : Nat) : Int)) := by
            obtain ⟨⟨⟨⟨a1, a2⟩, a3, a4, a5, a6, a7⟩, hD0, hDle⟩, rfl, rfl, rfl, rfl, rfl, rfl⟩ := HA.out
            have m : q.toNat * Y0 ≤ 4294967296 * 4294967295 := Nat.mul_le_mul (by omega) (by omega)
            refine ⟨((q.toNat * Y0 : Nat) : Int), mul_as (A := q.toNat) (by omega) rfl rfl rfl, by omega, by omega, rfl⟩
          by_cases ht : 4294967296 * r + v0 < a
          · have ⟨HI, hq1⟩ : Hid (RoundI D Y1 M V0 (q - 1).toNat (r + y1).toNat) ∧ 1 ≤ q := by
              obtain ⟨⟨⟨⟨a1, a2⟩, a3, a4, a5, a6, a7⟩, hD0, hDle⟩, rfl, rfl, rfl, rfl, rfl, rfl⟩ := HA.out
              have e := HT.out
              have k := round_more hDle hD0 hI.out (by generalize q.toNat * Y0 = z at *; omega)
              rw [show (q - 1).toNat = q.toNat - 1 from by omega, show (r + (Y1 : Int)).toNat = r.toNat + Y1 from by omega]
              exact ⟨k.1, by omega⟩
            by_cases hbrk : 4294967296 ≤ r + y1
            · have HE : Hid ((M * 4294967296 + V0) / D = (q - 1).toNat) := by
                obtain ⟨⟨⟨⟨a1, a2⟩, a3, a4, a5, a6, a7⟩, hD0, hDle⟩, rfl, rfl, rfl, rfl, rfl, rfl⟩ := HA.out
                exact round_break hDle hD0 a3 HI.out (by omega) (by omega)
              go_wp2_with fail
              go_meet
              exact ⟨rfl, q - 1, rfl, by omega, HE⟩
            · go_wp2_with fail
              go_round
              case rel => exact ⟨q - 1, r + y1, rfl, rfl, ⟨by omega, by omega⟩, ⟨by omega, by omega⟩, HI⟩
              case measure => simp [intOf]; omega
          · have HE : Hid ((M * 4294967296 + V0) / D = q.toNat) := by
              obtain ⟨⟨⟨⟨a1, a2⟩, a3, a4, a5, a6, a7⟩, hD0, hDle⟩, rfl, rfl, rfl, rfl, rfl, rfl⟩ := HA.out
              have e := HT.out
              exact round_done hDle hD0 hI.out (by generalize q.toNat * Y0 = z at *; omega)
            go_wp2_with fail
            go_meet
            exact ⟨rfl, q, rfl, by omega, HE⟩
    case rest =>
      obtain ⟨hwx, q3, rfl, z3, HQ3⟩ := hcut
      have ⟨E1, E2⟩ : Hid (IntKind.u64.wrap (IntKind.u64.wrap (q1 * 4294967296) + q3) = (((h * 18446744073709551616 + l) / y : Nat) : Int)) ∧ Hid (IntKind.u64.wrap (IntKind.u64.wrap (IntKind.u64.wrap (m * 4294967296) + v0) - IntKind.u64.wrap (q3 * d)) / 2 ^ s = (((h * 18446744073709551616 + l) % y : Nat) : Int)) := by
        obtain ⟨⟨⟨⟨a1, a2⟩, a3, a4, a5, a6, a7⟩, hD0, hDle⟩, rfl, rfl, rfl, rfl, rfl, rfl⟩ := HA.out
        obtain ⟨rfl, hM⟩ := HM.out
        have hq3 := HQ3.out
        rw [hM] at hq3
        obtain ⟨f1, f2, f3⟩ := long_div hh2 hl HH.out.2.1 HH.out.2.2 HQ1.out hq3
        have e := Nat.div_add_mod' ((U * 4294967296 + V1) % D * 4294967296 + V0) D
        have k := Nat.mod_lt ((U * 4294967296 + V1) % D * 4294967296 + V0) hD0
        rw [hq3, ← hM] at e
        rw [← hM] at f3 k
        constructor
        · show IntKind.u64.wrap (IntKind.u64.wrap (q1 * 4294967296) + q3) = _
          rw [wrap64_mod, wrap64_mod]
          exact quo_word f1 f2 z0 z3
        · show IntKind.u64.wrap (IntKind.u64.wrap (IntKind.u64.wrap ((M : Int) * 4294967296) + V0) - IntKind.u64.wrap (q3 * D)) / 2 ^ s = _
          have x : q3 * (D : Int) = ((q3.toNat * D : Nat) : Int) := mul_as (A := q3.toNat) (by omega) rfl rfl rfl
          have x2 : IntKind.u64.wrap (IntKind.u64.wrap (IntKind.u64.wrap ((M : Int) * 4294967296) + V0) - IntKind.u64.wrap (q3 * D)) = (((M * 4294967296 + V0) % D : Nat) : Int) := by
            rw [wrap64_mod, wrap64_mod, wrap64_mod, wrap64_mod, x]
            exact rem_word e k a7
          rw [x2, f3]
          have x3 : ((((h * 18446744073709551616 + l) % y * 2 ^ s : Nat) : Int)) / 2 ^ s = ((((h * 18446744073709551616 + l) % y * 2 ^ s) / 2 ^ s : Nat) : Int) := by simp
          rw [x3, Nat.mul_div_cancel _ (Nat.two_pow_pos _)]
      go_wp2_with fail
      go_ret2
      exact ⟨by rw [← E1.out, ← E2.out]; rfl, rfl⟩
end Go.Proofs.YtemmgehaddghfaaDoor
