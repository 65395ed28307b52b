/- THE WALKS over the wide integers of package frac. -/
import Derived.Test.YtemmgehaddghfaaDoorFracA
import Derived.Test.YtemmgehaddghfaaDoorShelf
import Derived.Shelf.Spec.BitsCarry
namespace Go.Proofs.YtemmgehaddghfaaDoor
open Go.RowKit

theorem wrap_neg (n : Int) (h1 : -1000000000000000 ≤ n) (h2 : n < 0) : IntKind.u64.wrap (-(IntKind.u64.wrap n)) = (n.natAbs : Int) := by
  simp [IntKind.wrap, IntKind.signed, IntKind.bits]; omega

theorem wrap_pos (n : Int) (h1 : 0 ≤ n) (h2 : n ≤ 1000000000000000) : IntKind.u64.wrap n = (n.natAbs : Int) := by
  simp [IntKind.wrap, IntKind.signed, IntKind.bits]; omega

set_option maxHeartbeats 400000 in
theorem frac_size (n : Int) (w : World) (h1 : -1000000000000000 ≤ n) (h2 : n ≤ 1000000000000000) :
    Calls Tryd.prog 55 #[.int .i64 n] w fun e w' => e = .returned (.int .u64 (n.natAbs : Int)) ∧ w = w' := by
  by_cases h : n < 0
  · have H := wrap_neg n h1 h
    go_enter Tryd.func55, Tryd.ntmps55
    go_wp2
    go_ret
    exact ⟨rfl, rfl⟩
  · have H := wrap_pos n (by omega) h2
    go_enter Tryd.func55, Tryd.ntmps55
    go_wp2
    go_ret
    exact ⟨rfl, rfl⟩

theorem bcell {W w1 : World} (hb : Below W.heap.size W w1) : (∀ b o, b < W.heap.size → w1.cell? ⟨b, o, none⟩ = W.cell? ⟨b, o, none⟩) ∧ (∀ b o, b < W.heap.size → w1.frozen? ⟨b, o, none⟩ = W.frozen? ⟨b, o, none⟩) :=
  ⟨fun b o h => hb.cell (p := ⟨b, o, none⟩) h, fun b o h => hb.frozen (p := ⟨b, o, none⟩) h⟩

/-- THE WORLD FORGOTTEN but for what F says of it -/
theorem forget_world {P : Program} {c : Code} {Q : Exit → Act → World → Prop} {a : Act} {W : World} (F : World → Prop) (h : F W) (k : ∀ W', F W' → Code.wp P c Q a W') : Code.wp P c Q a W := k W h

/-- two words hold a magnitude -/
def WB (h l : Int) (m : Nat) : Prop := (0 ≤ h ∧ h < 4611686018427387904) ∧ (0 ≤ l ∧ l < 18446744073709551616) ∧ h * 18446744073709551616 + l = m

theorem WB_of (m : Nat) (hm : m < 4611686018427387904 * 18446744073709551616) : WB ((m / 18446744073709551616 : Nat) : Int) ((m % 18446744073709551616 : Nat) : Int) m := by
  unfold WB; omega

/-- what a wide result is -/
def WideIs (s : Bool) (m : Nat) (w : World) (e : Ending) (w' : World) : Prop := ∃ h l : Int, e = .returned (.agg #[.bool s, .int .u64 h, .int .u64 l]) ∧ WB h l m ∧ Below w.heap.size w w'

theorem mul_lt_wide {a b : Int} (ha : -1000000000000000 ≤ a ∧ a ≤ 1000000000000000) (hb : -1000000000000000 ≤ b ∧ b ≤ 1000000000000000) : a.natAbs * b.natAbs ≤ 1000000000000000000000000000000 := by
  have : a.natAbs * b.natAbs ≤ 1000000000000000 * 1000000000000000 := Nat.mul_le_mul (by omega) (by omega)
  omega

set_option maxHeartbeats 800000 in
theorem frac_product (a b : Int) (w : World) (ha : -1000000000000000 ≤ a ∧ a ≤ 1000000000000000) (hb : -1000000000000000 ≤ b ∧ b ≤ 1000000000000000) :
    Calls Tryd.prog 37 #[.int .i64 a, .int .i64 b] w (WideIs (decide (a < 0) != decide (b < 0)) (a.natAbs * b.natAbs) w) := by
  have hM := Lib.hid (Tryd.bits_Mul64 a.natAbs b.natAbs (by omega) (by omega))
  have hW := Lib.hid (WB_of (a.natAbs * b.natAbs) (by have := mul_lt_wide ha hb; omega))
  generalize a.natAbs * b.natAbs = m at hM hW ⊢
  generalize hh : ((m / 18446744073709551616 : Nat) : Int) = h at hM hW ⊢
  generalize hl : ((m % 18446744073709551616 : Nat) : Int) = l at hM hW ⊢
  clear hh hl
  have a1 := ha.1
  have a2 := ha.2
  have b1 := hb.1
  have b2 := hb.2
  clear ha hb
  go_enter Tryd.func37, Tryd.ntmps37
  go_wp2_with (first | (go_at_call 55; refine (frac_size _ _ (by omega) (by omega)).mono ?_; rintro e w' ⟨rfl, rfl⟩) | (go_at_call 54; refine (hM.out _).mono ?_; rintro e w' ⟨rfl, rfl⟩))
  refine bodyPost_ret (v := .agg #[.bool (decide (a < 0) != decide (b < 0)), .int .u64 h, .int .u64 l]) ?_ rfl ⟨h, l, rfl, hW.out, (Below.refl _ _).alloc (Nat.le_refl _) _⟩
  simp [results, Tryd.results37, go_sem]
  cases decide (a < 0) <;> cases decide (b < 0) <;> rfl

/-- the law of the model's entry for Add64 -/
theorem add64 (x y c s k : Int) (hx : 0 ≤ x) (hy : 0 ≤ y) (hc : 0 ≤ c ∧ c ≤ 1) (e : x + y + c = k * 18446744073709551616 + s) (hs : 0 ≤ s ∧ s < 18446744073709551616) (w : World) :
    (callFunc 56 #[.int .u64 x, .int .u64 y, .int .u64 c]).run Tryd.prog w = .ok (.value (.tuple #[.int .u64 s, .int .u64 k])) w := by
  obtain ⟨x', rfl⟩ := Int.eq_ofNat_of_zero_le hx
  obtain ⟨y', rfl⟩ := Int.eq_ofNat_of_zero_le hy
  obtain ⟨c', rfl⟩ := Int.eq_ofNat_of_zero_le hc.1
  rw [run_callFunc_extern Tryd.func56 (by kernel_rfl) (by kernel_rfl) (by kernel_rfl) (e := add64Entry) (by kernel_rfl), run_add64 x' y' c' (by omega) (by omega) (by omega) (by omega)]
  have e1 : ((x' : Int) + y' + c') % 18446744073709551616 = s := by omega
  have e2 : ((x' : Int) + y' + c') / 18446744073709551616 = k := by omega
  simp only [Result.andThen, e1, e2]

theorem sub64 (x y b s k : Int) (hx : 0 ≤ x ∧ x < 18446744073709551616) (hy : 0 ≤ y ∧ y < 18446744073709551616) (hb : 0 ≤ b ∧ b ≤ 1) (e : x - y - b = s - k * 18446744073709551616) (hs : 0 ≤ s ∧ s < 18446744073709551616) (w : World) :
    (callFunc 58 #[.int .u64 x, .int .u64 y, .int .u64 b]).run Tryd.prog w = .ok (.value (.tuple #[.int .u64 s, .int .u64 k])) w := by
  obtain ⟨x', rfl⟩ := Int.eq_ofNat_of_zero_le hx.1
  obtain ⟨y', rfl⟩ := Int.eq_ofNat_of_zero_le hy.1
  obtain ⟨b', rfl⟩ := Int.eq_ofNat_of_zero_le hb.1
  rw [run_callFunc_extern Tryd.func58 (by kernel_rfl) (by kernel_rfl) (by kernel_rfl) (e := sub64Entry) (by kernel_rfl), run_sub64 x' y' b' (by omega)]
  have e1 : (((x' + 18446744073709551616 - y' - b') % 18446744073709551616 : Nat) : Int) = s := by omega
  have e2 : ((if x' < y' + b' then 1 else 0 : Nat) : Int) = k := by split <;> omega
  rw [e1, e2]
  rfl

set_option maxHeartbeats 800000 in
theorem wide_less (s1 s2 : Bool) (h1 l1 h2 l2 : Int) (m1 m2 : Nat) (w : World) (W1 : WB h1 l1 m1) (W2 : WB h2 l2 m2) :
    Calls Tryd.prog 57 #[.agg #[.bool s1, .int .u64 h1, .int .u64 l1], .agg #[.bool s2, .int .u64 h2, .int .u64 l2]] w fun e w' => e = .returned (.bool (decide (m1 < m2))) ∧ Below w.heap.size w w' := by
  have hb0 := ((Below.refl w.heap.size w).alloc (Nat.le_refl _) (.cells #[.bool s1, .int .u64 h1, .int .u64 l1] 43)).alloc (by simp) (.cells #[.bool s2, .int .u64 h2, .int .u64 l2] 43)
  have HW := Lib.hid (And.intro W1 W2)
  clear W1 W2
  by_cases g1 : h1 < h2
  · have HR : Hid (decide (m1 < m2) = true) := by have := HW.out; unfold WB at this; exact decide_eq_true (by omega)
    go_enter Tryd.func57, Tryd.ntmps57
    go_wp2
    go_ret
    exact ⟨ret_bool HR.out.symm, hb0⟩
  · by_cases g2 : h2 < h1
    · have HR : Hid (decide (m1 < m2) = false) := by have := HW.out; unfold WB at this; exact decide_eq_false (by omega)
      have g3 : (h1 == h2) = false := beq_eq_false_iff_ne.2 (by omega)
      go_enter Tryd.func57, Tryd.ntmps57
      go_wp2
      go_ret
      exact ⟨ret_bool HR.out.symm, hb0⟩
    · obtain rfl : h1 = h2 := by omega
      have HR : Hid (decide (m1 < m2) = decide (l1 < l2)) := by
        have := HW.out; unfold WB at this
        by_cases k : l1 < l2
        · rw [decide_eq_true k]; exact decide_eq_true (by omega)
        · rw [decide_eq_false k]; exact decide_eq_false (by omega)
      go_enter Tryd.func57, Tryd.ntmps57
      go_wp2
      go_ret
      exact ⟨ret_bool HR.out.symm, hb0⟩

/-- the sum of two wide integers -/
def plusW (s1 : Bool) (m1 : Nat) (s2 : Bool) (m2 : Nat) : Bool × Nat :=
  if s1 = s2 then (s1, m1 + m2) else if m1 < m2 then (s2, m2 - m1) else (s1, m1 - m2)

theorem add_words {h1 l1 h2 l2 : Int} {m1 m2 : Nat} (W1 : WB h1 l1 m1) (W2 : WB h2 l2 m2) (hm : m1 + m2 < 85070591730234615865843651857942052864) :
    ∃ lo c hi : Int, l1 + l2 + 0 = c * 18446744073709551616 + lo ∧ (0 ≤ lo ∧ lo < 18446744073709551616) ∧ (0 ≤ c ∧ c ≤ 1) ∧ h1 + h2 + c = 0 * 18446744073709551616 + hi ∧ (0 ≤ hi ∧ hi < 18446744073709551616) ∧ WB hi lo (m1 + m2) := by
  unfold WB at *
  refine ⟨(l1 + l2) % 18446744073709551616, (l1 + l2) / 18446744073709551616, h1 + h2 + (l1 + l2) / 18446744073709551616, ?_, ?_, ?_, ?_, ?_, ?_⟩ <;> omega

theorem sub_words {h1 l1 h2 l2 : Int} {m1 m2 : Nat} (W1 : WB h1 l1 m1) (W2 : WB h2 l2 m2) (hm : m2 ≤ m1) :
    ∃ lo c hi : Int, l1 - l2 - 0 = lo - c * 18446744073709551616 ∧ (0 ≤ lo ∧ lo < 18446744073709551616) ∧ (0 ≤ c ∧ c ≤ 1) ∧ h1 - h2 - c = hi - 0 * 18446744073709551616 ∧ (0 ≤ hi ∧ hi < 18446744073709551616) ∧ WB hi lo (m1 - m2) := by
  unfold WB at *
  refine ⟨(l1 - l2) % 18446744073709551616, -((l1 - l2) / 18446744073709551616), h1 - h2 + (l1 - l2) / 18446744073709551616, ?_, ?_, ?_, ?_, ?_, ?_⟩ <;> omega

set_option maxHeartbeats 1600000 in
theorem wide_plus_same (s : Bool) (h1 l1 h2 l2 : Int) (m1 m2 : Nat) (w : World) (W1 : WB h1 l1 m1) (W2 : WB h2 l2 m2) (hm : m1 + m2 < 85070591730234615865843651857942052864) :
    Calls Tryd.prog 38 #[.agg #[.bool s, .int .u64 h1, .int .u64 l1], .agg #[.bool s, .int .u64 h2, .int .u64 l2]] w (WideIs s (m1 + m2) w) := by
  obtain ⟨lo, c, hi, e1, b1, b2, e2, b3, W⟩ := add_words W1 W2 hm
  have A1 := add64 l1 l2 0 lo c W1.2.1.1 W2.2.1.1 (by omega) e1 b1
  have A2 := add64 h1 h2 c hi 0 W1.1.1 W2.1.1 b2 e2 b3
  have HW := Lib.hid W
  clear e1 e2 b1 b2 b3 W W1 W2
  cases s
  · go_enter Tryd.func38, Tryd.ntmps38
    go_wp2_with fail
    refine bodyPost_ret (v := .agg #[.bool false, .int .u64 hi, .int .u64 lo]) (by simp [results, Tryd.results38, go_sem]) rfl ⟨hi, lo, rfl, HW.out, ?_⟩
    exact (by repeat (first | with_reducible exact Below.refl _ _ | with_reducible assumption | (with_reducible refine Below.setCell ?_ (by first | (simp; done) | (simp; omega)) _) | (with_reducible refine Below.alloc ?_ (by first | exact Nat.le_refl _ | (simp; done) | (simp; omega)) _)))
  · go_enter Tryd.func38, Tryd.ntmps38
    go_wp2_with fail
    refine bodyPost_ret (v := .agg #[.bool true, .int .u64 hi, .int .u64 lo]) (by simp [results, Tryd.results38, go_sem]) rfl ⟨hi, lo, rfl, HW.out, ?_⟩
    exact (by repeat (first | with_reducible exact Below.refl _ _ | with_reducible assumption | (with_reducible refine Below.setCell ?_ (by first | (simp; done) | (simp; omega)) _) | (with_reducible refine Below.alloc ?_ (by first | exact Nat.le_refl _ | (simp; done) | (simp; omega)) _)))

set_option maxHeartbeats 1600000 in
theorem wide_plus_tge (h1 l1 h2 l2 : Int) (m1 m2 : Nat) (w : World) (W1 : WB h1 l1 m1) (W2 : WB h2 l2 m2) (hm : ¬ m1 < m2) :
    Calls Tryd.prog 38 #[.agg #[.bool true, .int .u64 h1, .int .u64 l1], .agg #[.bool false, .int .u64 h2, .int .u64 l2]] w (WideIs true (m1 - m2) w) := by
  obtain ⟨lo, c, hi, e1, b1, b2, e2, b3, W⟩ := sub_words W1 W2 (by omega)
  have x1 : 0 ≤ h1 ∧ h1 < 18446744073709551616 := by have := W1.1; omega
  have x2 : 0 ≤ h2 ∧ h2 < 18446744073709551616 := by have := W2.1; omega
  have A1 := sub64 l1 l2 0 lo c W1.2.1 W2.2.1 (by omega) e1 b1
  have A2 := sub64 h1 h2 c hi 0 x1 x2 b2 e2 b3
  have HW := Lib.hid W
  have HL := fun w => wide_less true false h1 l1 h2 l2 m1 m2 w W1 W2
  rw [decide_eq_false hm] at HL
  have HL' := Lib.hid HL
  clear e1 e2 b1 b2 b3 W W1 W2 HL x1 x2
  go_enter Tryd.func38, Tryd.ntmps38
  go_wp2_with fail
  refine (HL'.out _).mono ?_
  rintro e w2 ⟨rfl, hb2⟩
  obtain ⟨hc, hf⟩ := bcell hb2
  have hz : w.heap.size + 1 + 1 < w2.heap.size := by have := hb2.size; simp at this; omega
  have hbA : Below w.heap.size w w2 := Below.trans (b := _) ?hpre (hb2.mono (by simp <;> omega))
  case hpre => exact (by repeat (first | with_reducible exact Below.refl _ _ | with_reducible assumption | (with_reducible refine Below.setCell ?_ (by first | (simp; done) | (simp; omega)) _) | (with_reducible refine Below.alloc ?_ (by first | exact Nat.le_refl _ | (simp; done) | (simp; omega)) _)))
  go_wp2_with fail
  obtain ⟨hc, hf⟩ := bcell hb2
  refine bodyPost_ret (v := .agg #[.bool true, .int .u64 hi, .int .u64 lo]) (by simp [results, Tryd.results38, go_sem, hc]) rfl ⟨hi, lo, rfl, HW.out, ?_⟩
  exact (by repeat (first | with_reducible exact Below.refl _ _ | with_reducible assumption | (with_reducible refine Below.setCell ?_ (by first | (simp; done) | (simp; omega)) _) | (with_reducible refine Below.alloc ?_ (by first | exact Nat.le_refl _ | (simp; done) | (simp; omega)) _)))

set_option maxHeartbeats 1600000 in
theorem wide_plus_tlt (h1 l1 h2 l2 : Int) (m1 m2 : Nat) (w : World) (W1 : WB h1 l1 m1) (W2 : WB h2 l2 m2) (hm : m1 < m2) :
    Calls Tryd.prog 38 #[.agg #[.bool true, .int .u64 h1, .int .u64 l1], .agg #[.bool false, .int .u64 h2, .int .u64 l2]] w (WideIs false (m2 - m1) w) := by
  obtain ⟨lo, c, hi, e1, b1, b2, e2, b3, W⟩ := sub_words W2 W1 (by omega)
  have x1 : 0 ≤ h1 ∧ h1 < 18446744073709551616 := by have := W1.1; omega
  have x2 : 0 ≤ h2 ∧ h2 < 18446744073709551616 := by have := W2.1; omega
  have A1 := sub64 l2 l1 0 lo c W2.2.1 W1.2.1 (by omega) e1 b1
  have A2 := sub64 h2 h1 c hi 0 x2 x1 b2 e2 b3
  have HW := Lib.hid W
  have HL := fun w => wide_less true false h1 l1 h2 l2 m1 m2 w W1 W2
  rw [decide_eq_true hm] at HL
  have HL' := Lib.hid HL
  clear e1 e2 b1 b2 b3 W W1 W2 HL x1 x2
  go_enter Tryd.func38, Tryd.ntmps38
  go_wp2_with fail
  refine (HL'.out _).mono ?_
  rintro e w2 ⟨rfl, hb2⟩
  obtain ⟨hc, hf⟩ := bcell hb2
  have c00 : w2.cell? ⟨w.heap.size, 0, none⟩ = some (.bool true) := by rw [hc _ _ (by simp <;> omega)]; go_simp
  have f00 : w2.frozen? ⟨w.heap.size, 0, none⟩ = false := by rw [hf _ _ (by simp <;> omega)]; go_simp
  have c01 : w2.cell? ⟨w.heap.size, 1, none⟩ = some (.int .u64 h1) := by rw [hc _ _ (by simp <;> omega)]; go_simp
  have f01 : w2.frozen? ⟨w.heap.size, 1, none⟩ = false := by rw [hf _ _ (by simp <;> omega)]; go_simp
  have c02 : w2.cell? ⟨w.heap.size, 2, none⟩ = some (.int .u64 l1) := by rw [hc _ _ (by simp <;> omega)]; go_simp
  have f02 : w2.frozen? ⟨w.heap.size, 2, none⟩ = false := by rw [hf _ _ (by simp <;> omega)]; go_simp
  have c10 : w2.cell? ⟨w.heap.size + 1, 0, none⟩ = some (.bool false) := by rw [hc _ _ (by simp <;> omega)]; go_simp
  have f10 : w2.frozen? ⟨w.heap.size + 1, 0, none⟩ = false := by rw [hf _ _ (by simp <;> omega)]; go_simp
  have c11 : w2.cell? ⟨w.heap.size + 1, 1, none⟩ = some (.int .u64 h2) := by rw [hc _ _ (by simp <;> omega)]; go_simp
  have f11 : w2.frozen? ⟨w.heap.size + 1, 1, none⟩ = false := by rw [hf _ _ (by simp <;> omega)]; go_simp
  have c12 : w2.cell? ⟨w.heap.size + 1, 2, none⟩ = some (.int .u64 l2) := by rw [hc _ _ (by simp <;> omega)]; go_simp
  have f12 : w2.frozen? ⟨w.heap.size + 1, 2, none⟩ = false := by rw [hf _ _ (by simp <;> omega)]; go_simp
  have c20 : w2.cell? ⟨w.heap.size + 1 + 1, 0, none⟩ = some (.bool false) := by rw [hc _ _ (by simp <;> omega)]; go_simp
  have f20 : w2.frozen? ⟨w.heap.size + 1 + 1, 0, none⟩ = false := by rw [hf _ _ (by simp <;> omega)]; go_simp
  have c21 : w2.cell? ⟨w.heap.size + 1 + 1, 1, none⟩ = some (.int .u64 0) := by rw [hc _ _ (by simp <;> omega)]; go_simp
  have f21 : w2.frozen? ⟨w.heap.size + 1 + 1, 1, none⟩ = false := by rw [hf _ _ (by simp <;> omega)]; go_simp
  have c22 : w2.cell? ⟨w.heap.size + 1 + 1, 2, none⟩ = some (.int .u64 0) := by rw [hc _ _ (by simp <;> omega)]; go_simp
  have f22 : w2.frozen? ⟨w.heap.size + 1 + 1, 2, none⟩ = false := by rw [hf _ _ (by simp <;> omega)]; go_simp
  have hz : w.heap.size + 1 + 1 < w2.heap.size := by have := hb2.size; simp at this; omega
  have hbA : Below w.heap.size w w2 := Below.trans (b := _) ?hpre (hb2.mono (by simp <;> omega))
  case hpre => exact (by repeat (first | with_reducible exact Below.refl _ _ | with_reducible assumption | (with_reducible refine Below.setCell ?_ (by first | (simp; done) | (simp; omega)) _) | (with_reducible refine Below.alloc ?_ (by first | exact Nat.le_refl _ | (simp; done) | (simp; omega)) _)))
  clear hc hf hb2
  go_upto_region 7 with (fail)
  refine forget_world (fun W => (Below w.heap.size w W ∧ w.heap.size + 1 + 1 < W.heap.size) ∧ (W.cell? ⟨w.heap.size, 0, none⟩ = some (.bool false) ∧ W.frozen? ⟨w.heap.size, 0, none⟩ = false) ∧ (W.cell? ⟨w.heap.size, 1, none⟩ = some (.int .u64 h2) ∧ W.frozen? ⟨w.heap.size, 1, none⟩ = false) ∧ (W.cell? ⟨w.heap.size, 2, none⟩ = some (.int .u64 l2) ∧ W.frozen? ⟨w.heap.size, 2, none⟩ = false) ∧ (W.cell? ⟨w.heap.size + 1, 0, none⟩ = some (.bool true) ∧ W.frozen? ⟨w.heap.size + 1, 0, none⟩ = false) ∧ (W.cell? ⟨w.heap.size + 1, 1, none⟩ = some (.int .u64 h1) ∧ W.frozen? ⟨w.heap.size + 1, 1, none⟩ = false) ∧ (W.cell? ⟨w.heap.size + 1, 2, none⟩ = some (.int .u64 l1) ∧ W.frozen? ⟨w.heap.size + 1, 2, none⟩ = false) ∧ (W.cell? ⟨w.heap.size + 1 + 1, 0, none⟩ = some (.bool false) ∧ W.frozen? ⟨w.heap.size + 1 + 1, 0, none⟩ = false) ∧ (W.cell? ⟨w.heap.size + 1 + 1, 1, none⟩ = some (.int .u64 0) ∧ W.frozen? ⟨w.heap.size + 1 + 1, 1, none⟩ = false) ∧ (W.cell? ⟨w.heap.size + 1 + 1, 2, none⟩ = some (.int .u64 0) ∧ W.frozen? ⟨w.heap.size + 1 + 1, 2, none⟩ = false)) ⟨⟨(by repeat (first | with_reducible exact Below.refl _ _ | with_reducible assumption | (with_reducible refine Below.setCell ?_ (by first | (simp; done) | (simp; omega)) _) | (with_reducible refine Below.alloc ?_ (by first | exact Nat.le_refl _ | (simp; done) | (simp; omega)) _))), by go_simp⟩, ⟨by go_simp, by go_simp⟩, ⟨by go_simp, by go_simp⟩, ⟨by go_simp, by go_simp⟩, ⟨by go_simp, by go_simp⟩, ⟨by go_simp, by go_simp⟩, ⟨by go_simp, by go_simp⟩, ⟨by go_simp, by go_simp⟩, ⟨by go_simp, by go_simp⟩, ⟨by go_simp, by go_simp⟩⟩ ?_
  rintro W ⟨⟨hbB, hzB⟩, ⟨d00, g00⟩, ⟨d01, g01⟩, ⟨d02, g02⟩, ⟨d10, g10⟩, ⟨d11, g11⟩, ⟨d12, g12⟩, ⟨d20, g20⟩, ⟨d21, g21⟩, ⟨d22, g22⟩⟩
  clear hbA hz c00 c01 c02 c10 c11 c12 c20 c21 c22 f00 f01 f02 f10 f11 f12 f20 f21 f22
  go_wp2_with fail
  refine bodyPost_ret (v := .agg #[.bool false, .int .u64 hi, .int .u64 lo]) (by simp [results, Tryd.results38, go_sem, *]) rfl ⟨hi, lo, rfl, HW.out, ?_⟩
  exact (by repeat (first | with_reducible exact Below.refl _ _ | with_reducible assumption | (with_reducible refine Below.setCell ?_ (by first | (simp; done) | (simp; omega)) _) | (with_reducible refine Below.alloc ?_ (by first | exact Nat.le_refl _ | (simp; done) | (simp; omega)) _)))

set_option maxHeartbeats 1600000 in
theorem wide_plus_fge (h1 l1 h2 l2 : Int) (m1 m2 : Nat) (w : World) (W1 : WB h1 l1 m1) (W2 : WB h2 l2 m2) (hm : ¬ m1 < m2) :
    Calls Tryd.prog 38 #[.agg #[.bool false, .int .u64 h1, .int .u64 l1], .agg #[.bool true, .int .u64 h2, .int .u64 l2]] w (WideIs false (m1 - m2) w) := by
  obtain ⟨lo, c, hi, e1, b1, b2, e2, b3, W⟩ := sub_words W1 W2 (by omega)
  have x1 : 0 ≤ h1 ∧ h1 < 18446744073709551616 := by have := W1.1; omega
  have x2 : 0 ≤ h2 ∧ h2 < 18446744073709551616 := by have := W2.1; omega
  have A1 := sub64 l1 l2 0 lo c W1.2.1 W2.2.1 (by omega) e1 b1
  have A2 := sub64 h1 h2 c hi 0 x1 x2 b2 e2 b3
  have HW := Lib.hid W
  have HL := fun w => wide_less false true h1 l1 h2 l2 m1 m2 w W1 W2
  rw [decide_eq_false hm] at HL
  have HL' := Lib.hid HL
  clear e1 e2 b1 b2 b3 W W1 W2 HL x1 x2
  go_enter Tryd.func38, Tryd.ntmps38
  go_wp2_with fail
  refine (HL'.out _).mono ?_
  rintro e w2 ⟨rfl, hb2⟩
  obtain ⟨hc, hf⟩ := bcell hb2
  have hz : w.heap.size + 1 + 1 < w2.heap.size := by have := hb2.size; simp at this; omega
  have hbA : Below w.heap.size w w2 := Below.trans (b := _) ?hpre (hb2.mono (by simp <;> omega))
  case hpre => exact (by repeat (first | with_reducible exact Below.refl _ _ | with_reducible assumption | (with_reducible refine Below.setCell ?_ (by first | (simp; done) | (simp; omega)) _) | (with_reducible refine Below.alloc ?_ (by first | exact Nat.le_refl _ | (simp; done) | (simp; omega)) _)))
  go_wp2_with fail
  obtain ⟨hc, hf⟩ := bcell hb2
  refine bodyPost_ret (v := .agg #[.bool false, .int .u64 hi, .int .u64 lo]) (by simp [results, Tryd.results38, go_sem, hc]) rfl ⟨hi, lo, rfl, HW.out, ?_⟩
  exact (by repeat (first | with_reducible exact Below.refl _ _ | with_reducible assumption | (with_reducible refine Below.setCell ?_ (by first | (simp; done) | (simp; omega)) _) | (with_reducible refine Below.alloc ?_ (by first | exact Nat.le_refl _ | (simp; done) | (simp; omega)) _)))

set_option maxHeartbeats 1600000 in
theorem wide_plus_flt (h1 l1 h2 l2 : Int) (m1 m2 : Nat) (w : World) (W1 : WB h1 l1 m1) (W2 : WB h2 l2 m2) (hm : m1 < m2) :
    Calls Tryd.prog 38 #[.agg #[.bool false, .int .u64 h1, .int .u64 l1], .agg #[.bool true, .int .u64 h2, .int .u64 l2]] w (WideIs true (m2 - m1) w) := by
  obtain ⟨lo, c, hi, e1, b1, b2, e2, b3, W⟩ := sub_words W2 W1 (by omega)
  have x1 : 0 ≤ h1 ∧ h1 < 18446744073709551616 := by have := W1.1; omega
  have x2 : 0 ≤ h2 ∧ h2 < 18446744073709551616 := by have := W2.1; omega
  have A1 := sub64 l2 l1 0 lo c W2.2.1 W1.2.1 (by omega) e1 b1
  have A2 := sub64 h2 h1 c hi 0 x2 x1 b2 e2 b3
  have HW := Lib.hid W
  have HL := fun w => wide_less false true h1 l1 h2 l2 m1 m2 w W1 W2
  rw [decide_eq_true hm] at HL
  have HL' := Lib.hid HL
  clear e1 e2 b1 b2 b3 W W1 W2 HL x1 x2
  go_enter Tryd.func38, Tryd.ntmps38
  go_wp2_with fail
  refine (HL'.out _).mono ?_
  rintro e w2 ⟨rfl, hb2⟩
  obtain ⟨hc, hf⟩ := bcell hb2
  have c00 : w2.cell? ⟨w.heap.size, 0, none⟩ = some (.bool false) := by rw [hc _ _ (by simp <;> omega)]; go_simp
  have f00 : w2.frozen? ⟨w.heap.size, 0, none⟩ = false := by rw [hf _ _ (by simp <;> omega)]; go_simp
  have c01 : w2.cell? ⟨w.heap.size, 1, none⟩ = some (.int .u64 h1) := by rw [hc _ _ (by simp <;> omega)]; go_simp
  have f01 : w2.frozen? ⟨w.heap.size, 1, none⟩ = false := by rw [hf _ _ (by simp <;> omega)]; go_simp
  have c02 : w2.cell? ⟨w.heap.size, 2, none⟩ = some (.int .u64 l1) := by rw [hc _ _ (by simp <;> omega)]; go_simp
  have f02 : w2.frozen? ⟨w.heap.size, 2, none⟩ = false := by rw [hf _ _ (by simp <;> omega)]; go_simp
  have c10 : w2.cell? ⟨w.heap.size + 1, 0, none⟩ = some (.bool true) := by rw [hc _ _ (by simp <;> omega)]; go_simp
  have f10 : w2.frozen? ⟨w.heap.size + 1, 0, none⟩ = false := by rw [hf _ _ (by simp <;> omega)]; go_simp
  have c11 : w2.cell? ⟨w.heap.size + 1, 1, none⟩ = some (.int .u64 h2) := by rw [hc _ _ (by simp <;> omega)]; go_simp
  have f11 : w2.frozen? ⟨w.heap.size + 1, 1, none⟩ = false := by rw [hf _ _ (by simp <;> omega)]; go_simp
  have c12 : w2.cell? ⟨w.heap.size + 1, 2, none⟩ = some (.int .u64 l2) := by rw [hc _ _ (by simp <;> omega)]; go_simp
  have f12 : w2.frozen? ⟨w.heap.size + 1, 2, none⟩ = false := by rw [hf _ _ (by simp <;> omega)]; go_simp
  have c20 : w2.cell? ⟨w.heap.size + 1 + 1, 0, none⟩ = some (.bool false) := by rw [hc _ _ (by simp <;> omega)]; go_simp
  have f20 : w2.frozen? ⟨w.heap.size + 1 + 1, 0, none⟩ = false := by rw [hf _ _ (by simp <;> omega)]; go_simp
  have c21 : w2.cell? ⟨w.heap.size + 1 + 1, 1, none⟩ = some (.int .u64 0) := by rw [hc _ _ (by simp <;> omega)]; go_simp
  have f21 : w2.frozen? ⟨w.heap.size + 1 + 1, 1, none⟩ = false := by rw [hf _ _ (by simp <;> omega)]; go_simp
  have c22 : w2.cell? ⟨w.heap.size + 1 + 1, 2, none⟩ = some (.int .u64 0) := by rw [hc _ _ (by simp <;> omega)]; go_simp
  have f22 : w2.frozen? ⟨w.heap.size + 1 + 1, 2, none⟩ = false := by rw [hf _ _ (by simp <;> omega)]; go_simp
  have hz : w.heap.size + 1 + 1 < w2.heap.size := by have := hb2.size; simp at this; omega
  have hbA : Below w.heap.size w w2 := Below.trans (b := _) ?hpre (hb2.mono (by simp <;> omega))
  case hpre => exact (by repeat (first | with_reducible exact Below.refl _ _ | with_reducible assumption | (with_reducible refine Below.setCell ?_ (by first | (simp; done) | (simp; omega)) _) | (with_reducible refine Below.alloc ?_ (by first | exact Nat.le_refl _ | (simp; done) | (simp; omega)) _)))
  clear hc hf hb2
  go_upto_region 7 with (fail)
  refine forget_world (fun W => (Below w.heap.size w W ∧ w.heap.size + 1 + 1 < W.heap.size) ∧ (W.cell? ⟨w.heap.size, 0, none⟩ = some (.bool true) ∧ W.frozen? ⟨w.heap.size, 0, none⟩ = false) ∧ (W.cell? ⟨w.heap.size, 1, none⟩ = some (.int .u64 h2) ∧ W.frozen? ⟨w.heap.size, 1, none⟩ = false) ∧ (W.cell? ⟨w.heap.size, 2, none⟩ = some (.int .u64 l2) ∧ W.frozen? ⟨w.heap.size, 2, none⟩ = false) ∧ (W.cell? ⟨w.heap.size + 1, 0, none⟩ = some (.bool false) ∧ W.frozen? ⟨w.heap.size + 1, 0, none⟩ = false) ∧ (W.cell? ⟨w.heap.size + 1, 1, none⟩ = some (.int .u64 h1) ∧ W.frozen? ⟨w.heap.size + 1, 1, none⟩ = false) ∧ (W.cell? ⟨w.heap.size + 1, 2, none⟩ = some (.int .u64 l1) ∧ W.frozen? ⟨w.heap.size + 1, 2, none⟩ = false) ∧ (W.cell? ⟨w.heap.size + 1 + 1, 0, none⟩ = some (.bool false) ∧ W.frozen? ⟨w.heap.size + 1 + 1, 0, none⟩ = false) ∧ (W.cell? ⟨w.heap.size + 1 + 1, 1, none⟩ = some (.int .u64 0) ∧ W.frozen? ⟨w.heap.size + 1 + 1, 1, none⟩ = false) ∧ (W.cell? ⟨w.heap.size + 1 + 1, 2, none⟩ = some (.int .u64 0) ∧ W.frozen? ⟨w.heap.size + 1 + 1, 2, none⟩ = false)) ⟨⟨(by repeat (first | with_reducible exact Below.refl _ _ | with_reducible assumption | (with_reducible refine Below.setCell ?_ (by first | (simp; done) | (simp; omega)) _) | (with_reducible refine Below.alloc ?_ (by first | exact Nat.le_refl _ | (simp; done) | (simp; omega)) _))), by go_simp⟩, ⟨by go_simp, by go_simp⟩, ⟨by go_simp, by go_simp⟩, ⟨by go_simp, by go_simp⟩, ⟨by go_simp, by go_simp⟩, ⟨by go_simp, by go_simp⟩, ⟨by go_simp, by go_simp⟩, ⟨by go_simp, by go_simp⟩, ⟨by go_simp, by go_simp⟩, ⟨by go_simp, by go_simp⟩⟩ ?_
  rintro W ⟨⟨hbB, hzB⟩, ⟨d00, g00⟩, ⟨d01, g01⟩, ⟨d02, g02⟩, ⟨d10, g10⟩, ⟨d11, g11⟩, ⟨d12, g12⟩, ⟨d20, g20⟩, ⟨d21, g21⟩, ⟨d22, g22⟩⟩
  clear hbA hz c00 c01 c02 c10 c11 c12 c20 c21 c22 f00 f01 f02 f10 f11 f12 f20 f21 f22
  go_wp2_with fail
  refine bodyPost_ret (v := .agg #[.bool true, .int .u64 hi, .int .u64 lo]) (by simp [results, Tryd.results38, go_sem, *]) rfl ⟨hi, lo, rfl, HW.out, ?_⟩
  exact (by repeat (first | with_reducible exact Below.refl _ _ | with_reducible assumption | (with_reducible refine Below.setCell ?_ (by first | (simp; done) | (simp; omega)) _) | (with_reducible refine Below.alloc ?_ (by first | exact Nat.le_refl _ | (simp; done) | (simp; omega)) _)))

theorem wide_plus (s1 s2 : Bool) (h1 l1 h2 l2 : Int) (m1 m2 : Nat) (w : World) (W1 : WB h1 l1 m1) (W2 : WB h2 l2 m2) (hm : m1 + m2 < 85070591730234615865843651857942052864) :
    Calls Tryd.prog 38 #[.agg #[.bool s1, .int .u64 h1, .int .u64 l1], .agg #[.bool s2, .int .u64 h2, .int .u64 l2]] w (WideIs (plusW s1 m1 s2 m2).1 (plusW s1 m1 s2 m2).2 w) := by
  unfold plusW
  by_cases hs : s1 = s2
  · subst hs; rw [if_pos rfl]; exact wide_plus_same s1 h1 l1 h2 l2 m1 m2 w W1 W2 hm
  · rw [if_neg hs]
    by_cases hlt : m1 < m2
    · rw [if_pos hlt]
      cases s1 <;> cases s2
      · exact absurd rfl hs
      · exact wide_plus_flt h1 l1 h2 l2 m1 m2 w W1 W2 hlt
      · exact wide_plus_tlt h1 l1 h2 l2 m1 m2 w W1 W2 hlt
      · exact absurd rfl hs
    · rw [if_neg hlt]
      cases s1 <;> cases s2
      · exact absurd rfl hs
      · exact wide_plus_fge h1 l1 h2 l2 m1 m2 w W1 W2 hlt
      · exact wide_plus_tge h1 l1 h2 l2 m1 m2 w W1 W2 hlt
      · exact absurd rfl hs
end Go.Proofs.YtemmgehaddghfaaDoor
