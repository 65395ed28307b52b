/- THE WALKS over the laws of chapter 1, fourth part. -/
import Derived.Test.YtbknklhkhcbioaaDoorNumLawC
import Derived.Deep.Cut
namespace Go.Proofs.YtbknklhkhcbioaaDoor
open Go.RowKit

set_option maxRecDepth 100000 in
set_option maxHeartbeats 1600000 in
theorem law_NumDivides_out (a b d : Int) (w : World) (hw : LaidW w) (h : bothB a b = false) :
    Calls Tryd.prog 5 #[.int .i64 a, .int .i64 b, .int .u8 d] w fun e w' => e = .returned (.bool true) ∧ Below w.heap.size w w' := by
  have g1 := divB_out h
  have g2 := gcdV_no h
  rcases inB_cases a with ⟨ha, ha1, ha2⟩ | ⟨ha, ha1⟩
  · rcases inB_cases b with ⟨hb, hb1, hb2⟩ | ⟨hb, hb1⟩
    · unfold bothB at h; rw [ha, hb] at h; cases h
    · clear h
      go_enter Tryd.func5, Tryd.ntmps5
      go_upto_region 5 with (first | (go_at_call 16; refine (num_Div _ _ _).mono ?_; rintro e w' ⟨rfl, rfl⟩) | (go_at_call 17; refine (num_Mod _ _ _).mono ?_; rintro e w' ⟨rfl, rfl⟩) | (go_at_call 15; refine (num_In _ _).mono ?_; rintro e w' ⟨rfl, rfl⟩))
      simp only [List.append]
      go_wp2_with fail
      refine (num_Gcd _ _ _).mono ?_
      rintro e w' ⟨rfl, nw1, rfl⟩
      have hw1 := below_drewN' (Below.refl w.heap.size w) nw1
      generalize World.drewN _ nw1 = w1 at hw1 ⊢
      go_wp2_with (first | (go_at_call 15; refine (num_In _ _).mono ?_; rintro e w' ⟨rfl, rfl⟩))
      go_wp2_with fail
      refine (law_alive _ (hw.below hw1)).mono ?_
      rintro e wz ⟨rfl, hbz⟩
      go_wp2
      go_ret
      exact ⟨rfl, below_step hw1 hbz⟩
  · clear h
    go_enter Tryd.func5, Tryd.ntmps5
    go_upto_region 5 with (first | (go_at_call 16; refine (num_Div _ _ _).mono ?_; rintro e w' ⟨rfl, rfl⟩) | (go_at_call 17; refine (num_Mod _ _ _).mono ?_; rintro e w' ⟨rfl, rfl⟩) | (go_at_call 15; refine (num_In _ _).mono ?_; rintro e w' ⟨rfl, rfl⟩))
    simp only [List.append]
    go_wp2_with fail
    refine (num_Gcd _ _ _).mono ?_
    rintro e w' ⟨rfl, nw1, rfl⟩
    have hw1 := below_drewN' (Below.refl w.heap.size w) nw1
    generalize World.drewN _ nw1 = w1 at hw1 ⊢
    go_wp2_with (first | (go_at_call 15; refine (num_In _ _).mono ?_; rintro e w' ⟨rfl, rfl⟩))
    go_wp2_with fail
    refine (law_alive _ (hw.below hw1)).mono ?_
    rintro e wz ⟨rfl, hbz⟩
    go_wp2
    go_ret
    exact ⟨rfl, below_step hw1 hbz⟩

set_option maxRecDepth 100000 in
set_option maxHeartbeats 1600000 in
theorem law_NumDivides_zero (a d : Int) (w : World) (hw : LaidW w) (hd0 : 0 ≤ d) (hd1 : d ≤ 255) (ha : inB a = true) :
    Calls Tryd.prog 5 #[.int .i64 a, .int .i64 0, .int .u8 d] w fun e w' => e = .returned (.bool true) ∧ Below w.heap.size w w' := by
  have g1 := divB_zero a
  have hb : inB 0 = true := by decide
  have ⟨f1, f2, f3, f4, f5, f6, f7'⟩ := gcd_facts ha hb
  have f7 := f7' (d + 1)
  by_cases h0 : a = 0
  · subst h0
    have g2 : gcdV 0 0 = 0 := by decide
    clear f1 f2 f3 f4 f5 f6 f7 f7'
    go_enter Tryd.func5, Tryd.ntmps5
    go_upto_region 5 with (first | (go_at_call 16; refine (num_Div _ _ _).mono ?_; rintro e w' ⟨rfl, rfl⟩) | (go_at_call 17; refine (num_Mod _ _ _).mono ?_; rintro e w' ⟨rfl, rfl⟩) | (go_at_call 15; refine (num_In _ _).mono ?_; rintro e w' ⟨rfl, rfl⟩))
    simp only [List.append]
    go_wp2_with fail
    refine (num_Gcd _ _ _).mono ?_
    rintro e w' ⟨rfl, nw1, rfl⟩
    have hw1 := below_drewN' (Below.refl w.heap.size w) nw1
    generalize World.drewN _ nw1 = w1 at hw1 ⊢
    go_wp2_with (first | (go_at_call 15; refine (num_In _ _).mono ?_; rintro e w' ⟨rfl, rfl⟩))
    go_wp2_with fail
    refine (law_alive _ (hw.below hw1)).mono ?_
    rintro e wz ⟨rfl, hbz⟩
    go_wp2
    go_ret
    exact ⟨rfl, below_step hw1 hbz⟩
  · have g3 : ¬ gcdV a 0 = 0 := fun e => h0 (f6 e).1
    have g4 : (gcdV a 0 == 0) = false := beq_eq_false_iff_ne.2 g3
    have g5 : 1 ≤ gcdV a 0 := by omega
    clear f6 f7'
    go_enter Tryd.func5, Tryd.ntmps5
    go_upto_region 5 with (first | (go_at_call 16; refine (num_Div _ _ _).mono ?_; rintro e w' ⟨rfl, rfl⟩) | (go_at_call 17; refine (num_Mod _ _ _).mono ?_; rintro e w' ⟨rfl, rfl⟩) | (go_at_call 15; refine (num_In _ _).mono ?_; rintro e w' ⟨rfl, rfl⟩))
    simp only [List.append]
    go_wp2_with fail
    refine (num_Gcd _ _ _).mono ?_
    rintro e w' ⟨rfl, nw1, rfl⟩
    have hw1 := below_drewN' (Below.refl w.heap.size w) nw1
    generalize World.drewN _ nw1 = w1 at hw1 ⊢
    go_wp2_with (first | (go_at_call 15; refine (num_In _ _).mono ?_; rintro e w' ⟨rfl, rfl⟩))
    all_goals
      refine (num_Gcd _ _ _).mono ?_
      rintro e w' ⟨rfl, n2, rfl⟩
      have hw2 := below_drewN' hw1 n2
      generalize World.drewN _ n2 = w2 at hw2 ⊢
      go_wp2_with fail
      refine (law_alive _ (hw.below hw2)).mono ?_
      rintro e wz ⟨rfl, hbz⟩
      go_wp2
      go_ret
      exact ⟨rfl, below_step hw2 hbz⟩

theorem div_none (a : Int) : divB a 0 = false := divB_zero a
set_option maxRecDepth 100000 in
set_option maxHeartbeats 1600000 in
theorem law_NumDivides_zp (a b d : Int) (w : World) (hw : LaidW w) (hd0 : 0 ≤ d) (hd1 : d ≤ 255) (ha : inB a = true) (hb : inB b = true) (h0 : b ≠ 0) (hr1 : modV a b ≤ 0) (hr2 : 0 ≤ modV a b) (hbs : 0 < b) :
    Calls Tryd.prog 5 #[.int .i64 a, .int .i64 b, .int .u8 d] w fun e w' => e = .returned (.bool true) ∧ Below w.heap.size w w' := by
  have gB := divB_yes ha hb h0
  have h00 : (b != 0) = true := bne_iff_ne.2 h0
  have ⟨a1, a2⟩ := inB_true.1 ha
  have ⟨b1, b2⟩ := inB_true.1 hb
  have ⟨e1, ⟨e2, e3⟩, ⟨e4, e5⟩, e6', e7', e8', e9', e10', e11'⟩ := div_spec ha hb h0
  have hb9 : 0 < b ∨ b < 0 := by omega
  have t0 : decide (modV a b < 0) = false := decide_eq_false (by omega)
  have t1 : decide (0 < modV a b) = false := decide_eq_false (by omega)
  have t2 : decide (0 ≤ modV a b) = true := decide_eq_true (by omega)
  have t3 : decide (0 ≤ b) = true := decide_eq_true (by omega)
  have t4 : decide (b < 0) = false := decide_eq_false (by omega)
  have t5 : decide (b ≤ modV a b) = false := decide_eq_false (by omega)
  have ⟨f1, f2, f3, f4, f5, f6, f7'⟩ := gcd_facts ha hb
  have f7 : a.tmod (d + 1) = 0 → b % (d + 1) = 0 → gcdV a b % (d + 1) = 0 := fun g1 g2 => by have := f7' (d + 1) g1 (by first | exact g2 | (rw [Int.tmod_eq_emod_of_nonneg (by omega)]; exact g2)); rwa [Int.tmod_eq_emod_of_nonneg (by omega)] at this
  have f8 : ¬ gcdV a b = 0 := fun e => h0 (f6 e).2
  have f9 : (gcdV a b == 0) = false := beq_eq_false_iff_ne.2 f8
  have f10 : 1 ≤ gcdV a b := by omega
  have f11 : decide (0 < gcdV a b) = true := decide_eq_true (by omega)
  clear f6 f7' e6' e7' e8' e9' e10' e11' h0 f8 hb9
  go_enter Tryd.func5, Tryd.ntmps5
  go_upto_region 5 with (first | (go_at_call 16; refine (num_Div _ _ _).mono ?_; rintro e w' ⟨rfl, rfl⟩) | (go_at_call 17; refine (num_Mod _ _ _).mono ?_; rintro e w' ⟨rfl, rfl⟩) | (go_at_call 15; refine (num_In _ _).mono ?_; rintro e w' ⟨rfl, rfl⟩))
  simp only [List.append]
  go_wp2_with fail
  refine (num_Gcd _ _ _).mono ?_
  rintro e w' ⟨rfl, nw1, rfl⟩
  have hw1 := below_drewN' (Below.refl w.heap.size w) nw1
  generalize World.drewN _ nw1 = w1 at hw1 ⊢
  go_wp2_with (first | (go_at_call 15; refine (num_In _ _).mono ?_; rintro e w' ⟨rfl, rfl⟩))
  all_goals
    refine (num_Gcd _ _ _).mono ?_
    rintro e w' ⟨rfl, n2, rfl⟩
    have hw2 := below_drewN' hw1 n2
    generalize World.drewN _ n2 = w2 at hw2 ⊢
    go_wp2_with fail
    refine (law_alive _ (hw.below hw2)).mono ?_
    rintro e wz ⟨rfl, hbz⟩
    go_wp2
    go_ret
    exact ⟨rfl, below_step hw2 hbz⟩

set_option maxRecDepth 100000 in
set_option maxHeartbeats 1600000 in
theorem law_NumDivides_zn (a b d : Int) (w : World) (hw : LaidW w) (hd0 : 0 ≤ d) (hd1 : d ≤ 255) (ha : inB a = true) (hb : inB b = true) (h0 : b ≠ 0) (hr1 : modV a b ≤ 0) (hr2 : 0 ≤ modV a b) (hbs : b < 0) :
    Calls Tryd.prog 5 #[.int .i64 a, .int .i64 b, .int .u8 d] w fun e w' => e = .returned (.bool true) ∧ Below w.heap.size w w' := by
  have gB := divB_yes ha hb h0
  have h00 : (b != 0) = true := bne_iff_ne.2 h0
  have ⟨a1, a2⟩ := inB_true.1 ha
  have ⟨b1, b2⟩ := inB_true.1 hb
  have ⟨e1, ⟨e2, e3⟩, ⟨e4, e5⟩, e6', e7', e8', e9', e10', e11'⟩ := div_spec ha hb h0
  have hb9 : 0 < b ∨ b < 0 := by omega
  have t0 : decide (modV a b < 0) = false := decide_eq_false (by omega)
  have t1 : decide (0 < modV a b) = false := decide_eq_false (by omega)
  have t2 : decide (0 ≤ modV a b) = true := decide_eq_true (by omega)
  have t3 : decide (0 ≤ b) = false := decide_eq_false (by omega)
  have t4 : decide (b < 0) = true := decide_eq_true (by omega)
  have t5 : decide (-b ≤ modV a b) = false := decide_eq_false (by omega)
  have ⟨f1, f2, f3, f4, f5, f6, f7'⟩ := gcd_facts ha hb
  have f7 : a.tmod (d + 1) = 0 → b.tmod (d + 1) = 0 → gcdV a b % (d + 1) = 0 := fun g1 g2 => by have := f7' (d + 1) g1 (by first | exact g2 | (rw [Int.tmod_eq_emod_of_nonneg (by omega)]; exact g2)); rwa [Int.tmod_eq_emod_of_nonneg (by omega)] at this
  have f8 : ¬ gcdV a b = 0 := fun e => h0 (f6 e).2
  have f9 : (gcdV a b == 0) = false := beq_eq_false_iff_ne.2 f8
  have f10 : 1 ≤ gcdV a b := by omega
  have f11 : decide (0 < gcdV a b) = true := decide_eq_true (by omega)
  clear f6 f7' e6' e7' e8' e9' e10' e11' h0 f8 hb9
  go_enter Tryd.func5, Tryd.ntmps5
  go_upto_region 5 with (first | (go_at_call 16; refine (num_Div _ _ _).mono ?_; rintro e w' ⟨rfl, rfl⟩) | (go_at_call 17; refine (num_Mod _ _ _).mono ?_; rintro e w' ⟨rfl, rfl⟩) | (go_at_call 15; refine (num_In _ _).mono ?_; rintro e w' ⟨rfl, rfl⟩))
  simp only [List.append]
  go_wp2_with fail
  refine (num_Gcd _ _ _).mono ?_
  rintro e w' ⟨rfl, nw1, rfl⟩
  have hw1 := below_drewN' (Below.refl w.heap.size w) nw1
  generalize World.drewN _ nw1 = w1 at hw1 ⊢
  go_wp2_with (first | (go_at_call 15; refine (num_In _ _).mono ?_; rintro e w' ⟨rfl, rfl⟩))
  all_goals
    refine (num_Gcd _ _ _).mono ?_
    rintro e w' ⟨rfl, n2, rfl⟩
    have hw2 := below_drewN' hw1 n2
    generalize World.drewN _ n2 = w2 at hw2 ⊢
    go_wp2_with fail
    refine (law_alive _ (hw.below hw2)).mono ?_
    rintro e wz ⟨rfl, hbz⟩
    go_wp2
    go_ret
    exact ⟨rfl, below_step hw2 hbz⟩

set_option maxRecDepth 100000 in
set_option maxHeartbeats 1600000 in
theorem law_NumDivides_pp (a b d : Int) (w : World) (hw : LaidW w) (hd0 : 0 ≤ d) (hd1 : d ≤ 255) (ha : inB a = true) (hb : inB b = true) (h0 : b ≠ 0) (hr1 : 0 < modV a b) (hbs : 0 < b) :
    Calls Tryd.prog 5 #[.int .i64 a, .int .i64 b, .int .u8 d] w fun e w' => e = .returned (.bool true) ∧ Below w.heap.size w w' := by
  have gB := divB_yes ha hb h0
  have h00 : (b != 0) = true := bne_iff_ne.2 h0
  have ⟨a1, a2⟩ := inB_true.1 ha
  have ⟨b1, b2⟩ := inB_true.1 hb
  have ⟨e1, ⟨e2, e3⟩, ⟨e4, e5⟩, e6', e7', e8', e9', e10', e11'⟩ := div_spec ha hb h0
  have hb9 : 0 < b ∨ b < 0 := by omega
  have t0 : decide (modV a b < 0) = false := decide_eq_false (by omega)
  have t1 : decide (0 < modV a b) = true := decide_eq_true (by omega)
  have t2 : decide (0 ≤ modV a b) = true := decide_eq_true (by omega)
  have t3 : decide (a ≤ 0) = false := decide_eq_false (by omega)
  have t4 : decide (0 ≤ b) = true := decide_eq_true (by omega)
  have t5 : decide (b < 0) = false := decide_eq_false (by omega)
  have t6 : decide (b ≤ modV a b) = false := decide_eq_false (by omega)
  have ⟨f1, f2, f3, f4, f5, f6, f7'⟩ := gcd_facts ha hb
  have f7 : a.tmod (d + 1) = 0 → b % (d + 1) = 0 → gcdV a b % (d + 1) = 0 := fun g1 g2 => by have := f7' (d + 1) g1 (by first | exact g2 | (rw [Int.tmod_eq_emod_of_nonneg (by omega)]; exact g2)); rwa [Int.tmod_eq_emod_of_nonneg (by omega)] at this
  have f8 : ¬ gcdV a b = 0 := fun e => h0 (f6 e).2
  have f9 : (gcdV a b == 0) = false := beq_eq_false_iff_ne.2 f8
  have f10 : 1 ≤ gcdV a b := by omega
  have f11 : decide (0 < gcdV a b) = true := decide_eq_true (by omega)
  clear f6 f7' e6' e7' e8' e9' e10' e11' h0 f8 hb9
  go_enter Tryd.func5, Tryd.ntmps5
  go_upto_region 5 with (first | (go_at_call 16; refine (num_Div _ _ _).mono ?_; rintro e w' ⟨rfl, rfl⟩) | (go_at_call 17; refine (num_Mod _ _ _).mono ?_; rintro e w' ⟨rfl, rfl⟩) | (go_at_call 15; refine (num_In _ _).mono ?_; rintro e w' ⟨rfl, rfl⟩))
  simp only [List.append]
  go_wp2_with fail
  refine (num_Gcd _ _ _).mono ?_
  rintro e w' ⟨rfl, nw1, rfl⟩
  have hw1 := below_drewN' (Below.refl w.heap.size w) nw1
  generalize World.drewN _ nw1 = w1 at hw1 ⊢
  go_wp2_with (first | (go_at_call 15; refine (num_In _ _).mono ?_; rintro e w' ⟨rfl, rfl⟩))
  all_goals
    refine (num_Gcd _ _ _).mono ?_
    rintro e w' ⟨rfl, n2, rfl⟩
    have hw2 := below_drewN' hw1 n2
    generalize World.drewN _ n2 = w2 at hw2 ⊢
    go_wp2_with fail
    refine (law_alive _ (hw.below hw2)).mono ?_
    rintro e wz ⟨rfl, hbz⟩
    go_wp2
    go_ret
    exact ⟨rfl, below_step hw2 hbz⟩

set_option maxRecDepth 100000 in
set_option maxHeartbeats 1600000 in
theorem law_NumDivides_pn (a b d : Int) (w : World) (hw : LaidW w) (hd0 : 0 ≤ d) (hd1 : d ≤ 255) (ha : inB a = true) (hb : inB b = true) (h0 : b ≠ 0) (hr1 : 0 < modV a b) (hbs : b < 0) :
    Calls Tryd.prog 5 #[.int .i64 a, .int .i64 b, .int .u8 d] w fun e w' => e = .returned (.bool true) ∧ Below w.heap.size w w' := by
  have gB := divB_yes ha hb h0
  have h00 : (b != 0) = true := bne_iff_ne.2 h0
  have ⟨a1, a2⟩ := inB_true.1 ha
  have ⟨b1, b2⟩ := inB_true.1 hb
  have ⟨e1, ⟨e2, e3⟩, ⟨e4, e5⟩, e6', e7', e8', e9', e10', e11'⟩ := div_spec ha hb h0
  have hb9 : 0 < b ∨ b < 0 := by omega
  have t0 : decide (modV a b < 0) = false := decide_eq_false (by omega)
  have t1 : decide (0 < modV a b) = true := decide_eq_true (by omega)
  have t2 : decide (0 ≤ modV a b) = true := decide_eq_true (by omega)
  have t3 : decide (a ≤ 0) = false := decide_eq_false (by omega)
  have t4 : decide (0 ≤ b) = false := decide_eq_false (by omega)
  have t5 : decide (b < 0) = true := decide_eq_true (by omega)
  have t6 : decide (-b ≤ modV a b) = false := decide_eq_false (by omega)
  have ⟨f1, f2, f3, f4, f5, f6, f7'⟩ := gcd_facts ha hb
  have f7 : a.tmod (d + 1) = 0 → b.tmod (d + 1) = 0 → gcdV a b % (d + 1) = 0 := fun g1 g2 => by have := f7' (d + 1) g1 (by first | exact g2 | (rw [Int.tmod_eq_emod_of_nonneg (by omega)]; exact g2)); rwa [Int.tmod_eq_emod_of_nonneg (by omega)] at this
  have f8 : ¬ gcdV a b = 0 := fun e => h0 (f6 e).2
  have f9 : (gcdV a b == 0) = false := beq_eq_false_iff_ne.2 f8
  have f10 : 1 ≤ gcdV a b := by omega
  have f11 : decide (0 < gcdV a b) = true := decide_eq_true (by omega)
  clear f6 f7' e6' e7' e8' e9' e10' e11' h0 f8 hb9
  go_enter Tryd.func5, Tryd.ntmps5
  go_upto_region 5 with (first | (go_at_call 16; refine (num_Div _ _ _).mono ?_; rintro e w' ⟨rfl, rfl⟩) | (go_at_call 17; refine (num_Mod _ _ _).mono ?_; rintro e w' ⟨rfl, rfl⟩) | (go_at_call 15; refine (num_In _ _).mono ?_; rintro e w' ⟨rfl, rfl⟩))
  simp only [List.append]
  go_wp2_with fail
  refine (num_Gcd _ _ _).mono ?_
  rintro e w' ⟨rfl, nw1, rfl⟩
  have hw1 := below_drewN' (Below.refl w.heap.size w) nw1
  generalize World.drewN _ nw1 = w1 at hw1 ⊢
  go_wp2_with (first | (go_at_call 15; refine (num_In _ _).mono ?_; rintro e w' ⟨rfl, rfl⟩))
  all_goals
    refine (num_Gcd _ _ _).mono ?_
    rintro e w' ⟨rfl, n2, rfl⟩
    have hw2 := below_drewN' hw1 n2
    generalize World.drewN _ n2 = w2 at hw2 ⊢
    go_wp2_with fail
    refine (law_alive _ (hw.below hw2)).mono ?_
    rintro e wz ⟨rfl, hbz⟩
    go_wp2
    go_ret
    exact ⟨rfl, below_step hw2 hbz⟩

set_option maxRecDepth 100000 in
set_option maxHeartbeats 1600000 in
theorem law_NumDivides_np (a b d : Int) (w : World) (hw : LaidW w) (hd0 : 0 ≤ d) (hd1 : d ≤ 255) (ha : inB a = true) (hb : inB b = true) (h0 : b ≠ 0) (hr1 : modV a b < 0) (hbs : 0 < b) :
    Calls Tryd.prog 5 #[.int .i64 a, .int .i64 b, .int .u8 d] w fun e w' => e = .returned (.bool true) ∧ Below w.heap.size w w' := by
  have gB := divB_yes ha hb h0
  have h00 : (b != 0) = true := bne_iff_ne.2 h0
  have ⟨a1, a2⟩ := inB_true.1 ha
  have ⟨b1, b2⟩ := inB_true.1 hb
  have ⟨e1, ⟨e2, e3⟩, ⟨e4, e5⟩, e6', e7', e8', e9', e10', e11'⟩ := div_spec ha hb h0
  have hb9 : 0 < b ∨ b < 0 := by omega
  have t0 : decide (modV a b < 0) = true := decide_eq_true (by omega)
  have t1 : decide (0 < modV a b) = false := decide_eq_false (by omega)
  have t2 : decide (0 ≤ modV a b) = false := decide_eq_false (by omega)
  have t3 : decide (0 ≤ a) = false := decide_eq_false (by omega)
  have t4 : decide (0 ≤ b) = true := decide_eq_true (by omega)
  have t5 : decide (b < 0) = false := decide_eq_false (by omega)
  have t6 : decide (b ≤ -modV a b) = false := decide_eq_false (by omega)
  have ⟨f1, f2, f3, f4, f5, f6, f7'⟩ := gcd_facts ha hb
  have f7 : a.tmod (d + 1) = 0 → b % (d + 1) = 0 → gcdV a b % (d + 1) = 0 := fun g1 g2 => by have := f7' (d + 1) g1 (by first | exact g2 | (rw [Int.tmod_eq_emod_of_nonneg (by omega)]; exact g2)); rwa [Int.tmod_eq_emod_of_nonneg (by omega)] at this
  have f8 : ¬ gcdV a b = 0 := fun e => h0 (f6 e).2
  have f9 : (gcdV a b == 0) = false := beq_eq_false_iff_ne.2 f8
  have f10 : 1 ≤ gcdV a b := by omega
  have f11 : decide (0 < gcdV a b) = true := decide_eq_true (by omega)
  clear f6 f7' e6' e7' e8' e9' e10' e11' h0 f8 hb9
  go_enter Tryd.func5, Tryd.ntmps5
  go_upto_region 5 with (first | (go_at_call 16; refine (num_Div _ _ _).mono ?_; rintro e w' ⟨rfl, rfl⟩) | (go_at_call 17; refine (num_Mod _ _ _).mono ?_; rintro e w' ⟨rfl, rfl⟩) | (go_at_call 15; refine (num_In _ _).mono ?_; rintro e w' ⟨rfl, rfl⟩))
  simp only [List.append]
  go_wp2_with fail
  refine (num_Gcd _ _ _).mono ?_
  rintro e w' ⟨rfl, nw1, rfl⟩
  have hw1 := below_drewN' (Below.refl w.heap.size w) nw1
  generalize World.drewN _ nw1 = w1 at hw1 ⊢
  go_wp2_with (first | (go_at_call 15; refine (num_In _ _).mono ?_; rintro e w' ⟨rfl, rfl⟩))
  all_goals
    refine (num_Gcd _ _ _).mono ?_
    rintro e w' ⟨rfl, n2, rfl⟩
    have hw2 := below_drewN' hw1 n2
    generalize World.drewN _ n2 = w2 at hw2 ⊢
    go_wp2_with fail
    refine (law_alive _ (hw.below hw2)).mono ?_
    rintro e wz ⟨rfl, hbz⟩
    go_wp2
    go_ret
    exact ⟨rfl, below_step hw2 hbz⟩

set_option maxRecDepth 100000 in
set_option maxHeartbeats 1600000 in
theorem law_NumDivides_nn (a b d : Int) (w : World) (hw : LaidW w) (hd0 : 0 ≤ d) (hd1 : d ≤ 255) (ha : inB a = true) (hb : inB b = true) (h0 : b ≠ 0) (hr1 : modV a b < 0) (hbs : b < 0) :
    Calls Tryd.prog 5 #[.int .i64 a, .int .i64 b, .int .u8 d] w fun e w' => e = .returned (.bool true) ∧ Below w.heap.size w w' := by
  have gB := divB_yes ha hb h0
  have h00 : (b != 0) = true := bne_iff_ne.2 h0
  have ⟨a1, a2⟩ := inB_true.1 ha
  have ⟨b1, b2⟩ := inB_true.1 hb
  have ⟨e1, ⟨e2, e3⟩, ⟨e4, e5⟩, e6', e7', e8', e9', e10', e11'⟩ := div_spec ha hb h0
  have hb9 : 0 < b ∨ b < 0 := by omega
  have t0 : decide (modV a b < 0) = true := decide_eq_true (by omega)
  have t1 : decide (0 < modV a b) = false := decide_eq_false (by omega)
  have t2 : decide (0 ≤ modV a b) = false := decide_eq_false (by omega)
  have t3 : decide (0 ≤ a) = false := decide_eq_false (by omega)
  have t4 : decide (0 ≤ b) = false := decide_eq_false (by omega)
  have t5 : decide (b < 0) = true := decide_eq_true (by omega)
  have t6 : decide (-b ≤ -modV a b) = false := decide_eq_false (by omega)
  have t7 : decide (modV a b ≤ b) = false := decide_eq_false (by omega)
  have ⟨f1, f2, f3, f4, f5, f6, f7'⟩ := gcd_facts ha hb
  have f7 : a.tmod (d + 1) = 0 → b.tmod (d + 1) = 0 → gcdV a b % (d + 1) = 0 := fun g1 g2 => by have := f7' (d + 1) g1 (by first | exact g2 | (rw [Int.tmod_eq_emod_of_nonneg (by omega)]; exact g2)); rwa [Int.tmod_eq_emod_of_nonneg (by omega)] at this
  have f8 : ¬ gcdV a b = 0 := fun e => h0 (f6 e).2
  have f9 : (gcdV a b == 0) = false := beq_eq_false_iff_ne.2 f8
  have f10 : 1 ≤ gcdV a b := by omega
  have f11 : decide (0 < gcdV a b) = true := decide_eq_true (by omega)
  clear f6 f7' e6' e7' e8' e9' e10' e11' h0 f8 hb9
  go_enter Tryd.func5, Tryd.ntmps5
  go_upto_region 5 with (first | (go_at_call 16; refine (num_Div _ _ _).mono ?_; rintro e w' ⟨rfl, rfl⟩) | (go_at_call 17; refine (num_Mod _ _ _).mono ?_; rintro e w' ⟨rfl, rfl⟩) | (go_at_call 15; refine (num_In _ _).mono ?_; rintro e w' ⟨rfl, rfl⟩))
  simp only [List.append]
  go_wp2_with fail
  refine (num_Gcd _ _ _).mono ?_
  rintro e w' ⟨rfl, nw1, rfl⟩
  have hw1 := below_drewN' (Below.refl w.heap.size w) nw1
  generalize World.drewN _ nw1 = w1 at hw1 ⊢
  go_wp2_with (first | (go_at_call 15; refine (num_In _ _).mono ?_; rintro e w' ⟨rfl, rfl⟩))
  all_goals
    refine (num_Gcd _ _ _).mono ?_
    rintro e w' ⟨rfl, n2, rfl⟩
    have hw2 := below_drewN' hw1 n2
    generalize World.drewN _ n2 = w2 at hw2 ⊢
    go_wp2_with fail
    refine (law_alive _ (hw.below hw2)).mono ?_
    rintro e wz ⟨rfl, hbz⟩
    go_wp2
    go_ret
    exact ⟨rfl, below_step hw2 hbz⟩

end Go.Proofs.YtbknklhkhcbioaaDoor
