/- THE WALKS over the laws of chapter 1, fifth part. -/
import Derived.Test.YtbknklhkhcbioaaDoorNumLawD
namespace Go.Proofs.YtbknklhkhcbioaaDoor
open Go.RowKit

theorem law_NumDivides (a b d : Int) (w : World) (hw : LaidW w) (hd0 : 0 ≤ d) (hd1 : d ≤ 255) :
    Calls Tryd.prog 5 #[.int .i64 a, .int .i64 b, .int .u8 d] w fun e w' => e = .returned (.bool true) ∧ Below w.heap.size w w' := by
  cases h : bothB a b
  · exact law_NumDivides_out a b d w hw h
  · have h' := h
    unfold bothB at h'
    rw [Bool.and_eq_true] at h'
    obtain ⟨ha, hb⟩ := h'
    by_cases h0 : b = 0
    · subst h0; exact law_NumDivides_zero a d w hw hd0 hd1 ha
    · rcases Int.lt_trichotomy (modV a b) 0 with g | g | g
      · rcases Int.lt_or_gt_of_ne h0 with k | k
        · exact law_NumDivides_nn a b d w hw hd0 hd1 ha hb h0 g k
        · exact law_NumDivides_np a b d w hw hd0 hd1 ha hb h0 g k
      · rcases Int.lt_or_gt_of_ne h0 with k | k
        · exact law_NumDivides_zn a b d w hw hd0 hd1 ha hb h0 (by omega) (by omega) k
        · exact law_NumDivides_zp a b d w hw hd0 hd1 ha hb h0 (by omega) (by omega) k
      · rcases Int.lt_or_gt_of_ne h0 with k | k
        · exact law_NumDivides_pn a b d w hw hd0 hd1 ha hb h0 g k
        · exact law_NumDivides_pp a b d w hw hd0 hd1 ha hb h0 g k

theorem addB_out {a b : Int} (h : bothB a b = false) : addB a b = false := by rw [addB, h]; rfl
theorem subB_out {a b : Int} (h : bothB a b = false) : subB a b = false := by rw [subB, h]; rfl
theorem mul_range {a b : Int} (ha : a ≠ 0) (hm : mulB a b = true) : inB (mulV a b) = true ∧ (mulV a b).tdiv a = b ∧ (mulV a b).tmod a = 0 := by
  obtain ⟨_, _, h3, h4⟩ := mulB_spec hm
  rw [h4]
  exact ⟨h3, Int.mul_tdiv_cancel_left b ha, Int.mul_tmod_right a b⟩
theorem mul_far {a b : Int} (ha : inB a = true) (hb : inB b = true) (h0 : a ≠ 0) (hm : mulB a b = false) : 1000000000000000 / (a.natAbs : Int) < (b.natAbs : Int) := by
  rw [mul_big h0]
  apply inB_false.1
  unfold mulB bothB at hm
  rw [ha, hb] at hm
  exact hm

set_option maxRecDepth 100000 in
set_option maxHeartbeats 1600000 in
theorem law_NumRange_outa (a b : Int) (w : World) (hw : LaidW w) (ha : inB a = false) :
    Calls Tryd.prog 8 #[.int .i64 a, .int .i64 b] w fun e w' => e = .returned (.bool true) ∧ Below w.heap.size w w' := by
  have h : bothB a b = false := by unfold bothB; rw [ha]; rfl
  have g1 := addB_out h
  have g2 := subB_out h
  have g3 := mulB_out h
  go_enter Tryd.func8, Tryd.ntmps8
  go_wp2_with (first | (go_at_call 15; refine (num_In _ _).mono ?_; rintro e w' ⟨rfl, rfl⟩) | (go_at_call 19; refine (num_Add _ _ _).mono ?_; rintro e w' ⟨rfl, rfl⟩) | (go_at_call 20; refine (num_Sub _ _ _).mono ?_; rintro e w' ⟨rfl, rfl⟩) | (go_at_call 21; refine (num_Mul _ _ _).mono ?_; rintro e w' ⟨rfl, rfl⟩) | (go_at_call 9; refine (law_alive _ hw).mono ?_; rintro e wz ⟨rfl, hbz⟩))
  all_goals go_ret
  all_goals exact ⟨rfl, hbz⟩

set_option maxRecDepth 100000 in
set_option maxHeartbeats 1600000 in
theorem law_NumRange_outb (a b : Int) (w : World) (hw : LaidW w) (ha : inB a = true) (hb : inB b = false) :
    Calls Tryd.prog 8 #[.int .i64 a, .int .i64 b] w fun e w' => e = .returned (.bool true) ∧ Below w.heap.size w w' := by
  have h : bothB a b = false := by unfold bothB; rw [hb, Bool.and_false]
  have g1 := addB_out h
  have g2 := subB_out h
  have g3 := mulB_out h
  go_enter Tryd.func8, Tryd.ntmps8
  go_wp2_with (first | (go_at_call 15; refine (num_In _ _).mono ?_; rintro e w' ⟨rfl, rfl⟩) | (go_at_call 19; refine (num_Add _ _ _).mono ?_; rintro e w' ⟨rfl, rfl⟩) | (go_at_call 20; refine (num_Sub _ _ _).mono ?_; rintro e w' ⟨rfl, rfl⟩) | (go_at_call 21; refine (num_Mul _ _ _).mono ?_; rintro e w' ⟨rfl, rfl⟩) | (go_at_call 9; refine (law_alive _ hw).mono ?_; rintro e wz ⟨rfl, hbz⟩))
  all_goals go_ret
  all_goals exact ⟨rfl, hbz⟩

set_option maxRecDepth 100000 in
set_option maxHeartbeats 1600000 in
theorem law_NumRange_a0 (b : Int) (w : World) (hw : LaidW w) (hb : inB b = true) :
    Calls Tryd.prog 8 #[.int .i64 0, .int .i64 b] w fun e w' => e = .returned (.bool true) ∧ Below w.heap.size w w' := by
  have ha : inB 0 = true := by decide
  have h : bothB 0 b = true := by unfold bothB; rw [ha, hb]; rfl
  have ⟨b1, b2⟩ := inB_true.1 hb
  have g1 : addB 0 b = inB (0 + b) := by rw [addB, h]; rfl
  have g2 : subB 0 b = inB (0 - b) := by rw [subB, h]; rfl
  have g3 := mulB_zero hb
  have g4 : mulV 0 b = 0 := by rw [mul_yes g3, Int.zero_mul]
  go_enter Tryd.func8, Tryd.ntmps8
  go_wp2_with (first | (go_at_call 15; refine (num_In _ _).mono ?_; rintro e w' ⟨rfl, rfl⟩) | (go_at_call 19; refine (num_Add _ _ _).mono ?_; rintro e w' ⟨rfl, rfl⟩) | (go_at_call 20; refine (num_Sub _ _ _).mono ?_; rintro e w' ⟨rfl, rfl⟩) | (go_at_call 21; refine (num_Mul _ _ _).mono ?_; rintro e w' ⟨rfl, rfl⟩) | (go_at_call 9; refine (law_alive _ hw).mono ?_; rintro e wz ⟨rfl, hbz⟩))
  all_goals go_ret
  all_goals exact ⟨rfl, hbz⟩

set_option maxRecDepth 100000 in
set_option maxHeartbeats 1600000 in
theorem law_NumRange_b0 (a : Int) (w : World) (hw : LaidW w) (ha : inB a = true) (h0 : a ≠ 0) :
    Calls Tryd.prog 8 #[.int .i64 a, .int .i64 0] w fun e w' => e = .returned (.bool true) ∧ Below w.heap.size w w' := by
  have hb : inB 0 = true := by decide
  have h : bothB a 0 = true := by unfold bothB; rw [ha, hb]; rfl
  have ⟨a1, a2⟩ := inB_true.1 ha
  have g1 : addB a 0 = inB (a + 0) := by rw [addB, h]; rfl
  have g2 : subB a 0 = inB (a - 0) := by rw [subB, h]; rfl
  have h00 : (a == 0) = false := beq_eq_false_iff_ne.2 h0
  have g3 : mulB a 0 = true := by rw [mulB_comm]; exact mulB_zero ha
  have g4 : mulV a 0 = 0 := by rw [mul_yes g3, Int.mul_zero]
  go_enter Tryd.func8, Tryd.ntmps8
  go_wp2_with (first | (go_at_call 15; refine (num_In _ _).mono ?_; rintro e w' ⟨rfl, rfl⟩) | (go_at_call 19; refine (num_Add _ _ _).mono ?_; rintro e w' ⟨rfl, rfl⟩) | (go_at_call 20; refine (num_Sub _ _ _).mono ?_; rintro e w' ⟨rfl, rfl⟩) | (go_at_call 21; refine (num_Mul _ _ _).mono ?_; rintro e w' ⟨rfl, rfl⟩) | (go_at_call 9; refine (law_alive _ hw).mono ?_; rintro e wz ⟨rfl, hbz⟩))
  all_goals go_ret
  all_goals exact ⟨rfl, hbz⟩

set_option maxRecDepth 100000 in
set_option maxHeartbeats 1600000 in
theorem law_NumRange_fits (a b : Int) (w : World) (hw : LaidW w) (ha : inB a = true) (hb : inB b = true) (h0 : a ≠ 0) (h1 : b ≠ 0) (hm : mulB a b = true) :
    Calls Tryd.prog 8 #[.int .i64 a, .int .i64 b] w fun e w' => e = .returned (.bool true) ∧ Below w.heap.size w w' := by
  have h : bothB a b = true := by unfold bothB; rw [ha, hb]; rfl
  have ⟨a1, a2⟩ := inB_true.1 ha
  have ⟨b1, b2⟩ := inB_true.1 hb
  have g1 : addB a b = inB (a + b) := by rw [addB, h]; rfl
  have g2 : subB a b = inB (a - b) := by rw [subB, h]; rfl
  have h00 : (a == 0) = false := beq_eq_false_iff_ne.2 h0
  have h01 : (b == 0) = false := beq_eq_false_iff_ne.2 h1
  obtain ⟨g3, g4, g5⟩ := mul_range h0 hm
  have ⟨g6, g7⟩ := inB_true.1 g3
  go_enter Tryd.func8, Tryd.ntmps8
  go_wp2_with (first | (go_at_call 15; refine (num_In _ _).mono ?_; rintro e w' ⟨rfl, rfl⟩) | (go_at_call 19; refine (num_Add _ _ _).mono ?_; rintro e w' ⟨rfl, rfl⟩) | (go_at_call 20; refine (num_Sub _ _ _).mono ?_; rintro e w' ⟨rfl, rfl⟩) | (go_at_call 21; refine (num_Mul _ _ _).mono ?_; rintro e w' ⟨rfl, rfl⟩) | (go_at_call 9; refine (law_alive _ hw).mono ?_; rintro e wz ⟨rfl, hbz⟩))
  all_goals go_ret
  all_goals exact ⟨rfl, hbz⟩

set_option maxRecDepth 100000 in
set_option maxHeartbeats 1600000 in
theorem law_NumRange_farp (a b : Int) (w : World) (hw : LaidW w) (ha : inB a = true) (hb : inB b = true) (h0 : 0 < a) (h1 : b ≠ 0) (hm : mulB a b = false) :
    Calls Tryd.prog 8 #[.int .i64 a, .int .i64 b] w fun e w' => e = .returned (.bool true) ∧ Below w.heap.size w w' := by
  have h : bothB a b = true := by unfold bothB; rw [ha, hb]; rfl
  have ⟨a1, a2⟩ := inB_true.1 ha
  have ⟨b1, b2⟩ := inB_true.1 hb
  have g1 : addB a b = inB (a + b) := by rw [addB, h]; rfl
  have g2 : subB a b = inB (a - b) := by rw [subB, h]; rfl
  have h00 : (a == 0) = false := beq_eq_false_iff_ne.2 (by omega)
  have h01 : (b == 0) = false := beq_eq_false_iff_ne.2 h1
  have g3 := mul_far ha hb (by omega) hm
  rw [show (a.natAbs : Int) = a from by omega] at g3
  have g4 : 0 ≤ 1000000000000000 / a := Int.ediv_nonneg (by omega) (by omega)
  have g5 : 1000000000000000 / a ≤ 1000000000000000 := Int.ediv_le_self _ (by omega)
  have g6 : (decide (1000000000000000 / a < b) || decide (b < -(1000000000000000 / a))) = true := by rw [Bool.or_eq_true, decide_eq_true_iff, decide_eq_true_iff]; omega
  clear g3
  go_enter Tryd.func8, Tryd.ntmps8
  go_wp2_with (first | (go_at_call 15; refine (num_In _ _).mono ?_; rintro e w' ⟨rfl, rfl⟩) | (go_at_call 19; refine (num_Add _ _ _).mono ?_; rintro e w' ⟨rfl, rfl⟩) | (go_at_call 20; refine (num_Sub _ _ _).mono ?_; rintro e w' ⟨rfl, rfl⟩) | (go_at_call 21; refine (num_Mul _ _ _).mono ?_; rintro e w' ⟨rfl, rfl⟩) | (go_at_call 9; refine (law_alive _ hw).mono ?_; rintro e wz ⟨rfl, hbz⟩))
  all_goals go_ret
  all_goals exact ⟨rfl, hbz⟩

set_option maxRecDepth 100000 in
set_option maxHeartbeats 1600000 in
theorem law_NumRange_farn (a b : Int) (w : World) (hw : LaidW w) (ha : inB a = true) (hb : inB b = true) (h0 : a < 0) (h1 : b ≠ 0) (hm : mulB a b = false) :
    Calls Tryd.prog 8 #[.int .i64 a, .int .i64 b] w fun e w' => e = .returned (.bool true) ∧ Below w.heap.size w w' := by
  have h : bothB a b = true := by unfold bothB; rw [ha, hb]; rfl
  have ⟨a1, a2⟩ := inB_true.1 ha
  have ⟨b1, b2⟩ := inB_true.1 hb
  have g1 : addB a b = inB (a + b) := by rw [addB, h]; rfl
  have g2 : subB a b = inB (a - b) := by rw [subB, h]; rfl
  have h00 : (a == 0) = false := beq_eq_false_iff_ne.2 (by omega)
  have h01 : (b == 0) = false := beq_eq_false_iff_ne.2 h1
  have g3 := mul_far ha hb (by omega) hm
  rw [show (a.natAbs : Int) = -a from by omega] at g3
  have e : (1000000000000000 : Int).tdiv a = -(1000000000000000 / (-a)) := by rw [← Int.tdiv_eq_ediv_of_nonneg (by omega), Int.tdiv_neg, Int.neg_neg]
  have p1 : 1 ≤ 1000000000000000 / (-a) := Int.le_ediv_of_mul_le (by omega) (by omega)
  have p2 : 1000000000000000 / (-a) ≤ 1000000000000000 := Int.ediv_le_self _ (by omega)
  have g4 : (1000000000000000 : Int).tdiv a ≤ -1 := by omega
  have g5 : -1000000000000000 ≤ (1000000000000000 : Int).tdiv a := by omega
  have g6 : (decide (-((1000000000000000 : Int).tdiv a) < b) || decide (b < (1000000000000000 : Int).tdiv a)) = true := by rw [Bool.or_eq_true, decide_eq_true_iff, decide_eq_true_iff]; omega
  clear g3 e p1 p2
  go_enter Tryd.func8, Tryd.ntmps8
  go_wp2_with (first | (go_at_call 15; refine (num_In _ _).mono ?_; rintro e w' ⟨rfl, rfl⟩) | (go_at_call 19; refine (num_Add _ _ _).mono ?_; rintro e w' ⟨rfl, rfl⟩) | (go_at_call 20; refine (num_Sub _ _ _).mono ?_; rintro e w' ⟨rfl, rfl⟩) | (go_at_call 21; refine (num_Mul _ _ _).mono ?_; rintro e w' ⟨rfl, rfl⟩) | (go_at_call 9; refine (law_alive _ hw).mono ?_; rintro e wz ⟨rfl, hbz⟩))
  all_goals go_ret
  all_goals exact ⟨rfl, hbz⟩

theorem law_NumRange (a b : Int) (w : World) (hw : LaidW w) :
    Calls Tryd.prog 8 #[.int .i64 a, .int .i64 b] w fun e w' => e = .returned (.bool true) ∧ Below w.heap.size w w' := by
  cases ha : inB a
  · exact law_NumRange_outa a b w hw ha
  · cases hb : inB b
    · exact law_NumRange_outb a b w hw ha hb
    · by_cases h0 : a = 0
      · subst h0; exact law_NumRange_a0 b w hw hb
      · by_cases h1 : b = 0
        · subst h1; exact law_NumRange_b0 a w hw ha h0
        · cases hm : mulB a b
          · rcases Int.lt_or_gt_of_ne h0 with k | k
            · exact law_NumRange_farn a b w hw ha hb k h1 hm
            · exact law_NumRange_farp a b w hw ha hb k h1 hm
          · exact law_NumRange_fits a b w hw ha hb h0 h1 hm
end Go.Proofs.YtbknklhkhcbioaaDoor
