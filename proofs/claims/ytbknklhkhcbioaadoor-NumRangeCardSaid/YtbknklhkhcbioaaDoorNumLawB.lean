/- THE WALKS over the laws of chapter 1, second part. -/
import Derived.Test.YtbknklhkhcbioaaDoorNumLawA
namespace Go.Proofs.YtbknklhkhcbioaaDoor
open Go.RowKit

theorem addV_comm (a b : Int) : addV b a = addV a b := by unfold addV bothB; rw [Int.add_comm, Bool.and_comm]
theorem addB_comm (a b : Int) : addB b a = addB a b := by unfold addB bothB; rw [Int.add_comm, Bool.and_comm (inB b)]
theorem mulB_comm (a b : Int) : mulB b a = mulB a b := by unfold mulB bothB; rw [Int.mul_comm, Bool.and_comm (inB b)]
theorem mulV_comm (a b : Int) : mulV b a = mulV a b := by unfold mulV; rw [mulB_comm, Int.mul_comm]
theorem addB_spec {a b : Int} (h : addB a b = true) : inB a = true ∧ inB b = true ∧ inB (a + b) = true ∧ addV a b = a + b := by
  unfold addB bothB at h
  rw [Bool.and_eq_true, Bool.and_eq_true] at h
  refine ⟨h.1.1, h.1.2, h.2, ?_⟩
  unfold addV bothB; rw [h.1.1, h.1.2]; exact rangedV_true h.2
theorem mulB_spec {a b : Int} (h : mulB a b = true) : inB a = true ∧ inB b = true ∧ inB (a * b) = true ∧ mulV a b = a * b := by
  refine ⟨?_, ?_, ?_, mul_yes h⟩ <;>
  · unfold mulB bothB at h
    rw [Bool.and_eq_true, Bool.and_eq_true] at h
    first | exact h.1.1 | exact h.1.2 | exact h.2
theorem sub_add {a b : Int} (h : addB a b = true) : subB (addV a b) b = true ∧ subV (addV a b) b = a := by
  obtain ⟨h1, h2, h3, h4⟩ := addB_spec h
  rw [h4]
  have e : a + b - b = a := by omega
  unfold subB subV bothB
  rw [h3, h2, e]
  exact ⟨by rw [h1]; rfl, rangedV_true h1⟩
theorem mul_assoc' {a b c : Int} (h1 : mulB a b = true) (h2 : mulB (mulV a b) c = true) (h3 : mulB b c = true) (h4 : mulB a (mulV b c) = true) : mulV (mulV a b) c = mulV a (mulV b c) := by
  rw [(mulB_spec h2).2.2.2, (mulB_spec h4).2.2.2, (mulB_spec h1).2.2.2, (mulB_spec h3).2.2.2, Int.mul_assoc]
theorem distrib' {a b c : Int} (h1 : addB a b = true) (h2 : mulB (addV a b) c = true) (h3 : mulB a c = true) (h4 : mulB b c = true) (h5 : addB (mulV a c) (mulV b c) = true) : mulV (addV a b) c = addV (mulV a c) (mulV b c) := by
  rw [(mulB_spec h2).2.2.2, (addB_spec h5).2.2.2, (addB_spec h1).2.2.2, (mulB_spec h3).2.2.2, (mulB_spec h4).2.2.2, Int.add_mul]

set_option maxRecDepth 100000 in
set_option maxHeartbeats 4000000 in
theorem law_NumRing (a b c : Int) (w : World) (hw : LaidW w) :
    Calls Tryd.prog 7 #[.int .i64 a, .int .i64 b, .int .i64 c] w fun e w' => e = .returned (.bool true) ∧ Below w.heap.size w w' := by
  have c1 := addV_comm a b
  have c2 := addB_comm a b
  have c3 := mulV_comm a b
  have c4 := mulB_comm a b
  have s1 : addB a b = true → subB (addV a b) b = true := fun h => (sub_add h).1
  have s2 : addB a b = true → subV (addV a b) b = a := fun h => (sub_add h).2
  have m1 : mulB a b = true → mulB (mulV a b) c = true → mulB b c = true → mulB a (mulV b c) = true → mulV (mulV a b) c = mulV a (mulV b c) := mul_assoc'
  have m2 : addB a b = true → mulB (addV a b) c = true → mulB a c = true → mulB b c = true → addB (mulV a c) (mulV b c) = true → mulV (addV a b) c = addV (mulV a c) (mulV b c) := distrib'
  go_enter Tryd.func7, Tryd.ntmps7
  go_wp2_with (first | (go_at_call 19; refine (num_Add _ _ _).mono ?_; rintro e w' ⟨rfl, rfl⟩) | (go_at_call 20; refine (num_Sub _ _ _).mono ?_; rintro e w' ⟨rfl, rfl⟩) | (go_at_call 21; refine (num_Mul _ _ _).mono ?_; rintro e w' ⟨rfl, rfl⟩) | (go_at_call 9; refine (law_alive _ hw).mono ?_; rintro e wz ⟨rfl, hbz⟩))
  all_goals go_ret
  all_goals exact ⟨rfl, hbz⟩
end Go.Proofs.YtbknklhkhcbioaaDoor
