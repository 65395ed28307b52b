/- THE WALK over schema.Check. -/
import Derived.Test.YtanclhcoiagcfaaGreatDoorSchM
namespace Go.Proofs.YtanclhcoiagcfaaGreatDoor
open Go.RowKit

theorem nil_iff (s : ByteArray) : (s.toList = []) = (s.size = 0) := propext ⟨fun h => by have := size_beq s; rw [h] at this; simpa using this, fun h => by have := size_beq s; rw [decide_eq_true h] at this; simpa using this⟩
theorem isEmpty_eq (s : ByteArray) : s.toList.isEmpty = decide (s.size = 0) := by
  rw [← size_beq]; cases s.toList <;> rfl

theorem word_empty (n : Int) : ((wordB n).toList == ([] : List UInt8)) = !(decide (n = 1) || decide (n = 2) || decide (n = 4)) := by
  rw [beq_list]
  show decide (wordN n = []) = _
  unfold wordN
  by_cases h1 : n = 1
  · simp [h1]
  · by_cases h2 : n = 2
    · simp [h2]
    · by_cases h4 : n = 4
      · simp [h4]
      · simp [h1, h2, h4]

set_option maxRecDepth 100000 in
set_option maxHeartbeats 3200000 in
theorem s_Check1 (an : Int) (anm aky afr ato : ByteArray) (w : World) : Calls Tryz.prog 6 #[.agg #[.int .i64 1, .int .i64 an, .string anm, .string aky, .string afr, .string ato]] w fun e w' => e = .returned (.int .i64 (chkR ⟨1, an, anm, aky, afr, ato⟩)) ∧ Ext w w' := by
  have HF := Lib.hid (fun W => (by exact s_fields 1 W : Calls Tryz.prog 22 #[.int .i64 1] W fun e w' => e = .returned (.tuple #[.agg #[.bool true, .bool false, .bool false], .bool true]) ∧ Below W.heap.size W w'))
  obtain ⟨g, w1, hg, hw1, hb, hx, -⟩ := box_rule w ⟨1, an, anm, aky, afr, ato⟩ 23
  go_enter Tryz.func6, Tryz.ntmps6
  obtain ⟨c0, c1, c2, c3, c4, c5⟩ := id hb
  simp only at c0 c1 c2 c3 c4 c5 hw1
  have HW1 := Lib.hid hw1
  have HG := Lib.hid hg
  clear hw1 hg
  go_wp2_with fail
  rw [← HW1.out, ← HG.out]
  go_wp2_with fail
  refine (HF.out _).mono ?_
  rintro e w2 ⟨rfl, hb2⟩
  have hb2 : Ext w1 w2 := hb2
  replace hb := hb.ext hb2
  replace hx := hx.trans hb2
  have hz : g < w2.heap.size := block_lt_of_cell hb.1
  have hz2 := hx.le
  clear c0 c1 c2 c3 c4 c5 hb2 HW1 HG HF
  obtain ⟨c0, c1, c2, c3, c4, c5⟩ := hb
  simp only at c0 c1 c2 c3 c4 c5
  have we := word_empty an
  go_wp2_with (first | (go_at_call 24; refine (g_Name _ _).mono ?_; rintro e w' ⟨rfl, rfl⟩) | (go_at_call 23; refine (s_kindText _ _).mono ?_; rintro e w' ⟨rfl, rfl⟩))
  all_goals
    go_ret
    refine ⟨ret_i64 ?_, (by repeat (first | with_reducible exact Ext.refl _ | with_reducible assumption | with_reducible refine Ext.drew ?_ | with_reducible refine Ext.drewN ?_ _ | with_reducible refine Ext.alloc ?_ _ | (with_reducible refine Ext.setCell ?_ (by first | omega | (simp; done) | (simp; omega)) _)))⟩
    rw [chkR_eq]
    clear c0 c1 c2 c3 c4 c5 hx hz hz2
    simp only [nil_iff, isEmpty_eq, size_beq] at *
    generalize ((wordB an).toList == []) = wb at *
    generalize nameB anm = n1 at *
    generalize nameB aky = n2 at *
    generalize nameB afr = n3 at *
    generalize nameB ato = n4 at *
    simp only [numB, keyK] at *
    first | (simp_all; done) | (simp_all; omega)

set_option maxRecDepth 100000 in
set_option maxHeartbeats 3200000 in
theorem s_Check2 (an : Int) (anm aky afr ato : ByteArray) (w : World) : Calls Tryz.prog 6 #[.agg #[.int .i64 2, .int .i64 an, .string anm, .string aky, .string afr, .string ato]] w fun e w' => e = .returned (.int .i64 (chkR ⟨2, an, anm, aky, afr, ato⟩)) ∧ Ext w w' := by
  have HF := Lib.hid (fun W => (by exact s_fields 2 W : Calls Tryz.prog 22 #[.int .i64 2] W fun e w' => e = .returned (.tuple #[.agg #[.bool true, .bool false, .bool false], .bool true]) ∧ Below W.heap.size W w'))
  obtain ⟨g, w1, hg, hw1, hb, hx, -⟩ := box_rule w ⟨2, an, anm, aky, afr, ato⟩ 23
  go_enter Tryz.func6, Tryz.ntmps6
  obtain ⟨c0, c1, c2, c3, c4, c5⟩ := id hb
  simp only at c0 c1 c2 c3 c4 c5 hw1
  have HW1 := Lib.hid hw1
  have HG := Lib.hid hg
  clear hw1 hg
  go_wp2_with fail
  rw [← HW1.out, ← HG.out]
  go_wp2_with fail
  refine (HF.out _).mono ?_
  rintro e w2 ⟨rfl, hb2⟩
  have hb2 : Ext w1 w2 := hb2
  replace hb := hb.ext hb2
  replace hx := hx.trans hb2
  have hz : g < w2.heap.size := block_lt_of_cell hb.1
  have hz2 := hx.le
  clear c0 c1 c2 c3 c4 c5 hb2 HW1 HG HF
  obtain ⟨c0, c1, c2, c3, c4, c5⟩ := hb
  simp only at c0 c1 c2 c3 c4 c5
  have we := word_empty an
  go_wp2_with (first | (go_at_call 24; refine (g_Name _ _).mono ?_; rintro e w' ⟨rfl, rfl⟩) | (go_at_call 23; refine (s_kindText _ _).mono ?_; rintro e w' ⟨rfl, rfl⟩))
  all_goals
    go_ret
    refine ⟨ret_i64 ?_, (by repeat (first | with_reducible exact Ext.refl _ | with_reducible assumption | with_reducible refine Ext.drew ?_ | with_reducible refine Ext.drewN ?_ _ | with_reducible refine Ext.alloc ?_ _ | (with_reducible refine Ext.setCell ?_ (by first | omega | (simp; done) | (simp; omega)) _)))⟩
    rw [chkR_eq]
    clear c0 c1 c2 c3 c4 c5 hx hz hz2
    simp only [nil_iff, isEmpty_eq, size_beq] at *
    generalize ((wordB an).toList == []) = wb at *
    generalize nameB anm = n1 at *
    generalize nameB aky = n2 at *
    generalize nameB afr = n3 at *
    generalize nameB ato = n4 at *
    simp only [numB, keyK] at *
    first | (simp_all; done) | (simp_all; omega)

set_option maxRecDepth 100000 in
set_option maxHeartbeats 3200000 in
theorem s_Check3 (an : Int) (anm aky afr ato : ByteArray) (w : World) : Calls Tryz.prog 6 #[.agg #[.int .i64 3, .int .i64 an, .string anm, .string aky, .string afr, .string ato]] w fun e w' => e = .returned (.int .i64 (chkR ⟨3, an, anm, aky, afr, ato⟩)) ∧ Ext w w' := by
  have HF := Lib.hid (fun W => (by exact s_fields 3 W : Calls Tryz.prog 22 #[.int .i64 3] W fun e w' => e = .returned (.tuple #[.agg #[.bool true, .bool true, .bool false], .bool true]) ∧ Below W.heap.size W w'))
  obtain ⟨g, w1, hg, hw1, hb, hx, -⟩ := box_rule w ⟨3, an, anm, aky, afr, ato⟩ 23
  go_enter Tryz.func6, Tryz.ntmps6
  obtain ⟨c0, c1, c2, c3, c4, c5⟩ := id hb
  simp only at c0 c1 c2 c3 c4 c5 hw1
  have HW1 := Lib.hid hw1
  have HG := Lib.hid hg
  clear hw1 hg
  go_wp2_with fail
  rw [← HW1.out, ← HG.out]
  go_wp2_with fail
  refine (HF.out _).mono ?_
  rintro e w2 ⟨rfl, hb2⟩
  have hb2 : Ext w1 w2 := hb2
  replace hb := hb.ext hb2
  replace hx := hx.trans hb2
  have hz : g < w2.heap.size := block_lt_of_cell hb.1
  have hz2 := hx.le
  clear c0 c1 c2 c3 c4 c5 hb2 HW1 HG HF
  obtain ⟨c0, c1, c2, c3, c4, c5⟩ := hb
  simp only at c0 c1 c2 c3 c4 c5
  have we := word_empty an
  go_wp2_with (first | (go_at_call 24; refine (g_Name _ _).mono ?_; rintro e w' ⟨rfl, rfl⟩) | (go_at_call 23; refine (s_kindText _ _).mono ?_; rintro e w' ⟨rfl, rfl⟩))
  all_goals
    go_ret
    refine ⟨ret_i64 ?_, (by repeat (first | with_reducible exact Ext.refl _ | with_reducible assumption | with_reducible refine Ext.drew ?_ | with_reducible refine Ext.drewN ?_ _ | with_reducible refine Ext.alloc ?_ _ | (with_reducible refine Ext.setCell ?_ (by first | omega | (simp; done) | (simp; omega)) _)))⟩
    rw [chkR_eq]
    clear c0 c1 c2 c3 c4 c5 hx hz hz2
    simp only [nil_iff, isEmpty_eq, size_beq] at *
    generalize ((wordB an).toList == []) = wb at *
    generalize nameB anm = n1 at *
    generalize nameB aky = n2 at *
    generalize nameB afr = n3 at *
    generalize nameB ato = n4 at *
    simp only [numB, keyK] at *
    first | (simp_all; done) | (simp_all; omega)

set_option maxRecDepth 100000 in
set_option maxHeartbeats 3200000 in
theorem s_Check4 (an : Int) (anm aky afr ato : ByteArray) (w : World) : Calls Tryz.prog 6 #[.agg #[.int .i64 4, .int .i64 an, .string anm, .string aky, .string afr, .string ato]] w fun e w' => e = .returned (.int .i64 (chkR ⟨4, an, anm, aky, afr, ato⟩)) ∧ Ext w w' := by
  have HF := Lib.hid (fun W => (by exact s_fields 4 W : Calls Tryz.prog 22 #[.int .i64 4] W fun e w' => e = .returned (.tuple #[.agg #[.bool true, .bool false, .bool false], .bool true]) ∧ Below W.heap.size W w'))
  obtain ⟨g, w1, hg, hw1, hb, hx, -⟩ := box_rule w ⟨4, an, anm, aky, afr, ato⟩ 23
  go_enter Tryz.func6, Tryz.ntmps6
  obtain ⟨c0, c1, c2, c3, c4, c5⟩ := id hb
  simp only at c0 c1 c2 c3 c4 c5 hw1
  have HW1 := Lib.hid hw1
  have HG := Lib.hid hg
  clear hw1 hg
  go_wp2_with fail
  rw [← HW1.out, ← HG.out]
  go_wp2_with fail
  refine (HF.out _).mono ?_
  rintro e w2 ⟨rfl, hb2⟩
  have hb2 : Ext w1 w2 := hb2
  replace hb := hb.ext hb2
  replace hx := hx.trans hb2
  have hz : g < w2.heap.size := block_lt_of_cell hb.1
  have hz2 := hx.le
  clear c0 c1 c2 c3 c4 c5 hb2 HW1 HG HF
  obtain ⟨c0, c1, c2, c3, c4, c5⟩ := hb
  simp only at c0 c1 c2 c3 c4 c5
  have we := word_empty an
  go_wp2_with (first | (go_at_call 24; refine (g_Name _ _).mono ?_; rintro e w' ⟨rfl, rfl⟩) | (go_at_call 23; refine (s_kindText _ _).mono ?_; rintro e w' ⟨rfl, rfl⟩))
  all_goals
    go_ret
    refine ⟨ret_i64 ?_, (by repeat (first | with_reducible exact Ext.refl _ | with_reducible assumption | with_reducible refine Ext.drew ?_ | with_reducible refine Ext.drewN ?_ _ | with_reducible refine Ext.alloc ?_ _ | (with_reducible refine Ext.setCell ?_ (by first | omega | (simp; done) | (simp; omega)) _)))⟩
    rw [chkR_eq]
    clear c0 c1 c2 c3 c4 c5 hx hz hz2
    simp only [nil_iff, isEmpty_eq, size_beq] at *
    generalize ((wordB an).toList == []) = wb at *
    generalize nameB anm = n1 at *
    generalize nameB aky = n2 at *
    generalize nameB afr = n3 at *
    generalize nameB ato = n4 at *
    simp only [numB, keyK] at *
    first | (simp_all; done) | (simp_all; omega)

set_option maxRecDepth 100000 in
set_option maxHeartbeats 3200000 in
theorem s_Check5 (an : Int) (anm aky afr ato : ByteArray) (w : World) : Calls Tryz.prog 6 #[.agg #[.int .i64 5, .int .i64 an, .string anm, .string aky, .string afr, .string ato]] w fun e w' => e = .returned (.int .i64 (chkR ⟨5, an, anm, aky, afr, ato⟩)) ∧ Ext w w' := by
  have HF := Lib.hid (fun W => (by exact s_fields 5 W : Calls Tryz.prog 22 #[.int .i64 5] W fun e w' => e = .returned (.tuple #[.agg #[.bool true, .bool true, .bool false], .bool true]) ∧ Below W.heap.size W w'))
  obtain ⟨g, w1, hg, hw1, hb, hx, -⟩ := box_rule w ⟨5, an, anm, aky, afr, ato⟩ 23
  go_enter Tryz.func6, Tryz.ntmps6
  obtain ⟨c0, c1, c2, c3, c4, c5⟩ := id hb
  simp only at c0 c1 c2 c3 c4 c5 hw1
  have HW1 := Lib.hid hw1
  have HG := Lib.hid hg
  clear hw1 hg
  go_wp2_with fail
  rw [← HW1.out, ← HG.out]
  go_wp2_with fail
  refine (HF.out _).mono ?_
  rintro e w2 ⟨rfl, hb2⟩
  have hb2 : Ext w1 w2 := hb2
  replace hb := hb.ext hb2
  replace hx := hx.trans hb2
  have hz : g < w2.heap.size := block_lt_of_cell hb.1
  have hz2 := hx.le
  clear c0 c1 c2 c3 c4 c5 hb2 HW1 HG HF
  obtain ⟨c0, c1, c2, c3, c4, c5⟩ := hb
  simp only at c0 c1 c2 c3 c4 c5
  have we := word_empty an
  go_wp2_with (first | (go_at_call 24; refine (g_Name _ _).mono ?_; rintro e w' ⟨rfl, rfl⟩) | (go_at_call 23; refine (s_kindText _ _).mono ?_; rintro e w' ⟨rfl, rfl⟩))
  all_goals
    go_ret
    refine ⟨ret_i64 ?_, (by repeat (first | with_reducible exact Ext.refl _ | with_reducible assumption | with_reducible refine Ext.drew ?_ | with_reducible refine Ext.drewN ?_ _ | with_reducible refine Ext.alloc ?_ _ | (with_reducible refine Ext.setCell ?_ (by first | omega | (simp; done) | (simp; omega)) _)))⟩
    rw [chkR_eq]
    clear c0 c1 c2 c3 c4 c5 hx hz hz2
    simp only [nil_iff, isEmpty_eq, size_beq] at *
    generalize ((wordB an).toList == []) = wb at *
    generalize nameB anm = n1 at *
    generalize nameB aky = n2 at *
    generalize nameB afr = n3 at *
    generalize nameB ato = n4 at *
    simp only [numB, keyK] at *
    first | (simp_all; done) | (simp_all; omega)

set_option maxRecDepth 100000 in
set_option maxHeartbeats 3200000 in
theorem s_Check6 (an : Int) (anm aky afr ato : ByteArray) (w : World) : Calls Tryz.prog 6 #[.agg #[.int .i64 6, .int .i64 an, .string anm, .string aky, .string afr, .string ato]] w fun e w' => e = .returned (.int .i64 (chkR ⟨6, an, anm, aky, afr, ato⟩)) ∧ Ext w w' := by
  have HF := Lib.hid (fun W => (by exact s_fields 6 W : Calls Tryz.prog 22 #[.int .i64 6] W fun e w' => e = .returned (.tuple #[.agg #[.bool false, .bool false, .bool true], .bool true]) ∧ Below W.heap.size W w'))
  obtain ⟨g, w1, hg, hw1, hb, hx, -⟩ := box_rule w ⟨6, an, anm, aky, afr, ato⟩ 23
  go_enter Tryz.func6, Tryz.ntmps6
  obtain ⟨c0, c1, c2, c3, c4, c5⟩ := id hb
  simp only at c0 c1 c2 c3 c4 c5 hw1
  have HW1 := Lib.hid hw1
  have HG := Lib.hid hg
  clear hw1 hg
  go_wp2_with fail
  rw [← HW1.out, ← HG.out]
  go_wp2_with fail
  refine (HF.out _).mono ?_
  rintro e w2 ⟨rfl, hb2⟩
  have hb2 : Ext w1 w2 := hb2
  replace hb := hb.ext hb2
  replace hx := hx.trans hb2
  have hz : g < w2.heap.size := block_lt_of_cell hb.1
  have hz2 := hx.le
  clear c0 c1 c2 c3 c4 c5 hb2 HW1 HG HF
  obtain ⟨c0, c1, c2, c3, c4, c5⟩ := hb
  simp only at c0 c1 c2 c3 c4 c5
  have we := word_empty an
  go_wp2_with (first | (go_at_call 24; refine (g_Name _ _).mono ?_; rintro e w' ⟨rfl, rfl⟩) | (go_at_call 23; refine (s_kindText _ _).mono ?_; rintro e w' ⟨rfl, rfl⟩))
  all_goals
    go_ret
    refine ⟨ret_i64 ?_, (by repeat (first | with_reducible exact Ext.refl _ | with_reducible assumption | with_reducible refine Ext.drew ?_ | with_reducible refine Ext.drewN ?_ _ | with_reducible refine Ext.alloc ?_ _ | (with_reducible refine Ext.setCell ?_ (by first | omega | (simp; done) | (simp; omega)) _)))⟩
    rw [chkR_eq]
    clear c0 c1 c2 c3 c4 c5 hx hz hz2
    simp only [nil_iff, isEmpty_eq, size_beq] at *
    generalize ((wordB an).toList == []) = wb at *
    generalize nameB anm = n1 at *
    generalize nameB aky = n2 at *
    generalize nameB afr = n3 at *
    generalize nameB ato = n4 at *
    simp only [numB, keyK] at *
    first | (simp_all; done) | (simp_all; omega)

set_option maxRecDepth 100000 in
set_option maxHeartbeats 3200000 in
theorem s_Check7 (an : Int) (anm aky afr ato : ByteArray) (w : World) : Calls Tryz.prog 6 #[.agg #[.int .i64 7, .int .i64 an, .string anm, .string aky, .string afr, .string ato]] w fun e w' => e = .returned (.int .i64 (chkR ⟨7, an, anm, aky, afr, ato⟩)) ∧ Ext w w' := by
  have HF := Lib.hid (fun W => (by exact s_fields 7 W : Calls Tryz.prog 22 #[.int .i64 7] W fun e w' => e = .returned (.tuple #[.agg #[.bool false, .bool true, .bool false], .bool true]) ∧ Below W.heap.size W w'))
  obtain ⟨g, w1, hg, hw1, hb, hx, -⟩ := box_rule w ⟨7, an, anm, aky, afr, ato⟩ 23
  go_enter Tryz.func6, Tryz.ntmps6
  obtain ⟨c0, c1, c2, c3, c4, c5⟩ := id hb
  simp only at c0 c1 c2 c3 c4 c5 hw1
  have HW1 := Lib.hid hw1
  have HG := Lib.hid hg
  clear hw1 hg
  go_wp2_with fail
  rw [← HW1.out, ← HG.out]
  go_wp2_with fail
  refine (HF.out _).mono ?_
  rintro e w2 ⟨rfl, hb2⟩
  have hb2 : Ext w1 w2 := hb2
  replace hb := hb.ext hb2
  replace hx := hx.trans hb2
  have hz : g < w2.heap.size := block_lt_of_cell hb.1
  have hz2 := hx.le
  clear c0 c1 c2 c3 c4 c5 hb2 HW1 HG HF
  obtain ⟨c0, c1, c2, c3, c4, c5⟩ := hb
  simp only at c0 c1 c2 c3 c4 c5
  have we := word_empty an
  go_wp2_with (first | (go_at_call 24; refine (g_Name _ _).mono ?_; rintro e w' ⟨rfl, rfl⟩) | (go_at_call 23; refine (s_kindText _ _).mono ?_; rintro e w' ⟨rfl, rfl⟩))
  all_goals
    go_ret
    refine ⟨ret_i64 ?_, (by repeat (first | with_reducible exact Ext.refl _ | with_reducible assumption | with_reducible refine Ext.drew ?_ | with_reducible refine Ext.drewN ?_ _ | with_reducible refine Ext.alloc ?_ _ | (with_reducible refine Ext.setCell ?_ (by first | omega | (simp; done) | (simp; omega)) _)))⟩
    rw [chkR_eq]
    clear c0 c1 c2 c3 c4 c5 hx hz hz2
    simp only [nil_iff, isEmpty_eq, size_beq] at *
    generalize ((wordB an).toList == []) = wb at *
    generalize nameB anm = n1 at *
    generalize nameB aky = n2 at *
    generalize nameB afr = n3 at *
    generalize nameB ato = n4 at *
    simp only [numB, keyK] at *
    first | (simp_all; done) | (simp_all; omega)

set_option maxRecDepth 100000 in
set_option maxHeartbeats 3200000 in
theorem s_Checko (ak : Int) (hk : (ak == 1) = false ∧ (ak == 2) = false ∧ (ak == 3) = false ∧ (ak == 4) = false ∧ (ak == 5) = false ∧ (ak == 6) = false ∧ (ak == 7) = false) (an : Int) (anm aky afr ato : ByteArray) (w : World) : Calls Tryz.prog 6 #[.agg #[.int .i64 ak, .int .i64 an, .string anm, .string aky, .string afr, .string ato]] w fun e w' => e = .returned (.int .i64 (chkR ⟨ak, an, anm, aky, afr, ato⟩)) ∧ Ext w w' := by
  have hfl := flags_other (other_ne hk)
  have hne := other_ne hk
  have HF := Lib.hid (fun W => (by have h := s_fields ak W; rw [hfl.1, hfl.2.1, hfl.2.2.1, hfl.2.2.2] at h; exact h : Calls Tryz.prog 22 #[.int .i64 ak] W fun e w' => e = .returned (.tuple #[.agg #[.bool false, .bool false, .bool false], .bool false]) ∧ Below W.heap.size W w'))
  have HR := Lib.hid (show chkR ⟨ak, an, anm, aky, afr, ato⟩ = 1 by rw [chkR_eq, if_pos (by omega)])
  clear hfl hne hk
  obtain ⟨g, w1, hg, hw1, hb, hx, -⟩ := box_rule w ⟨ak, an, anm, aky, afr, ato⟩ 23
  go_enter Tryz.func6, Tryz.ntmps6
  obtain ⟨c0, c1, c2, c3, c4, c5⟩ := id hb
  simp only at c0 c1 c2 c3 c4 c5 hw1
  have HW1 := Lib.hid hw1
  have HG := Lib.hid hg
  clear hw1 hg
  go_wp2_with fail
  rw [← HW1.out, ← HG.out]
  go_wp2_with fail
  refine (HF.out _).mono ?_
  rintro e w2 ⟨rfl, hb2⟩
  have hb2 : Ext w1 w2 := hb2
  replace hb := hb.ext hb2
  replace hx := hx.trans hb2
  have hz : g < w2.heap.size := block_lt_of_cell hb.1
  have hz2 := hx.le
  clear c0 c1 c2 c3 c4 c5 hb2 HW1 HG HF
  obtain ⟨c0, c1, c2, c3, c4, c5⟩ := hb
  simp only at c0 c1 c2 c3 c4 c5
  have we := word_empty an
  go_wp2_with (first | (go_at_call 24; refine (g_Name _ _).mono ?_; rintro e w' ⟨rfl, rfl⟩) | (go_at_call 23; refine (s_kindText _ _).mono ?_; rintro e w' ⟨rfl, rfl⟩))
  all_goals
    go_ret
    refine ⟨ret_i64 ?_, (by repeat (first | with_reducible exact Ext.refl _ | with_reducible assumption | with_reducible refine Ext.drew ?_ | with_reducible refine Ext.drewN ?_ _ | with_reducible refine Ext.alloc ?_ _ | (with_reducible refine Ext.setCell ?_ (by first | omega | (simp; done) | (simp; omega)) _)))⟩
    exact HR.out.symm

theorem s_Check (a : RuleP) (w : World) : Calls Tryz.prog 6 #[a.val] w fun e w' => e = .returned (.int .i64 (chkR a)) ∧ Ext w w' := by
  obtain ⟨ak, an, anm, aky, afr, ato⟩ := a
  rcases kind_cases ak with rfl | rfl | rfl | rfl | rfl | rfl | rfl | h
  · exact s_Check1 an anm aky afr ato w
  · exact s_Check2 an anm aky afr ato w
  · exact s_Check3 an anm aky afr ato w
  · exact s_Check4 an anm aky afr ato w
  · exact s_Check5 an anm aky afr ato w
  · exact s_Check6 an anm aky afr ato w
  · exact s_Check7 an anm aky afr ato w
  · exact s_Checko ak h an anm aky afr ato w

end Go.Proofs.YtanclhcoiagcfaaGreatDoor
