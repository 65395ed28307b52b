/- THE WALKS over the small functions of schema and of its reference. -/
import Derived.Test.YtanclhcoiagcfaaGreatDoorSchB
namespace Go.Proofs.YtanclhcoiagcfaaGreatDoor
open Go.RowKit

theorem kind_cases (k : Int) : k = 1 ∨ k = 2 ∨ k = 3 ∨ k = 4 ∨ k = 5 ∨ k = 6 ∨ k = 7 ∨ ((k == 1) = false ∧ (k == 2) = false ∧ (k == 3) = false ∧ (k == 4) = false ∧ (k == 5) = false ∧ (k == 6) = false ∧ (k == 7) = false) := by
  simp only [beq_eq_false_iff_ne]; omega

def faultV (k : Int) : Int := if k = 1 then 13 else if k = 2 ∨ k = 4 then 14 else if k = 3 ∨ k = 5 then 15 else if k = 6 then 16 else if k = 7 then 17 else 0
def nK (k : Int) : Bool := decide (k = 3) || decide (k = 5) || decide (k = 7)
def eK (k : Int) : Bool := decide (k = 6)
def okK (k : Int) : Bool := decide (1 ≤ k) && decide (k ≤ 7)
theorem ret_i64 {a b : Int} (h : a = b) : Ending.returned (.int .i64 a) = .returned (.int .i64 b) := by rw [h]
theorem ret_text {a b : ByteArray} (h : a = b) : Ending.returned (.string a) = .returned (.string b) := by rw [h]
theorem other_ne {k : Int} (h : (k == 1) = false ∧ (k == 2) = false ∧ (k == 3) = false ∧ (k == 4) = false ∧ (k == 5) = false ∧ (k == 6) = false ∧ (k == 7) = false) : k ≠ 1 ∧ k ≠ 2 ∧ k ≠ 3 ∧ k ≠ 4 ∧ k ≠ 5 ∧ k ≠ 6 ∧ k ≠ 7 := by
  simpa only [beq_eq_false_iff_ne] using h
theorem faultV_other {k : Int} (h : k ≠ 1 ∧ k ≠ 2 ∧ k ≠ 3 ∧ k ≠ 4 ∧ k ≠ 5 ∧ k ≠ 6 ∧ k ≠ 7) : faultV k = 0 := by
  unfold faultV; (repeat' split) <;> omega
theorem headL_other {k : Int} (h : k ≠ 1 ∧ k ≠ 2 ∧ k ≠ 3 ∧ k ≠ 4 ∧ k ≠ 5 ∧ k ≠ 6 ∧ k ≠ 7) : headL k = [] := by
  unfold headL; (repeat' split) <;> first | rfl | omega
theorem flags_other {k : Int} (h : k ≠ 1 ∧ k ≠ 2 ∧ k ≠ 3 ∧ k ≠ 4 ∧ k ≠ 5 ∧ k ≠ 6 ∧ k ≠ 7) : keyK k = false ∧ nK k = false ∧ eK k = false ∧ okK k = false := by
  unfold keyK nK eK okK
  simp only [Bool.or_eq_false_iff, Bool.and_eq_false_iff, decide_eq_false_iff_not]
  omega

theorem s_Fault (k : Int) (w : World) : Calls Tryz.prog 10 #[.int .i64 k] w fun e w' => e = .returned (.int .i64 (faultV k)) ∧ w' = w := by
  rcases kind_cases k with rfl | rfl | rfl | rfl | rfl | rfl | rfl | h
  all_goals first
    | (have HF := Lib.hid (faultV_other (other_ne h))
       obtain ⟨h1, h2, h3, h4, h5, h6, h7⟩ := h
       go_enter Tryz.func10, Tryz.ntmps10
       go_wp2
       go_ret
       exact ⟨ret_i64 HF.out.symm, rfl⟩)
    | (go_enter Tryz.func10, Tryz.ntmps10
       go_wp2
       go_ret
       exact ⟨rfl, rfl⟩)

theorem r9_Fault (k : Int) (w : World) : Calls Tryz.prog 11 #[.int .i64 k] w fun e w' => e = .returned (.int .i64 (faultV k)) ∧ w' = w := by
  rcases kind_cases k with rfl | rfl | rfl | rfl | rfl | rfl | rfl | h
  all_goals first
    | (have HF := Lib.hid (faultV_other (other_ne h))
       obtain ⟨h1, h2, h3, h4, h5, h6, h7⟩ := h
       go_enter Tryz.func11, Tryz.ntmps11
       go_wp2
       go_ret
       exact ⟨ret_i64 HF.out.symm, rfl⟩)
    | (go_enter Tryz.func11, Tryz.ntmps11
       go_wp2
       go_ret
       exact ⟨rfl, rfl⟩)

theorem s_fields (k : Int) (w : World) : Calls Tryz.prog 22 #[.int .i64 k] w fun e w' => e = .returned (.tuple #[.agg #[.bool (keyK k), .bool (nK k), .bool (eK k)], .bool (okK k)]) ∧ Below w.heap.size w w' := by
  rcases kind_cases k with rfl | rfl | rfl | rfl | rfl | rfl | rfl | h
  · go_enter Tryz.func22, Tryz.ntmps22
    go_wp2
    refine bodyPost_ret (v := .tuple #[.agg #[.bool true, .bool false, .bool false], .bool true]) (by simp [results, Tryz.results22, go_sem]) rfl ?_
    exact ⟨rfl, (by repeat (first | with_reducible exact Below.refl _ _ | with_reducible assumption | with_reducible refine below_drewN' ?_ _ | (with_reducible refine Below.setCell ?_ (by first | (simp; done) | (simp; omega)) _) | (with_reducible refine Below.alloc ?_ (by first | exact Nat.le_refl _ | (simp; done) | (simp; omega)) _)))⟩
  · go_enter Tryz.func22, Tryz.ntmps22
    go_wp2
    refine bodyPost_ret (v := .tuple #[.agg #[.bool true, .bool false, .bool false], .bool true]) (by simp [results, Tryz.results22, go_sem]) rfl ?_
    exact ⟨rfl, (by repeat (first | with_reducible exact Below.refl _ _ | with_reducible assumption | with_reducible refine below_drewN' ?_ _ | (with_reducible refine Below.setCell ?_ (by first | (simp; done) | (simp; omega)) _) | (with_reducible refine Below.alloc ?_ (by first | exact Nat.le_refl _ | (simp; done) | (simp; omega)) _)))⟩
  · go_enter Tryz.func22, Tryz.ntmps22
    go_wp2
    refine bodyPost_ret (v := .tuple #[.agg #[.bool true, .bool true, .bool false], .bool true]) (by simp [results, Tryz.results22, go_sem]) rfl ?_
    exact ⟨rfl, (by repeat (first | with_reducible exact Below.refl _ _ | with_reducible assumption | with_reducible refine below_drewN' ?_ _ | (with_reducible refine Below.setCell ?_ (by first | (simp; done) | (simp; omega)) _) | (with_reducible refine Below.alloc ?_ (by first | exact Nat.le_refl _ | (simp; done) | (simp; omega)) _)))⟩
  · go_enter Tryz.func22, Tryz.ntmps22
    go_wp2
    refine bodyPost_ret (v := .tuple #[.agg #[.bool true, .bool false, .bool false], .bool true]) (by simp [results, Tryz.results22, go_sem]) rfl ?_
    exact ⟨rfl, (by repeat (first | with_reducible exact Below.refl _ _ | with_reducible assumption | with_reducible refine below_drewN' ?_ _ | (with_reducible refine Below.setCell ?_ (by first | (simp; done) | (simp; omega)) _) | (with_reducible refine Below.alloc ?_ (by first | exact Nat.le_refl _ | (simp; done) | (simp; omega)) _)))⟩
  · go_enter Tryz.func22, Tryz.ntmps22
    go_wp2
    refine bodyPost_ret (v := .tuple #[.agg #[.bool true, .bool true, .bool false], .bool true]) (by simp [results, Tryz.results22, go_sem]) rfl ?_
    exact ⟨rfl, (by repeat (first | with_reducible exact Below.refl _ _ | with_reducible assumption | with_reducible refine below_drewN' ?_ _ | (with_reducible refine Below.setCell ?_ (by first | (simp; done) | (simp; omega)) _) | (with_reducible refine Below.alloc ?_ (by first | exact Nat.le_refl _ | (simp; done) | (simp; omega)) _)))⟩
  · go_enter Tryz.func22, Tryz.ntmps22
    go_wp2
    refine bodyPost_ret (v := .tuple #[.agg #[.bool false, .bool false, .bool true], .bool true]) (by simp [results, Tryz.results22, go_sem]) rfl ?_
    exact ⟨rfl, (by repeat (first | with_reducible exact Below.refl _ _ | with_reducible assumption | with_reducible refine below_drewN' ?_ _ | (with_reducible refine Below.setCell ?_ (by first | (simp; done) | (simp; omega)) _) | (with_reducible refine Below.alloc ?_ (by first | exact Nat.le_refl _ | (simp; done) | (simp; omega)) _)))⟩
  · go_enter Tryz.func22, Tryz.ntmps22
    go_wp2
    refine bodyPost_ret (v := .tuple #[.agg #[.bool false, .bool true, .bool false], .bool true]) (by simp [results, Tryz.results22, go_sem]) rfl ?_
    exact ⟨rfl, (by repeat (first | with_reducible exact Below.refl _ _ | with_reducible assumption | with_reducible refine below_drewN' ?_ _ | (with_reducible refine Below.setCell ?_ (by first | (simp; done) | (simp; omega)) _) | (with_reducible refine Below.alloc ?_ (by first | exact Nat.le_refl _ | (simp; done) | (simp; omega)) _)))⟩
  · obtain ⟨f1, f2, f3, f4⟩ := flags_other (other_ne h)
    rw [f1, f2, f3, f4]
    obtain ⟨h1, h2, h3, h4, h5, h6, h7⟩ := h
    clear f1 f2 f3 f4
    go_enter Tryz.func22, Tryz.ntmps22
    go_wp2
    refine bodyPost_ret (v := .tuple #[.agg #[.bool false, .bool false, .bool false], .bool false]) (by simp [results, Tryz.results22, go_sem]) rfl ?_
    exact ⟨rfl, (by repeat (first | with_reducible exact Below.refl _ _ | with_reducible assumption | with_reducible refine below_drewN' ?_ _ | (with_reducible refine Below.setCell ?_ (by first | (simp; done) | (simp; omega)) _) | (with_reducible refine Below.alloc ?_ (by first | exact Nat.le_refl _ | (simp; done) | (simp; omega)) _)))⟩

def headB (k : Int) : ByteArray := asB (headL k)
def wordB (k : Int) : ByteArray := asB (wordN k)

theorem s_kindText (k : Int) (w : World) : Calls Tryz.prog 23 #[.int .i64 k] w fun e w' => e = .returned (.string (wordB k)) ∧ w' = w := by
  by_cases h1 : k = 1
  · subst h1
    go_enter Tryz.func23, Tryz.ntmps23
    go_wp2
    go_ret
    exact ⟨rfl, rfl⟩
  · by_cases h2 : k = 2
    · subst h2
      go_enter Tryz.func23, Tryz.ntmps23
      go_wp2
      go_ret
      exact ⟨rfl, rfl⟩
    · by_cases h4 : k = 4
      · subst h4
        go_enter Tryz.func23, Tryz.ntmps23
        go_wp2
        go_ret
        exact ⟨rfl, rfl⟩
      · have HW := Lib.hid (show wordB k = ByteArray.empty by unfold wordB wordN; rw [if_neg h1, if_neg h2, if_neg h4]; rfl)
        have e1 : (k == 1) = false := beq_eq_false_iff_ne.2 h1
        have e2 : (k == 2) = false := beq_eq_false_iff_ne.2 h2
        have e4 : (k == 4) = false := beq_eq_false_iff_ne.2 h4
        go_enter Tryz.func23, Tryz.ntmps23
        go_wp2
        go_ret
        exact ⟨ret_text HW.out.symm, rfl⟩

def headCells : Array Value := #[.string ⟨#[]⟩, .string ⟨#[117, 110, 105, 113, 117, 101]⟩, .string ⟨#[101, 120, 105, 115, 116, 115]⟩, .string ⟨#[107, 105, 110, 100]⟩, .string ⟨#[101, 100, 103, 101, 32, 101, 120, 105, 115, 116, 115]⟩, .string ⟨#[101, 100, 103, 101, 32, 107, 105, 110, 100]⟩, .string ⟨#[101, 110, 100, 115]⟩, .string ⟨#[109, 97, 120, 111, 117, 116]⟩]
theorem head_type : Tryz.prog.underlying 64 = some (.array 8 9) := by kernel_rfl
theorem head_ix (k : Nat) (hk : k < 8) (w : World) : Sem.run Tryz.prog (Instr.index 64 (.agg headCells) (.int .i64 k)) w = .ok (headCells[k]'hk) w := by
  have hs : ∀ w, Sem.run Tryz.prog (Go.sizeOf 9) w = .ok 1 w := fun w => Tryz.sizeOf9 w
  have ha : ∀ w, Sem.run Tryz.prog (Go.isAgg 9) w = .ok false w := fun w => Tryz.isAgg9 w
  have h8 : (0 : Int) ≤ (k : Int) ∧ (k : Int) < 8 := by omega
  have hg : headCells[k]? = some (headCells[k]'hk) := Array.getElem?_eq_getElem hk
  simp [Instr.index, asIntOf, run_underlying head_type, hs, h8]
  rw [if_pos hk]
  simp [part, ha, hg]

theorem s_head1 (w : World) : Calls Tryz.prog 28 #[.int .i64 1] w fun e w' => e = .returned (.string (headB 1)) ∧ w' = w := by
  have hix : ∀ w, Sem.run Tryz.prog (Instr.index 64 (.agg #[.string ⟨#[]⟩, .string ⟨#[117, 110, 105, 113, 117, 101]⟩, .string ⟨#[101, 120, 105, 115, 116, 115]⟩, .string ⟨#[107, 105, 110, 100]⟩, .string ⟨#[101, 100, 103, 101, 32, 101, 120, 105, 115, 116, 115]⟩, .string ⟨#[101, 100, 103, 101, 32, 107, 105, 110, 100]⟩, .string ⟨#[101, 110, 100, 115]⟩, .string ⟨#[109, 97, 120, 111, 117, 116]⟩]) (.int .i64 1)) w = .ok (.string ⟨#[117, 110, 105, 113, 117, 101]⟩) w := fun w => head_ix 1 (by decide) w
  go_enter Tryz.func28, Tryz.ntmps28
  go_wp2
  go_ret
  exact ⟨rfl, rfl⟩

theorem s_head2 (w : World) : Calls Tryz.prog 28 #[.int .i64 2] w fun e w' => e = .returned (.string (headB 2)) ∧ w' = w := by
  have hix : ∀ w, Sem.run Tryz.prog (Instr.index 64 (.agg #[.string ⟨#[]⟩, .string ⟨#[117, 110, 105, 113, 117, 101]⟩, .string ⟨#[101, 120, 105, 115, 116, 115]⟩, .string ⟨#[107, 105, 110, 100]⟩, .string ⟨#[101, 100, 103, 101, 32, 101, 120, 105, 115, 116, 115]⟩, .string ⟨#[101, 100, 103, 101, 32, 107, 105, 110, 100]⟩, .string ⟨#[101, 110, 100, 115]⟩, .string ⟨#[109, 97, 120, 111, 117, 116]⟩]) (.int .i64 2)) w = .ok (.string ⟨#[101, 120, 105, 115, 116, 115]⟩) w := fun w => head_ix 2 (by decide) w
  go_enter Tryz.func28, Tryz.ntmps28
  go_wp2
  go_ret
  exact ⟨rfl, rfl⟩

theorem s_head3 (w : World) : Calls Tryz.prog 28 #[.int .i64 3] w fun e w' => e = .returned (.string (headB 3)) ∧ w' = w := by
  have hix : ∀ w, Sem.run Tryz.prog (Instr.index 64 (.agg #[.string ⟨#[]⟩, .string ⟨#[117, 110, 105, 113, 117, 101]⟩, .string ⟨#[101, 120, 105, 115, 116, 115]⟩, .string ⟨#[107, 105, 110, 100]⟩, .string ⟨#[101, 100, 103, 101, 32, 101, 120, 105, 115, 116, 115]⟩, .string ⟨#[101, 100, 103, 101, 32, 107, 105, 110, 100]⟩, .string ⟨#[101, 110, 100, 115]⟩, .string ⟨#[109, 97, 120, 111, 117, 116]⟩]) (.int .i64 3)) w = .ok (.string ⟨#[107, 105, 110, 100]⟩) w := fun w => head_ix 3 (by decide) w
  go_enter Tryz.func28, Tryz.ntmps28
  go_wp2
  go_ret
  exact ⟨rfl, rfl⟩

theorem s_head4 (w : World) : Calls Tryz.prog 28 #[.int .i64 4] w fun e w' => e = .returned (.string (headB 4)) ∧ w' = w := by
  have hix : ∀ w, Sem.run Tryz.prog (Instr.index 64 (.agg #[.string ⟨#[]⟩, .string ⟨#[117, 110, 105, 113, 117, 101]⟩, .string ⟨#[101, 120, 105, 115, 116, 115]⟩, .string ⟨#[107, 105, 110, 100]⟩, .string ⟨#[101, 100, 103, 101, 32, 101, 120, 105, 115, 116, 115]⟩, .string ⟨#[101, 100, 103, 101, 32, 107, 105, 110, 100]⟩, .string ⟨#[101, 110, 100, 115]⟩, .string ⟨#[109, 97, 120, 111, 117, 116]⟩]) (.int .i64 4)) w = .ok (.string ⟨#[101, 100, 103, 101, 32, 101, 120, 105, 115, 116, 115]⟩) w := fun w => head_ix 4 (by decide) w
  go_enter Tryz.func28, Tryz.ntmps28
  go_wp2
  go_ret
  exact ⟨rfl, rfl⟩

theorem s_head5 (w : World) : Calls Tryz.prog 28 #[.int .i64 5] w fun e w' => e = .returned (.string (headB 5)) ∧ w' = w := by
  have hix : ∀ w, Sem.run Tryz.prog (Instr.index 64 (.agg #[.string ⟨#[]⟩, .string ⟨#[117, 110, 105, 113, 117, 101]⟩, .string ⟨#[101, 120, 105, 115, 116, 115]⟩, .string ⟨#[107, 105, 110, 100]⟩, .string ⟨#[101, 100, 103, 101, 32, 101, 120, 105, 115, 116, 115]⟩, .string ⟨#[101, 100, 103, 101, 32, 107, 105, 110, 100]⟩, .string ⟨#[101, 110, 100, 115]⟩, .string ⟨#[109, 97, 120, 111, 117, 116]⟩]) (.int .i64 5)) w = .ok (.string ⟨#[101, 100, 103, 101, 32, 107, 105, 110, 100]⟩) w := fun w => head_ix 5 (by decide) w
  go_enter Tryz.func28, Tryz.ntmps28
  go_wp2
  go_ret
  exact ⟨rfl, rfl⟩

theorem s_head6 (w : World) : Calls Tryz.prog 28 #[.int .i64 6] w fun e w' => e = .returned (.string (headB 6)) ∧ w' = w := by
  have hix : ∀ w, Sem.run Tryz.prog (Instr.index 64 (.agg #[.string ⟨#[]⟩, .string ⟨#[117, 110, 105, 113, 117, 101]⟩, .string ⟨#[101, 120, 105, 115, 116, 115]⟩, .string ⟨#[107, 105, 110, 100]⟩, .string ⟨#[101, 100, 103, 101, 32, 101, 120, 105, 115, 116, 115]⟩, .string ⟨#[101, 100, 103, 101, 32, 107, 105, 110, 100]⟩, .string ⟨#[101, 110, 100, 115]⟩, .string ⟨#[109, 97, 120, 111, 117, 116]⟩]) (.int .i64 6)) w = .ok (.string ⟨#[101, 110, 100, 115]⟩) w := fun w => head_ix 6 (by decide) w
  go_enter Tryz.func28, Tryz.ntmps28
  go_wp2
  go_ret
  exact ⟨rfl, rfl⟩

theorem s_head7 (w : World) : Calls Tryz.prog 28 #[.int .i64 7] w fun e w' => e = .returned (.string (headB 7)) ∧ w' = w := by
  have hix : ∀ w, Sem.run Tryz.prog (Instr.index 64 (.agg #[.string ⟨#[]⟩, .string ⟨#[117, 110, 105, 113, 117, 101]⟩, .string ⟨#[101, 120, 105, 115, 116, 115]⟩, .string ⟨#[107, 105, 110, 100]⟩, .string ⟨#[101, 100, 103, 101, 32, 101, 120, 105, 115, 116, 115]⟩, .string ⟨#[101, 100, 103, 101, 32, 107, 105, 110, 100]⟩, .string ⟨#[101, 110, 100, 115]⟩, .string ⟨#[109, 97, 120, 111, 117, 116]⟩]) (.int .i64 7)) w = .ok (.string ⟨#[109, 97, 120, 111, 117, 116]⟩) w := fun w => head_ix 7 (by decide) w
  go_enter Tryz.func28, Tryz.ntmps28
  go_wp2
  go_ret
  exact ⟨rfl, rfl⟩

theorem s_head (k : Int) (w : World) (h1 : 1 ≤ k) (h7 : k ≤ 7) : Calls Tryz.prog 28 #[.int .i64 k] w fun e w' => e = .returned (.string (headB k)) ∧ w' = w := by
  have h : k = 1 ∨ k = 2 ∨ k = 3 ∨ k = 4 ∨ k = 5 ∨ k = 6 ∨ k = 7 := by omega
  rcases h with rfl | rfl | rfl | rfl | rfl | rfl | rfl
  · exact s_head1 w
  · exact s_head2 w
  · exact s_head3 w
  · exact s_head4 w
  · exact s_head5 w
  · exact s_head6 w
  · exact s_head7 w

theorem s_truth (b : Bool) (w : World) : Calls Tryz.prog 45 #[.bool b] w fun e w' => e = .returned (.int .i64 (if b then 1 else 0)) ∧ w' = w := by
  cases b
  all_goals
    go_enter Tryz.func45, Tryz.ntmps45
    go_wp2
    go_ret
    exact ⟨rfl, rfl⟩

theorem star_beq (s : ByteArray) : (s.toList == ([42] : List UInt8)) = decide (s.data.toList = [42]) := by
  rw [ByteArray.toList_eq, Bool.eq_iff_iff]; simp

theorem s_label (s : ByteArray) (w : World) : Calls Tryz.prog 44 #[.string s] w fun e w' => e = .returned (.string (someB s)) ∧ w' = w := by
  by_cases h : s.data.toList = [42]
  · have HV := Lib.hid (show someB s = ByteArray.empty by unfold someB; rw [if_pos h]; rfl)
    have hb : (s.toList == ([42] : List UInt8)) = true := by rw [star_beq, decide_eq_true h]
    clear h
    go_enter Tryz.func44, Tryz.ntmps44
    go_wp2
    go_ret
    exact ⟨ret_text HV.out.symm, rfl⟩
  · have HV := Lib.hid (show someB s = s by unfold someB; rw [if_neg h])
    have hb : (s.toList == ([42] : List UInt8)) = false := by rw [star_beq, decide_eq_false h]
    clear h
    go_enter Tryz.func44, Tryz.ntmps44
    go_wp2
    go_ret
    exact ⟨ret_text HV.out.symm, rfl⟩

end Go.Proofs.YtanclhcoiagcfaaGreatDoor
