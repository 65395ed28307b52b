/- PARTS OF THE WALKS, joined: Cmp, Va, Vb, Vc, FracB, FracD. -/
import Derived.Test.YtnheioehadldmaaGreatR01
import Derived.Test.YtnheioehadldmaaGreatShelf
import Derived.Shelf.Spec.BitsCarry
import Derived.Lib.BitFns
/- THE WALKS over cmp.Compare and cmp.Or. -/
namespace Go.Proofs.YtnheioehadldmaaGreat
open Go.RowKit
theorem ret_i64 {a b : Int} (h : a = b) : Ending.returned (.int .i64 a) = .returned (.int .i64 b) := by rw [h]
theorem size_beq (s : ByteArray) : (s.toList == ([] : List UInt8)) = decide (s.size = 0) := by
 rw [ByteArray.toList_eq]
 by_cases h : s.size = 0
 ·have e : s.data.toList = [] := by rw [size_nil h]; rfl
  rw [decide_eq_true h, e]; rfl
 ·rw [decide_eq_false h]
  cases hl : s.data.toList with
  | nil => exact absurd (by have := congrArg List.length hl; simpa using this) h
  | cons a r => rfl
theorem nil_iff (s : ByteArray) : (s.toList = []) = (s.size = 0) := propext ⟨fun h => by have := size_beq s; rw [h] at this; simpa using this, fun h => by have := size_beq s; rw [decide_eq_true h] at this; simpa using this⟩
theorem c_nan_int (x : Int) (w : World) : Calls Tryz.prog 80 #[.int .i64 x] w fun e w' => e = .returned (.bool false) ∧ w' = w := by
 go_enter Tryz.func80, Tryz.ntmps80
 go_wp2
 all_goals
  go_ret
  exact ⟨ret_bool (by simp), rfl⟩
theorem c_cmp_int (x y : Int) (w : World) : Calls Tryz.prog 54 #[.int .i64 x, .int .i64 y] w fun e w' => e = .returned (.int .i64 (Lib.compareInt x y)) ∧ w' = w := by
 rcases Int.lt_trichotomy x y with h | h | h
 ·have HV := Lib.hid (show Lib.compareInt x y = -1 by unfold Lib.compareInt; rw [if_pos h])
  go_enter Tryz.func54, Tryz.ntmps54
  go_wp2_with (go_at_call 80; refine (c_nan_int _ _).mono ?_; rintro e w' ⟨rfl, rfl⟩)
  go_ret
  exact ⟨ret_i64 HV.out.symm, rfl⟩
 ·have HV := Lib.hid (show Lib.compareInt x y = 0 by unfold Lib.compareInt; rw [if_neg (by omega), if_neg (by omega)])
  have h1 : ¬ x < y := by omega
  have h2 : ¬ y < x := by omega
  clear h
  go_enter Tryz.func54, Tryz.ntmps54
  go_wp2_with (go_at_call 80; refine (c_nan_int _ _).mono ?_; rintro e w' ⟨rfl, rfl⟩)
  go_ret
  exact ⟨ret_i64 HV.out.symm, rfl⟩
 ·have HV := Lib.hid (show Lib.compareInt x y = 1 by unfold Lib.compareInt; rw [if_neg (by omega), if_pos h])
  have h1 : ¬ x < y := by omega
  go_enter Tryz.func54, Tryz.ntmps54
  go_wp2_with (go_at_call 80; refine (c_nan_int _ _).mono ?_; rintro e w' ⟨rfl, rfl⟩)
  go_ret
  exact ⟨ret_i64 HV.out.symm, rfl⟩
/-- the first of a row that is not zero -/
def orL : List Int → Int
 | [] => 0
 | x :: r => thenC x (orL r)
theorem thenC_0 (x : Int) : thenC x 0 = x := by unfold thenC; split <;> omega
theorem orL_drop (l : List Int) (k : Nat) (h : k < l.length) : orL (l.drop k) = thenC l[k] (orL (l.drop (k + 1))) := by
 rw [List.drop_eq_getElem_cons h]; rfl
set_option maxHeartbeats 800000 in
theorem c_or_int (g : Nat) (l : List Int) (w : World) (hl : l.length ≤ 1000) (hc : ∀ j (h : j < l.length), w.cell? ⟨g, j, none⟩ = some (.int .i64 l[j])) :
  Calls Tryz.prog 53 #[.slice (some ⟨g, 0, none⟩) l.length l.length] w fun e w' => e = .returned (.int .i64 (orL l)) ∧ w' = w := by
 have HC := Lib.hid hc
 clear hc
 go_enter Tryz.func53, Tryz.ntmps53
 go_wp2
 go_loop [8] (fun u => ∃ k : Nat, u = .int .i64 k ∧ k ≤ l.length ∧ Hid (orL l = orL (l.drop k))) (fun u => l.length - (intOf u).toNat)
 case atStart => exact ⟨0, rfl, Nat.zero_le _, Lib.hid rfl⟩
 case round =>
  obtain ⟨k, rfl, hk, hA⟩ := hrel
  by_cases hlt : k < l.length
  ·have cell := HC.out k hlt
   have HD := Lib.hid (orL_drop l k hlt)
   generalize l[k] = x at cell HD
   by_cases hx : x = 0
   ·subst hx
    have HS := Lib.hid (show orL l = orL (l.drop (k + 1)) by rw [hA.out, HD.out]; rfl)
    go_wp2
    go_round
    case rel => exact ⟨k + 1, by go_num, by omega, HS⟩
    case measure => simp [intOf]; omega
   ·have hx' : (x != 0) = true := by simpa using hx
    have HS := Lib.hid (show orL l = x by rw [hA.out, HD.out]; unfold thenC; rw [if_neg hx])
    go_wp2
    go_ret
    exact ⟨ret_i64 HS.out.symm, rfl⟩
  ·have hk' : k = l.length := by omega
   have HS := Lib.hid (show orL l = 0 by rw [hA.out, hk', List.drop_length]; rfl)
   go_wp2
   go_ret
   exact ⟨ret_i64 HS.out.symm, rfl⟩
end Go.Proofs.YtnheioehadldmaaGreat

/- THE WALK over value.valid at values that are no list and no path. -/
namespace Go.Proofs.YtnheioehadldmaaGreat
open Go.RowKit
/-- a byte that no string value holds -/
def pBad (r : Nat) : Bool := decide (r < 32) || decide (126 < r)
theorem decode_hi (s : ByteArray) (i : Nat) (h : 128 ≤ (s.get! i).toNat) : 128 ≤ (Utf8.decode s i).1 := by
 unfold Utf8.decode
 simp only [Nat.add_zero]
 rw [if_neg (by omega)]
 repeat' split
 all_goals first | (simp only [Utf8.runeError]; omega) | (simp only [Bool.and_eq_true, decide_eq_true_iff, ge_iff_le] at *; omega)
theorem decode_lo (s : ByteArray) (i : Nat) (h : (s.get! i).toNat < 128) : Utf8.decode s i = ((s.get! i).toNat, 1) := by
 unfold Utf8.decode
 simp only [Nat.add_zero]
 rw [if_pos h]
theorem idx_bad (s : ByteArray) : ∀ (f pos : Nat), s.size ≤ pos + f → (Lib.idxFuncFrom pBad true s f pos < 0 ↔ ∀ j, pos ≤ j → j < s.size → pBad (s.get! j).toNat = false)
 | 0, pos, h => by
  rw [Lib.idxFuncFrom]
  exact ⟨fun _ j h1 h2 => by omega, fun _ => by omega⟩
 | f + 1, pos, h => by
  rw [Lib.idxFuncFrom]
  by_cases hp : pos < s.size
  ·rw [if_pos hp]
   by_cases hb : (s.get! pos).toNat < 128
   ·rw [decode_lo s pos hb]
    dsimp only
    cases hq : pBad (s.get! pos).toNat
    ·rw [if_neg (by simp), idx_bad s f (pos + 1) (by omega)]
     constructor
     ·intro hh j h1 h2
      rcases Nat.lt_or_ge pos j with h3 | h3
      ·exact hh j h3 h2
      ·have : j = pos := by omega
       rw [this]; exact hq
     ·intro hh j h1 h2
      exact hh j (by omega) h2
    ·rw [if_pos rfl]
     exact ⟨fun hh => by omega, fun hh => by have := hh pos (Nat.le_refl _) hp; rw [hq] at this; cases this⟩
   ·have h1 := decode_hi s pos (by omega)
    have h2 : pBad (Utf8.decode s pos).1 = true := by unfold pBad; rw [decide_eq_true (show 126 < (Utf8.decode s pos).1 by omega), Bool.or_true]
    rw [h2, if_pos rfl]
    refine ⟨fun hh => by omega, fun hh => ?_⟩
    have := hh pos (Nat.le_refl _) hp
    unfold pBad at this
    rw [decide_eq_true (show 126 < (s.get! pos).toNat by omega), Bool.or_true] at this; cases this
  ·rw [if_neg hp]
   exact ⟨fun _ j h1 h2 => by omega, fun _ => by omega⟩
/-- what the string of a valid value is made of -/
def bytesOk (s : ByteArray) : Bool := s.data.toList.all (fun c => decide (32 ≤ c.toNat) && decide (c.toNat ≤ 126))
theorem get_data (s : ByteArray) (j : Nat) (h : j < s.size) : s.get! j = s.data.toList[j]'(by simpa using h) := by
 have h' : j < s.data.size := h
 simp only [ByteArray.get!]
 rw [getElem!_pos s.data j h', Array.getElem_toList]
theorem bytesOk_iff (s : ByteArray) : bytesOk s = true ↔ ∀ j, j < s.size → pBad (s.get! j).toNat = false := by
 unfold bytesOk
 rw [List.all_eq_true]
 constructor
 ·intro h j hj
  have := h _ (List.getElem_mem (l := s.data.toList) (n := j) (by simpa using hj))
  rw [← get_data s j hj] at this
  unfold pBad
  simp only [Bool.and_eq_true, decide_eq_true_iff] at this
  rw [Bool.or_eq_false_iff, decide_eq_false_iff_not, decide_eq_false_iff_not]
  omega
 ·intro h c hc
  obtain ⟨j, hj, rfl⟩ := List.getElem_of_mem hc
  have hj' : j < s.size := by simpa using hj
  have := h j hj'
  rw [get_data s j hj'] at this
  unfold pBad at this
  rw [Bool.or_eq_false_iff, decide_eq_false_iff_not, decide_eq_false_iff_not] at this
  simp only [Bool.and_eq_true, decide_eq_true_iff]
  omega
theorem idx_ok (s : ByteArray) : decide (Lib.idxFunc pBad true s < 0) = bytesOk s := by
 have h := idx_bad s s.size 0 (by omega)
 rw [Bool.eq_iff_iff, decide_eq_true_iff, bytesOk_iff]
 unfold Lib.idxFunc
 rw [h]
 exact ⟨fun hh j hj => hh j (Nat.zero_le _) hj, fun hh j _ hj => hh j hj⟩
open Go.Lib in
theorem v_bad (w : World) : PredAt Tryz.prog 118 #[] encR pBad w := fun W r _ => by
 unfold FnGives
 unfold pBad
 by_cases h1 : r < 32 <;> by_cases h2 : 126 < r
 all_goals
  have z1 : (r : Int) < 32 ↔ r < 32 := by omega
  have z2 : (126 : Int) < (r : Int) ↔ 126 < r := by omega
  go_enter Tryz.func118, Tryz.ntmps118
  go_wp2
  all_goals first | (exfalso; omega) | (go_ret; exact ⟨by simp [h1, h2], 0, rfl⟩)
theorem v_index (s : ByteArray) (w : World) : Calls Tryz.prog 117 #[.string s, .func (.func 118) #[] #[]] w fun e w' => e = .returned (.int .i64 (Lib.idxFunc pBad true s)) ∧ Below w.heap.size w w' :=
 Tryz.strings_IndexFunc 118 #[] (enters_of Tryz.func118 (by kernel_rfl) rfl) pBad s w (v_bad w)
/-- a valid value that is no list and no path: by its fields -/
def leafF (k n d : Int) (s : ByteArray) (m : Nat) : Bool :=
 if k = 0 then decide (n = 0) && decide (d = 0) && decide (s.size = 0) && decide (m = 0)
 else if k = 1 then (decide (n = 0) || decide (n = 1)) && decide (d = 0) && decide (s.size = 0) && decide (m = 0)
 else if k = 2 then inB n && decide (d = 0) && decide (s.size = 0) && decide (m = 0)
 else if k = 3 then decide (2 ≤ d) && validB n d && decide (s.size = 0) && decide (m = 0)
 else if k = 4 then decide (n = 0) && decide (d = 0) && strOk s && decide (m = 0)
 else if k = 5 ∨ k = 6 then decide (1 ≤ n) && decide (n ≤ 1000000) && decide (d = 0) && decide (s.size = 0) && decide (m = 0)
 else false
theorem leafB_eq (v : Val) : leafB v = leafF v.kind v.n v.d v.s v.l.length := rfl
theorem strOk_eq (s : ByteArray) : strOk s = (decide (s.size ≤ 100) && bytesOk s) := rfl
theorem other9 {k : Int} (hk : (k == 0) = false ∧ (k == 1) = false ∧ (k == 2) = false ∧ (k == 3) = false ∧ (k == 4) = false ∧ (k == 5) = false ∧ (k == 6) = false ∧ (k == 7) = false ∧ (k == 8) = false) : k ≠ 0 ∧ k ≠ 1 ∧ k ≠ 2 ∧ k ≠ 3 ∧ k ≠ 4 ∧ k ≠ 5 ∧ k ≠ 6 ∧ k ≠ 7 ∧ k ≠ 8 := by
 simpa using hk
theorem beq_decI (a b : Int) : (a == b) = decide (a = b) := rfl
/-- five cells in a box of the call's own -/
theorem box5 (w : World) (k n d : Int) (s : ByteArray) (A : Option Addr) (m c : Nat) (t : TypeId) : ∃ (g : Nat) (w1 : World), g = w.heap.size ∧ w1 = w.alloc (.cells #[.int .i64 k, .int .i64 n, .int .i64 d, .string s, .slice A m c] t) ∧ (w1.cell? ⟨g, 0, none⟩ = some (.int .i64 k) ∧ w1.cell? ⟨g, 1, none⟩ = some (.int .i64 n) ∧ w1.cell? ⟨g, 2, none⟩ = some (.int .i64 d) ∧ w1.cell? ⟨g, 3, none⟩ = some (.string s) ∧ w1.cell? ⟨g, 4, none⟩ = some (.slice A m c)) ∧ Ext w w1 ∧ w.heap.size ≤ g :=
 ⟨_, _, rfl, rfl, ⟨by go_simp, by go_simp, by go_simp, by go_simp, by go_simp⟩, (Ext.refl _).alloc _, Nat.le_refl _⟩
set_option maxRecDepth 100000 in
set_option maxHeartbeats 1600000 in
theorem v_valid0 (n d : Int) (s : ByteArray) (m : Nat) (A : Option Addr) (c : Nat) (lists : Int) (w : World) (hm : m ≤ 140737488355328) : Calls Tryz.prog 107 #[.agg #[.int .i64 0, .int .i64 n, .int .i64 d, .string s, .slice A m c], .int .i64 lists] w fun e w' => e = .returned (.bool (leafF 0 n d s m)) ∧ Ext w w' := by
 obtain ⟨g, w1, hg, hw1, ⟨c0, c1, c2, c3, c4⟩, hx, -⟩ := box5 w 0 n d s A m c 98
 have HW1 := Lib.hid hw1
 have HG := Lib.hid hg
 clear hw1 hg
 go_enter Tryz.func107, Tryz.ntmps107
 go_upto_region 1 with (fail)
 rw [← HW1.out, ← HG.out]
 clear HW1 HG
 go_wp2_with fail
 all_goals
  go_ret
  refine ⟨ret_bool ?_, (by first | exact hx | exact Ext.trans hx (by assumption))⟩
  clear c0 c1 c2 c3 c4
  (try simp only [nil_iff] at *)
  unfold leafF
  (try simp only [strOk_eq, ← idx_ok])
  (try simp only [beq_decI])
  first | (simp_all; done) | (simp_all; omega)
set_option maxRecDepth 100000 in
set_option maxHeartbeats 1600000 in
theorem v_valid1 (n d : Int) (s : ByteArray) (m : Nat) (A : Option Addr) (c : Nat) (lists : Int) (w : World) (hm : m ≤ 140737488355328) : Calls Tryz.prog 107 #[.agg #[.int .i64 1, .int .i64 n, .int .i64 d, .string s, .slice A m c], .int .i64 lists] w fun e w' => e = .returned (.bool (leafF 1 n d s m)) ∧ Ext w w' := by
 obtain ⟨g, w1, hg, hw1, ⟨c0, c1, c2, c3, c4⟩, hx, -⟩ := box5 w 1 n d s A m c 98
 have HW1 := Lib.hid hw1
 have HG := Lib.hid hg
 clear hw1 hg
 go_enter Tryz.func107, Tryz.ntmps107
 go_upto_region 1 with (fail)
 rw [← HW1.out, ← HG.out]
 clear HW1 HG
 go_wp2_with fail
 all_goals
  go_ret
  refine ⟨ret_bool ?_, (by first | exact hx | exact Ext.trans hx (by assumption))⟩
  clear c0 c1 c2 c3 c4
  (try simp only [nil_iff] at *)
  unfold leafF
  (try simp only [strOk_eq, ← idx_ok])
  (try simp only [beq_decI])
  first | (simp_all; done) | (simp_all; omega)
set_option maxRecDepth 100000 in
set_option maxHeartbeats 1600000 in
theorem v_valid2 (n d : Int) (s : ByteArray) (m : Nat) (A : Option Addr) (c : Nat) (lists : Int) (w : World) (hm : m ≤ 140737488355328) : Calls Tryz.prog 107 #[.agg #[.int .i64 2, .int .i64 n, .int .i64 d, .string s, .slice A m c], .int .i64 lists] w fun e w' => e = .returned (.bool (leafF 2 n d s m)) ∧ Ext w w' := by
 obtain ⟨g, w1, hg, hw1, ⟨c0, c1, c2, c3, c4⟩, hx, -⟩ := box5 w 2 n d s A m c 98
 have HW1 := Lib.hid hw1
 have HG := Lib.hid hg
 clear hw1 hg
 go_enter Tryz.func107, Tryz.ntmps107
 go_upto_region 1 with (fail)
 rw [← HW1.out, ← HG.out]
 clear HW1 HG
 go_wp2_with (go_at_call 115; refine (num_In _ _).mono ?_; rintro e w' ⟨rfl, rfl⟩)
 all_goals
  go_ret
  refine ⟨ret_bool ?_, (by first | exact hx | exact Ext.trans hx (by assumption))⟩
  clear c0 c1 c2 c3 c4
  (try simp only [nil_iff] at *)
  unfold leafF
  (try simp only [strOk_eq, ← idx_ok])
  (try simp only [beq_decI])
  first | (simp_all; done) | (simp_all; omega)
set_option maxRecDepth 100000 in
set_option maxHeartbeats 1600000 in
theorem v_valid3 (n d : Int) (s : ByteArray) (m : Nat) (A : Option Addr) (c : Nat) (lists : Int) (w : World) (hm : m ≤ 140737488355328) : Calls Tryz.prog 107 #[.agg #[.int .i64 3, .int .i64 n, .int .i64 d, .string s, .slice A m c], .int .i64 lists] w fun e w' => e = .returned (.bool (leafF 3 n d s m)) ∧ Ext w w' := by
 obtain ⟨g, w1, hg, hw1, ⟨c0, c1, c2, c3, c4⟩, hx, -⟩ := box5 w 3 n d s A m c 98
 have HW1 := Lib.hid hw1
 have HG := Lib.hid hg
 clear hw1 hg
 go_enter Tryz.func107, Tryz.ntmps107
 go_upto_region 1 with (fail)
 rw [← HW1.out, ← HG.out]
 clear HW1 HG
 go_wp2_with (go_at_call 116; refine (frac_Valid _ _ _).mono ?_; rintro e w' ⟨rfl, hbv⟩; have hbv' : Ext _ w' := hbv)
 all_goals
  go_ret
  refine ⟨ret_bool ?_, (by first | exact hx | exact Ext.trans hx (by assumption))⟩
  clear c0 c1 c2 c3 c4
  (try simp only [nil_iff] at *)
  unfold leafF
  (try simp only [strOk_eq, ← idx_ok])
  (try simp only [beq_decI])
  first | (simp_all; done) | (simp_all; omega)
set_option maxRecDepth 100000 in
set_option maxHeartbeats 1600000 in
theorem v_valid4 (n d : Int) (s : ByteArray) (m : Nat) (A : Option Addr) (c : Nat) (lists : Int) (w : World) (hm : m ≤ 140737488355328) : Calls Tryz.prog 107 #[.agg #[.int .i64 4, .int .i64 n, .int .i64 d, .string s, .slice A m c], .int .i64 lists] w fun e w' => e = .returned (.bool (leafF 4 n d s m)) ∧ Ext w w' := by
 obtain ⟨g, w1, hg, hw1, ⟨c0, c1, c2, c3, c4⟩, hx, -⟩ := box5 w 4 n d s A m c 98
 have HW1 := Lib.hid hw1
 have HG := Lib.hid hg
 clear hw1 hg
 go_enter Tryz.func107, Tryz.ntmps107
 go_upto_region 1 with (fail)
 rw [← HW1.out, ← HG.out]
 clear HW1 HG
 go_wp2_with (go_at_call 117; refine (v_index _ _).mono ?_; rintro e w' ⟨rfl, hbv⟩; have hbv' : Ext _ w' := hbv)
 all_goals
  go_ret
  refine ⟨ret_bool ?_, (by first | exact hx | exact Ext.trans hx (by assumption))⟩
  clear c0 c1 c2 c3 c4
  (try simp only [nil_iff] at *)
  unfold leafF
  (try simp only [strOk_eq, ← idx_ok])
  (try simp only [beq_decI])
  first | (simp_all; done) | (simp_all; omega)
set_option maxRecDepth 100000 in
set_option maxHeartbeats 1600000 in
theorem v_valid5 (n d : Int) (s : ByteArray) (m : Nat) (A : Option Addr) (c : Nat) (lists : Int) (w : World) (hm : m ≤ 140737488355328) : Calls Tryz.prog 107 #[.agg #[.int .i64 5, .int .i64 n, .int .i64 d, .string s, .slice A m c], .int .i64 lists] w fun e w' => e = .returned (.bool (leafF 5 n d s m)) ∧ Ext w w' := by
 obtain ⟨g, w1, hg, hw1, ⟨c0, c1, c2, c3, c4⟩, hx, -⟩ := box5 w 5 n d s A m c 98
 have HW1 := Lib.hid hw1
 have HG := Lib.hid hg
 clear hw1 hg
 go_enter Tryz.func107, Tryz.ntmps107
 go_upto_region 1 with (fail)
 rw [← HW1.out, ← HG.out]
 clear HW1 HG
 go_wp2_with fail
 all_goals
  go_ret
  refine ⟨ret_bool ?_, (by first | exact hx | exact Ext.trans hx (by assumption))⟩
  clear c0 c1 c2 c3 c4
  (try simp only [nil_iff] at *)
  unfold leafF
  (try simp only [strOk_eq, ← idx_ok])
  (try simp only [beq_decI])
  first | (simp_all; done) | (simp_all; omega)
set_option maxRecDepth 100000 in
set_option maxHeartbeats 1600000 in
theorem v_valid6 (n d : Int) (s : ByteArray) (m : Nat) (A : Option Addr) (c : Nat) (lists : Int) (w : World) (hm : m ≤ 140737488355328) : Calls Tryz.prog 107 #[.agg #[.int .i64 6, .int .i64 n, .int .i64 d, .string s, .slice A m c], .int .i64 lists] w fun e w' => e = .returned (.bool (leafF 6 n d s m)) ∧ Ext w w' := by
 obtain ⟨g, w1, hg, hw1, ⟨c0, c1, c2, c3, c4⟩, hx, -⟩ := box5 w 6 n d s A m c 98
 have HW1 := Lib.hid hw1
 have HG := Lib.hid hg
 clear hw1 hg
 go_enter Tryz.func107, Tryz.ntmps107
 go_upto_region 1 with (fail)
 rw [← HW1.out, ← HG.out]
 clear HW1 HG
 go_wp2_with fail
 all_goals
  go_ret
  refine ⟨ret_bool ?_, (by first | exact hx | exact Ext.trans hx (by assumption))⟩
  clear c0 c1 c2 c3 c4
  (try simp only [nil_iff] at *)
  unfold leafF
  (try simp only [strOk_eq, ← idx_ok])
  (try simp only [beq_decI])
  first | (simp_all; done) | (simp_all; omega)
set_option maxRecDepth 100000 in
set_option maxHeartbeats 1600000 in
theorem v_valido (k : Int) (hk : (k == 0) = false ∧ (k == 1) = false ∧ (k == 2) = false ∧ (k == 3) = false ∧ (k == 4) = false ∧ (k == 5) = false ∧ (k == 6) = false ∧ (k == 7) = false ∧ (k == 8) = false) (n d : Int) (s : ByteArray) (m : Nat) (A : Option Addr) (c : Nat) (lists : Int) (w : World) (_hm : m ≤ 140737488355328) : Calls Tryz.prog 107 #[.agg #[.int .i64 k, .int .i64 n, .int .i64 d, .string s, .slice A m c], .int .i64 lists] w fun e w' => e = .returned (.bool (leafF k n d s m)) ∧ Ext w w' := by
 have hne := other9 hk
 obtain ⟨h0, h1, h2, h3, h4, h5, h6, h7, h8⟩ := hk
 obtain ⟨n0, n1, n2, n3, n4, n5, n6, n7, n8⟩ := hne
 obtain ⟨g, w1, hg, hw1, ⟨c0, c1, c2, c3, c4⟩, hx, -⟩ := box5 w k n d s A m c 98
 have HW1 := Lib.hid hw1
 have HG := Lib.hid hg
 clear hw1 hg
 go_enter Tryz.func107, Tryz.ntmps107
 go_upto_region 1 with (fail)
 rw [← HW1.out, ← HG.out]
 clear HW1 HG
 go_wp2_with fail
 all_goals
  go_ret
  refine ⟨ret_bool ?_, (by first | exact hx | exact Ext.trans hx (by assumption))⟩
  clear c0 c1 c2 c3 c4
  (try simp only [nil_iff] at *)
  unfold leafF
  (try simp only [strOk_eq, ← idx_ok])
  (try simp only [beq_decI])
  first | (simp_all; done) | (simp_all; omega)
end Go.Proofs.YtnheioehadldmaaGreat

/- THE WALKS over value.path, value.valid, value.Valid. -/
namespace Go.Proofs.YtnheioehadldmaaGreat
open Go.RowKit
theorem v_leaf (k n d : Int) (s : ByteArray) (m : Nat) (A : Option Addr) (c : Nat) (lists : Int) (w : World) (h7 : k ≠ 7) (h8 : k ≠ 8) (hm : m ≤ 140737488355328) : Calls Tryz.prog 107 #[.agg #[.int .i64 k, .int .i64 n, .int .i64 d, .string s, .slice A m c], .int .i64 lists] w fun e w' => e = .returned (.bool (leafF k n d s m)) ∧ Ext w w' := by
 by_cases h0 : k = 0
 ·subst h0; exact v_valid0 n d s m A c lists w hm
 by_cases h1 : k = 1
 ·subst h1; exact v_valid1 n d s m A c lists w hm
 by_cases h2 : k = 2
 ·subst h2; exact v_valid2 n d s m A c lists w hm
 by_cases h3 : k = 3
 ·subst h3; exact v_valid3 n d s m A c lists w hm
 by_cases h4 : k = 4
 ·subst h4; exact v_valid4 n d s m A c lists w hm
 by_cases h5 : k = 5
 ·subst h5; exact v_valid5 n d s m A c lists w hm
 by_cases h6 : k = 6
 ·subst h6; exact v_valid6 n d s m A c lists w hm
 exact v_valido k (by simp only [beq_eq_false_iff_ne]; exact ⟨h0, h1, h2, h3, h4, h5, h6, h7, h8⟩) n d s m A c lists w hm
/-- is the element at i of a path as it should be -/
def goodP (l : List Val) (i : Nat) : Bool := decide (l[i]!.kind = stepK i) && leafB l[i]!
theorem pathB_yes {l : List Val} (h1 : l.length % 2 = 1) (h2 : l.length ≤ 25) (h : ∀ i, i < l.length → goodP l i = true) : pathB l = true := by
 unfold pathB
 rw [decide_eq_true h1, decide_eq_true h2]
 simp only [Bool.true_and, List.all_eq_true, List.mem_range]
 exact h
theorem pathB_no {l : List Val} {i : Nat} (hi : i < l.length) (h : goodP l i = false) : pathB l = false := by
 cases hp : pathB l
 ·rfl
 ·unfold pathB at hp
  simp only [Bool.and_eq_true, List.all_eq_true, List.mem_range] at hp
  have := hp.2 i hi
  unfold goodP at h
  simp only [Bool.and_eq_false_iff] at h
  rcases h with h | h <;> simp_all
theorem pathB_odd {l : List Val} (h : l.length % 2 = 0) : pathB l = false := by
 unfold pathB; rw [decide_eq_false (by omega)]; rfl
theorem pathB_long {l : List Val} (h : 25 < l.length) : pathB l = false := by
 unfold pathB; rw [decide_eq_false (show ¬ l.length ≤ 25 by omega), Bool.and_false]; rfl
set_option maxRecDepth 100000 in
set_option maxHeartbeats 3200000 in
theorem v_path (l : List Val) (ok : Nat → Prop) (A : Option Addr) (c : Nat) (w : World) (hv : Vals w ok A l) : Calls Tryz.prog 119 #[.slice A l.length c] w fun e w' => e = .returned (.bool (pathB l)) ∧ Ext w w' := by
 have hm := hv.len
 have HV := Lib.hid hv
 clear hv
 by_cases h1 : l.length % 2 = 0
 ·have HF := Lib.hid (pathB_odd h1)
  have h1' : ((l.length : Int) % 2) = 0 := by omega
  go_enter Tryz.func119, Tryz.ntmps119
  go_wp2
  go_ret
  exact ⟨ret_bool HF.out.symm, Ext.refl _⟩
 ·have h1' : ((l.length : Int) % 2) = 1 := by omega
  by_cases h2 : 25 < l.length
  ·have HF := Lib.hid (pathB_long h2)
   go_enter Tryz.func119, Tryz.ntmps119
   go_wp2
   go_ret
   exact ⟨ret_bool HF.out.symm, Ext.refl _⟩
  ·have h3 : l.length % 2 = 1 := by omega
   have HY := Lib.hid (fun h => pathB_yes (l := l) h3 (by omega) h)
   have HN := Lib.hid (fun i (h : i < l.length) hg => pathB_no (l := l) h hg)
   have h25 : decide ((25 : Int) < (l.length : Int)) = false := by simp; omega
   clear h1 h2 h3
   go_enter Tryz.func119, Tryz.ntmps119
   go_wp2
   clear h1' h25
   go_loopw [17] (fun u W => ∃ k : Nat, u = .int .i64 k ∧ k ≤ l.length ∧ Hid (∀ j, j < k → goodP l j = true) ∧ Ext w W) (fun u _ => l.length - (intOf u).toNat)
   case atStart => exact ⟨0, rfl, Nat.zero_le _, Lib.hid (fun j hj => absurd hj (Nat.not_lt_zero _)), Ext.refl _⟩
   case round =>
    obtain ⟨k, rfl, hk, hgd, hE⟩ := hrel
    by_cases hlt : k < l.length
    ·obtain ⟨b, o, rfl, hc⟩ := HV.out.2 (by omega)
     obtain ⟨-, A', c', h5, -, hv'⟩ := VCells.iff.1 (hc k hlt)
     obtain ⟨d0, d1, d2, d3, d4⟩ := h5.ext hE
     have hm' := hv'.len
     have HS := Lib.hid (fun (h : goodP l k = true) j (hj : j < k + 1) => (if e : j = k then e ▸ h else hgd.out j (by omega) : goodP l j = true))
     have HG := Lib.hid (show goodP l k = (decide (l[k].kind = stepK k) && leafF l[k].kind l[k].n l[k].d l[k].s l[k].l.length) by unfold goodP; rw [getV hlt, leafB_eq])
     have HN' := Lib.hid (HN.out k hlt)
     have HY' := HY
     clear hc h5 hv' HN
     generalize l[k] = x at d0 d1 d2 d3 d4 HG hm'
     obtain ⟨g, w1, hg, hw1, ⟨c0, c1, c2, c3, c4⟩, hx, -⟩ := box5 wr x.kind x.n x.d x.s A' x.l.length c' 98
     have hz : g < w1.heap.size := block_lt_of_cell c0
     have HW1 := Lib.hid hw1
     have HGG := Lib.hid hg
     clear hw1 hg
     go_upto_region 6 with (fail)
     rw [← HW1.out, ← HGG.out]
     clear HW1 HGG d0 d1 d2 d3 d4
     rcases Nat.mod_two_eq_zero_or_one k with hp | hp
     ·have hst : stepK k = 5 := by unfold stepK; rw [if_pos hp]
      have hpi : ((k : Int) % 2) = 0 := by omega
      rw [hst] at HG
      clear hp hst
      by_cases hk5 : x.kind = 5
      ·rw [hk5] at c0 HG
       have C := fun W => v_leaf 5 x.n x.d x.s x.l.length A' c' 0 W (by omega) (by omega) hm'
       generalize leafF 5 x.n x.d x.s x.l.length = q at C HG
       have HC := Lib.hid C
       clear C hk5
       cases q
       ·have HF := Lib.hid (HN'.out (by rw [HG.out, Bool.and_false]))
        clear HG
        go_wp2_with (go_at_call 107; refine (HC.out _).mono ?_; rintro e w' ⟨rfl, hb⟩; have hb' : Ext w1 w' := Ext.trans (by solve_by_elim [X0, X1, X2, X3]) hb)
        go_ret
        exact ⟨ret_bool HF.out.symm, hE.trans (hx.trans hb')⟩
       ·have HT := Lib.hid (HS.out (by rw [HG.out]; rfl))
        clear HG
        go_wp2_with (go_at_call 107; refine (HC.out _).mono ?_; rintro e w' ⟨rfl, hb⟩; have hb' : Ext w1 w' := Ext.trans (by solve_by_elim [X0, X1, X2, X3]) hb)
        go_roundw
        case rel => exact ⟨k + 1, by go_num, by omega, HT, hE.trans (hx.trans hb')⟩
        case measure => simp [intOf]; omega
      ·have HF := Lib.hid (HN'.out (by rw [HG.out, decide_eq_false hk5]; rfl))
       have hk5' : (x.kind != 5) = true := by simpa using hk5
       clear HG hk5
       go_wp2_with fail
       go_ret
       exact ⟨ret_bool HF.out.symm, hE.trans (hx.trans (by solve_by_elim [X0, X1, X2, X3]))⟩
     ·have hst : stepK k = 6 := by unfold stepK; rw [if_neg (by omega)]
      have hpi : ((k : Int) % 2) = 1 := by omega
      rw [hst] at HG
      clear hp hst
      by_cases hk5 : x.kind = 6
      ·rw [hk5] at c0 HG
       have C := fun W => v_leaf 6 x.n x.d x.s x.l.length A' c' 0 W (by omega) (by omega) hm'
       generalize leafF 6 x.n x.d x.s x.l.length = q at C HG
       have HC := Lib.hid C
       clear C hk5
       cases q
       ·have HF := Lib.hid (HN'.out (by rw [HG.out, Bool.and_false]))
        clear HG
        go_wp2_with (go_at_call 107; refine (HC.out _).mono ?_; rintro e w' ⟨rfl, hb⟩; have hb' : Ext w1 w' := Ext.trans (by solve_by_elim [X0, X1, X2, X3]) hb)
        go_ret
        exact ⟨ret_bool HF.out.symm, hE.trans (hx.trans hb')⟩
       ·have HT := Lib.hid (HS.out (by rw [HG.out]; rfl))
        clear HG
        go_wp2_with (go_at_call 107; refine (HC.out _).mono ?_; rintro e w' ⟨rfl, hb⟩; have hb' : Ext w1 w' := Ext.trans (by solve_by_elim [X0, X1, X2, X3]) hb)
        go_roundw
        case rel => exact ⟨k + 1, by go_num, by omega, HT, hE.trans (hx.trans hb')⟩
        case measure => simp [intOf]; omega
      ·have HF := Lib.hid (HN'.out (by rw [HG.out, decide_eq_false hk5]; rfl))
       have hk5' : (x.kind != 6) = true := by simpa using hk5
       clear HG hk5
       go_wp2_with fail
       go_ret
       exact ⟨ret_bool HF.out.symm, hE.trans (hx.trans (by solve_by_elim [X0, X1, X2, X3]))⟩
    ·have hk' : k = l.length := by omega
     have HF := Lib.hid (HY.out (fun j hj => hgd.out j (by omega)))
     go_wp2
     go_ret
     exact ⟨ret_bool HF.out.symm, hE⟩
set_option maxRecDepth 100000 in
set_option maxHeartbeats 1600000 in
theorem v_valid7 (n d : Int) (s : ByteArray) (l : List Val) (ok : Nat → Prop) (A : Option Addr) (c : Nat) (lists : Int) (w : World) (hv : Vals w ok A l) : Calls Tryz.prog 107 #[.agg #[.int .i64 7, .int .i64 n, .int .i64 d, .string s, .slice A l.length c], .int .i64 lists] w fun e w' => e = .returned (.bool (decide (n = 0) && decide (d = 0) && decide (s.size = 0) && pathB l)) ∧ Ext w w' := by
 have hm := hv.len
 obtain ⟨g, w1, hg, hw1, ⟨c0, c1, c2, c3, c4⟩, hx, -⟩ := box5 w 7 n d s A l.length c 98
 have HW1 := Lib.hid hw1
 have HG := Lib.hid hg
 have HC := Lib.hid (v_path l ok A c w1 (hv.ext hx))
 clear hw1 hg hv
 go_enter Tryz.func107, Tryz.ntmps107
 go_upto_region 1 with (fail)
 rw [← HW1.out, ← HG.out]
 clear HW1 HG
 go_wp2_with (go_at_call 119; refine (HC.out).mono ?_; rintro e w' ⟨rfl, hb⟩; have hb' : Ext w1 w' := hb)
 all_goals
  go_ret
  refine ⟨ret_bool ?_, (by first | exact hx | exact Ext.trans hx (by assumption))⟩
  clear c0 c1 c2 c3 c4 HC
  (try simp only [nil_iff] at *)
  (try simp only [beq_decI])
  generalize pathB l = q at *
  first | (simp_all; done) | (simp_all; omega)
set_option maxRecDepth 100000 in
set_option maxHeartbeats 1600000 in
theorem v_valid80 (n d : Int) (s : ByteArray) (m : Nat) (A : Option Addr) (c : Nat) (w : World) (hm : m ≤ 140737488355328) : Calls Tryz.prog 107 #[.agg #[.int .i64 8, .int .i64 n, .int .i64 d, .string s, .slice A m c], .int .i64 8] w fun e w' => e = .returned (.bool false) ∧ Ext w w' := by
 obtain ⟨g, w1, hg, hw1, ⟨c0, c1, c2, c3, c4⟩, hx, -⟩ := box5 w 8 n d s A m c 98
 have HW1 := Lib.hid hw1
 have HG := Lib.hid hg
 clear hw1 hg
 go_enter Tryz.func107, Tryz.ntmps107
 go_upto_region 1 with (fail)
 rw [← HW1.out, ← HG.out]
 clear HW1 HG
 go_wp2_with fail
 all_goals
  go_ret
  exact ⟨rfl, hx⟩
/-- value.valid at values inside which j lists more may be nested -/
def ValidAt (j : Nat) : Prop := ∀ (lists : Int) (v : Val) (ok : Nat → Prop) (A : Option Addr) (c : Nat) (w : World), 0 ≤ lists → lists + j = 8 → Vals w ok A v.l →
 Calls Tryz.prog 107 #[.agg #[.int .i64 v.kind, .int .i64 v.n, .int .i64 v.d, .string v.s, .slice A v.l.length c], .int .i64 lists] w fun e w' => e = .returned (.bool (validN j v)) ∧ Ext w w'
theorem listN_eq (j : Nat) (n d : Int) (s : ByteArray) (l : List Val) : validN (j + 1) (.mk 8 n d s l) = (((decide (n = 0) && decide (d = 0) && decide (s.size = 0)) && decide (l.length ≤ 64)) && l.all (validN j)) := validN_list rfl
theorem listN_yes {j : Nat} {n d : Int} {s : ByteArray} {l : List Val} (h1 : n = 0) (h2 : d = 0) (h3 : s.size = 0) (h4 : l.length ≤ 64) (h : ∀ i (hi : i < l.length), validN j l[i] = true) : validN (j + 1) (.mk 8 n d s l) = true := by
 rw [listN_eq, decide_eq_true h1, decide_eq_true h2, decide_eq_true h3, decide_eq_true h4]
 simp only [Bool.true_and, List.all_eq_true]
 intro x hx
 obtain ⟨i, hi, rfl⟩ := List.getElem_of_mem hx
 exact h i hi
theorem listN_no {j : Nat} {n d : Int} {s : ByteArray} {l : List Val} (h : n ≠ 0 ∨ d ≠ 0 ∨ s.size ≠ 0 ∨ 64 < l.length) : validN (j + 1) (.mk 8 n d s l) = false := by
 rw [listN_eq]
 rcases h with h | h | h | h
 ·rw [decide_eq_false h]; rfl
 ·rw [decide_eq_false h, Bool.and_false]; rfl
 ·rw [decide_eq_false h, Bool.and_false]; rfl
 ·rw [decide_eq_false (show ¬ l.length ≤ 64 by omega), Bool.and_false]; rfl
theorem listN_bad {j : Nat} {n d : Int} {s : ByteArray} {l : List Val} (i : Nat) (hi : i < l.length) (h : validN j l[i] = false) : validN (j + 1) (.mk 8 n d s l) = false := by
 have : l.all (validN j) = false := by
  rw [List.all_eq_false]
  exact ⟨_, List.getElem_mem hi, by rw [h]; simp⟩
 rw [listN_eq, this, Bool.and_false]
end Go.Proofs.YtnheioehadldmaaGreat

/- THE WALKS over value.valid at lists, value.Valid. -/
namespace Go.Proofs.YtnheioehadldmaaGreat
open Go.RowKit
set_option maxRecDepth 100000 in
set_option maxHeartbeats 3200000 in
theorem v_valid8 (j : Nat) (ih : ValidAt j) (lists n d : Int) (s : ByteArray) (l : List Val) (ok : Nat → Prop) (A : Option Addr) (c : Nat) (w : World) (hl0 : 0 ≤ lists) (hj : lists + ((j + 1 : Nat) : Int) = 8) (hv : Vals w ok A l) :
  Calls Tryz.prog 107 #[.agg #[.int .i64 8, .int .i64 n, .int .i64 d, .string s, .slice A l.length c], .int .i64 lists] w fun e w' => e = .returned (.bool (validN (j + 1) (.mk 8 n d s l))) ∧ Ext w w' := by
 have hm := hv.len
 have hl8 : lists < 8 := by omega
 have HJ := Lib.hid (show lists + 1 + (j : Int) = 8 by omega)
 have HNO := Lib.hid (fun h => listN_no (j := j) (n := n) (d := d) (s := s) (l := l) h)
 obtain ⟨g, w1, hg, hw1, ⟨c0, c1, c2, c3, c4⟩, hx, -⟩ := box5 w 8 n d s A l.length c 98
 have HW1 := Lib.hid hw1
 have HG := Lib.hid hg
 have HV := Lib.hid (hv.ext hx)
 clear hw1 hg hv hj
 by_cases hd : d = 0
 ·by_cases hs : s.size = 0
  ·by_cases hn : n = 0
   ·by_cases h64 : l.length ≤ 64
    ·have HY := Lib.hid (fun h => listN_yes (j := j) hn hd hs h64 h)
     have HB := Lib.hid (fun i (hi : i < l.length) h => listN_bad (j := j) (n := n) (d := d) (s := s) i hi h)
     obtain ⟨R, hR⟩ : ∃ R, R = validN (j + 1) (.mk 8 n d s l) := ⟨_, rfl⟩
     rw [← hR] at HY HB HNO ⊢
     have hs0 : s = ByteArray.empty := size_nil hs
     clear hR HNO hs
     subst hs0 hn hd
     have he : (ByteArray.empty).toList = ([] : List UInt8) := by rw [ByteArray.toList_eq]; rfl
     have h64' : decide ((64 : Int) < (l.length : Int)) = false := by simp; omega
     have h8' : decide ((8 : Int) ≤ lists) = false := by simp; omega
     go_enter Tryz.func107, Tryz.ntmps107
     go_upto_region 1 with (fail)
     rw [← HW1.out, ← HG.out]
     clear HW1 HG
     go_wp2_with fail
     clear c0 c1 c2 c3 c4 he h64' h8' h64
     go_loopw [122] (fun u W => ∃ k : Nat, u = .int .i64 k ∧ k ≤ l.length ∧ Hid (∀ i (hi : i < l.length), i < k → validN j l[i] = true) ∧ Ext w1 W) (fun u _ => l.length - (intOf u).toNat)
     case atStart => exact ⟨0, rfl, Nat.zero_le _, Lib.hid (fun i _ hi => absurd hi (Nat.not_lt_zero _)), Ext.refl _⟩
     case round =>
      obtain ⟨k, rfl, hk, hgd, hE⟩ := hrel
      by_cases hlt : k < l.length
      ·obtain ⟨b, o, rfl, hc⟩ := HV.out.2 (by omega)
       obtain ⟨-, A', c', h5, -, hv'⟩ := VCells.iff.1 (hc k hlt)
       obtain ⟨d0, d1, d2, d3, d4⟩ := h5.ext hE
       have hm' := hv'.len
       have HS := Lib.hid (fun (h : validN j l[k] = true) i hi (hj : i < k + 1) => (if e : i = k then (by subst e; exact h) else hgd.out i hi (by omega) : validN j l[i] = true))
       have HB' := Lib.hid (HB.out k hlt)
       have HV' := Lib.hid (hv'.ext hE)
       clear hc h5 hv' HB
       generalize l[k] = x at d0 d1 d2 d3 d4 HS HB' HV' hm'
       obtain ⟨g, w2, hg, hw2, ⟨c0, c1, c2, c3, c4⟩, hx2, -⟩ := box5 wr x.kind x.n x.d x.s A' x.l.length c' 98
       have C := ih (lists + 1) x ok A' c' w2 (by omega) HJ.out (HV'.out.ext hx2)
       generalize validN j x = q at C HS HB'
       have HC := Lib.hid C
       have HW2 := Lib.hid hw2
       have HGG := Lib.hid hg
       clear hw2 hg C
       go_upto_region 23 with (fail)
       rw [← HW2.out, ← HGG.out]
       clear HW2 HGG d0 d1 d2 d3 d4
       cases q
       ·have HF := Lib.hid (HB'.out rfl)
        go_wp2_with (go_at_call 107; refine (HC.out).mono ?_; rintro e w' ⟨rfl, hb⟩; have hb' : Ext w2 w' := hb)
        go_ret
        exact ⟨ret_bool HF.out.symm, hx.trans (hE.trans (hx2.trans hb'))⟩
       ·have HT := Lib.hid (HS.out rfl)
        go_wp2_with (go_at_call 107; refine (HC.out).mono ?_; rintro e w' ⟨rfl, hb⟩; have hb' : Ext w2 w' := hb)
        go_roundw
        case rel => exact ⟨k + 1, by go_num, by omega, HT, hE.trans (hx2.trans hb')⟩
        case measure => simp [intOf]; omega
      ·have hk' : k = l.length := by omega
       have HF := Lib.hid (HY.out (fun i hi => hgd.out i hi (by omega)))
       go_wp2
       go_ret
       exact ⟨ret_bool HF.out.symm, hx.trans hE⟩
    ·have HF := Lib.hid (HNO.out (.inr (.inr (.inr (by omega)))))
     clear HNO hn hs hd
     rw [HF.out]
     go_enter Tryz.func107, Tryz.ntmps107
     go_upto_region 1 with (fail)
     rw [← HW1.out, ← HG.out]
     clear HW1 HG HF
     go_wp2_with fail
     all_goals
      go_ret
      exact ⟨rfl, hx⟩
   ·have HF := Lib.hid (HNO.out (.inl hn))
    clear HNO hs hd
    rw [HF.out]
    have hn' : (n != 0) = true := by simpa using hn
    clear hn
    go_enter Tryz.func107, Tryz.ntmps107
    go_upto_region 1 with (fail)
    rw [← HW1.out, ← HG.out]
    clear HW1 HG HF
    go_wp2_with fail
    all_goals
     go_ret
     exact ⟨rfl, hx⟩
  ·have HF := Lib.hid (HNO.out (.inr (.inr (.inl hs))))
   clear HNO hd
   rw [HF.out]
   have hs' : ¬ s.toList = [] := by rw [nil_iff]; exact hs
   clear hs
   go_enter Tryz.func107, Tryz.ntmps107
   go_upto_region 1 with (fail)
   rw [← HW1.out, ← HG.out]
   clear HW1 HG HF
   go_wp2_with fail
   all_goals
    go_ret
    exact ⟨rfl, hx⟩
 ·have HF := Lib.hid (HNO.out (.inr (.inl hd)))
  clear HNO
  rw [HF.out]
  have hd' : (d != 0) = true := by simpa using hd
  clear hd
  go_enter Tryz.func107, Tryz.ntmps107
  go_upto_region 1 with (fail)
  rw [← HW1.out, ← HG.out]
  clear HW1 HG HF
  go_wp2_with fail
  all_goals
   go_ret
   exact ⟨rfl, hx⟩
theorem v_valid : ∀ j, ValidAt j
 | 0 => fun lists v ok A c w hl0 hj hv => by
  obtain ⟨k, n, d, s, l⟩ := v
  simp only [Val.kind, Val.n, Val.d, Val.s, Val.l] at *
  obtain rfl : lists = 8 := by omega
  by_cases h7 : k = 7
  ·subst h7
   rw [validN_path rfl]
   exact v_valid7 n d s l ok A c 8 w hv
  ·by_cases h8 : k = 8
   ·subst h8
    rw [validN_list0 rfl]
    exact v_valid80 n d s l.length A c w hv.len
   ·rw [validN_leaf (v := .mk k n d s l) h7 h8, leafB_eq]
    exact v_leaf k n d s l.length A c 8 w h7 h8 hv.len
 | j + 1 => fun lists v ok A c w hl0 hj hv => by
  have ih := v_valid j
  obtain ⟨k, n, d, s, l⟩ := v
  simp only [Val.kind, Val.n, Val.d, Val.s, Val.l] at *
  by_cases h7 : k = 7
  ·subst h7
   rw [validN_path rfl]
   exact v_valid7 n d s l ok A c lists w hv
  ·by_cases h8 : k = 8
   ·subst h8
    exact v_valid8 j ih lists n d s l ok A c w hl0 hj hv
   ·rw [validN_leaf (v := .mk k n d s l) h7 h8, leafB_eq]
    exact v_leaf k n d s l.length A c lists w h7 h8 hv.len
set_option maxRecDepth 100000 in
theorem v_Valid (v : Val) (ok : Nat → Prop) (A : Option Addr) (c : Nat) (w : World) (hv : Vals w ok A v.l) :
  Calls Tryz.prog 90 #[.agg #[.int .i64 v.kind, .int .i64 v.n, .int .i64 v.d, .string v.s, .slice A v.l.length c]] w fun e w' => e = .returned (.bool (validV v)) ∧ Ext w w' := by
 obtain ⟨g, w1, hg, hw1, ⟨c0, c1, c2, c3, c4⟩, hx, -⟩ := box5 w v.kind v.n v.d v.s A v.l.length c 98
 have C := v_valid 8 0 v ok A c w1 (by omega) rfl (hv.ext hx)
 rw [show validN 8 v = validV v from rfl] at C
 have HC := Lib.hid C
 have HW1 := Lib.hid hw1
 have HG := Lib.hid hg
 clear hw1 hg hv C
 go_enter Tryz.func90, Tryz.ntmps90
 go_upto_region 1 with (fail)
 rw [← HW1.out, ← HG.out]
 clear HW1 HG
 go_wp2_with (go_at_call 107; refine (HC.out).mono ?_; rintro e w' ⟨rfl, hb⟩; have hb' : Ext w1 w' := hb)
 go_ret
 exact ⟨rfl, hx.trans hb'⟩
end Go.Proofs.YtnheioehadldmaaGreat

/- THE WALKS over the wide integers of package frac. -/
namespace Go.Proofs.YtnheioehadldmaaGreat
open Go.RowKit
theorem bcell {W w1 : World} (hb : Below W.heap.size W w1) : (∀ b o, b < W.heap.size → w1.cell? ⟨b, o, none⟩ = W.cell? ⟨b, o, none⟩) ∧ (∀ b o, b < W.heap.size → w1.frozen? ⟨b, o, none⟩ = W.frozen? ⟨b, o, none⟩) :=
 ⟨fun b o h => hb.cell (p := ⟨b, o, none⟩) h, fun b o h => hb.frozen (p := ⟨b, o, none⟩) h⟩
end Go.Proofs.YtnheioehadldmaaGreat

/- PLAIN facts for the long division's shifts. -/
namespace Go.Proofs.YtnheioehadldmaaGreat
open Go.RowKit
theorem and_low {x : Nat} (h : x < 18446744073709551616) : bits .and .u64 (x : Int) 4294967295 = ((x % 4294967296 : Nat) : Int) := by
 have := u64_and_nat x 4294967295 h (by omega)
 rw [show ((4294967295 : Nat) : Int) = 4294967295 from rfl] at this
 rw [this]
 congr 1
 exact Nat.and_two_pow_sub_one_eq_mod x 32
theorem halves {a b : Nat} (ha : a < 4294967296) (hb : b < 4294967296) : ((a * 4294967296 + b : Nat) : Int) / 4294967296 = (a : Int) ∧ bits .and .u64 ((a * 4294967296 + b : Nat) : Int) 4294967295 = (b : Int) := by
 refine ⟨by omega, ?_⟩
 rw [and_low (by omega)]; congr 1; omega
end Go.Proofs.YtnheioehadldmaaGreat
