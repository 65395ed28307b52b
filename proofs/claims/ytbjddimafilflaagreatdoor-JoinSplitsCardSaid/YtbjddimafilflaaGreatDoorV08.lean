/- PARTS OF THE WALKS, joined: Ra, Rb, PlainW, FracS. -/
import Derived.Test.YtbjddimafilflaaGreatDoorV07
import Derived.Test.YtbjddimafilflaaGreatDoorV02
/- THE WALKS over the reference's bare, str, and valid at values that are no list and no path. -/
namespace Go.Proofs.YtbjddimafilflaaGreatDoor
open Go.RowKit
mutual
/-- every string in a value is no longer than memory bears -/
def szV : Val → Prop
  | .mk _ _ _ s l => s.size ≤ 140737488355328 ∧ szL l
def szL : List Val → Prop
  | [] => True
  | v :: vs => szV v ∧ szL vs
end
theorem szV_iff {v : Val} : szV v ↔ v.s.size ≤ 140737488355328 ∧ szL v.l := by cases v; rw [szV]; rfl
theorem szL_mem {l : List Val} (h : szL l) {v : Val} (hv : v ∈ l) : szV v := by
  induction l with
  | nil => cases hv
  | cons x l ih =>
    rw [szL] at h
    rcases List.mem_cons.1 hv with e | e
    · rw [e]; exact h.1
    · exact ih h.2 e
def bareF (p q r t : Bool) (n d : Int) (s : ByteArray) (m : Nat) : Bool := (p || decide (n = 0)) && (q || decide (d = 0)) && (r || decide (s.size = 0)) && (t || decide (m = 0))
set_option maxRecDepth 100000 in
set_option maxHeartbeats 1600000 in
theorem r4_bare_ffff (k n d : Int) (s : ByteArray) (A : Option Addr) (m c : Nat) (w : World) : Calls Tryz.prog 111 #[.agg #[.int .i64 k, .int .i64 n, .int .i64 d, .string s, .slice A m c], .bool false, .bool false, .bool false, .bool false] w fun e w' => e = .returned (.bool (bareF false false false false n d s m)) ∧ Ext w w' := by
  obtain ⟨g, w1, hg, hw1, ⟨c0, c1, c2, c3, c4⟩, hx, -⟩ := box5 w k n d s A m c 40
  have HW1 := Lib.hid hw1
  have HG := Lib.hid hg
  clear hw1 hg
  go_enter Tryz.func111, Tryz.ntmps111
  go_upto_region 1 with (fail)
  rw [← HW1.out, ← HG.out]
  clear HW1 HG
  go_wp2_with fail
  all_goals
    go_ret
    refine ⟨ret_bool ?_, hx⟩
    clear c0 c1 c2 c3 c4
    (try simp only [nil_iff] at *)
    unfold bareF
    (try simp only [beq_decI])
    first | (simp_all; done) | (simp_all; omega)
set_option maxRecDepth 100000 in
set_option maxHeartbeats 1600000 in
theorem r4_bare_tfff (k n d : Int) (s : ByteArray) (A : Option Addr) (m c : Nat) (w : World) : Calls Tryz.prog 111 #[.agg #[.int .i64 k, .int .i64 n, .int .i64 d, .string s, .slice A m c], .bool true, .bool false, .bool false, .bool false] w fun e w' => e = .returned (.bool (bareF true false false false n d s m)) ∧ Ext w w' := by
  obtain ⟨g, w1, hg, hw1, ⟨c0, c1, c2, c3, c4⟩, hx, -⟩ := box5 w k n d s A m c 40
  have HW1 := Lib.hid hw1
  have HG := Lib.hid hg
  clear hw1 hg
  go_enter Tryz.func111, Tryz.ntmps111
  go_upto_region 1 with (fail)
  rw [← HW1.out, ← HG.out]
  clear HW1 HG
  go_wp2_with fail
  all_goals
    go_ret
    refine ⟨ret_bool ?_, hx⟩
    clear c0 c1 c2 c3 c4
    (try simp only [nil_iff] at *)
    unfold bareF
    (try simp only [beq_decI])
    first | (simp_all; done) | (simp_all; omega)
set_option maxRecDepth 100000 in
set_option maxHeartbeats 1600000 in
theorem r4_bare_ttff (k n d : Int) (s : ByteArray) (A : Option Addr) (m c : Nat) (w : World) : Calls Tryz.prog 111 #[.agg #[.int .i64 k, .int .i64 n, .int .i64 d, .string s, .slice A m c], .bool true, .bool true, .bool false, .bool false] w fun e w' => e = .returned (.bool (bareF true true false false n d s m)) ∧ Ext w w' := by
  obtain ⟨g, w1, hg, hw1, ⟨c0, c1, c2, c3, c4⟩, hx, -⟩ := box5 w k n d s A m c 40
  have HW1 := Lib.hid hw1
  have HG := Lib.hid hg
  clear hw1 hg
  go_enter Tryz.func111, Tryz.ntmps111
  go_upto_region 1 with (fail)
  rw [← HW1.out, ← HG.out]
  clear HW1 HG
  go_wp2_with fail
  all_goals
    go_ret
    refine ⟨ret_bool ?_, hx⟩
    clear c0 c1 c2 c3 c4
    (try simp only [nil_iff] at *)
    unfold bareF
    (try simp only [beq_decI])
    first | (simp_all; done) | (simp_all; omega)
set_option maxRecDepth 100000 in
set_option maxHeartbeats 1600000 in
theorem r4_bare_fftf (k n d : Int) (s : ByteArray) (A : Option Addr) (m c : Nat) (w : World) : Calls Tryz.prog 111 #[.agg #[.int .i64 k, .int .i64 n, .int .i64 d, .string s, .slice A m c], .bool false, .bool false, .bool true, .bool false] w fun e w' => e = .returned (.bool (bareF false false true false n d s m)) ∧ Ext w w' := by
  obtain ⟨g, w1, hg, hw1, ⟨c0, c1, c2, c3, c4⟩, hx, -⟩ := box5 w k n d s A m c 40
  have HW1 := Lib.hid hw1
  have HG := Lib.hid hg
  clear hw1 hg
  go_enter Tryz.func111, Tryz.ntmps111
  go_upto_region 1 with (fail)
  rw [← HW1.out, ← HG.out]
  clear HW1 HG
  go_wp2_with fail
  all_goals
    go_ret
    refine ⟨ret_bool ?_, hx⟩
    clear c0 c1 c2 c3 c4
    (try simp only [nil_iff] at *)
    unfold bareF
    (try simp only [beq_decI])
    first | (simp_all; done) | (simp_all; omega)
set_option maxRecDepth 100000 in
set_option maxHeartbeats 1600000 in
theorem r4_bare_ffft (k n d : Int) (s : ByteArray) (A : Option Addr) (m c : Nat) (w : World) : Calls Tryz.prog 111 #[.agg #[.int .i64 k, .int .i64 n, .int .i64 d, .string s, .slice A m c], .bool false, .bool false, .bool false, .bool true] w fun e w' => e = .returned (.bool (bareF false false false true n d s m)) ∧ Ext w w' := by
  obtain ⟨g, w1, hg, hw1, ⟨c0, c1, c2, c3, c4⟩, hx, -⟩ := box5 w k n d s A m c 40
  have HW1 := Lib.hid hw1
  have HG := Lib.hid hg
  clear hw1 hg
  go_enter Tryz.func111, Tryz.ntmps111
  go_upto_region 1 with (fail)
  rw [← HW1.out, ← HG.out]
  clear HW1 HG
  go_wp2_with fail
  all_goals
    go_ret
    refine ⟨ret_bool ?_, hx⟩
    clear c0 c1 c2 c3 c4
    (try simp only [nil_iff] at *)
    unfold bareF
    (try simp only [beq_decI])
    first | (simp_all; done) | (simp_all; omega)
theorem get_elem (s : ByteArray) (k : Nat) (h : k < s.size) : s.get! k = s[k] := by
  rw [get_data s k h]; rfl
theorem str_no {s : ByteArray} {k : Nat} (hk : k < s.size) (h : pBad s[k].toNat = true) : strOk s = false := by
  rw [strOk_eq]
  cases hb : bytesOk s
  · exact Bool.and_false _
  · have := (bytesOk_iff s).1 hb k hk
    rw [get_elem s k hk, h] at this; cases this
theorem str_yes {s : ByteArray} (h : ∀ j (h : j < s.size), pBad s[j].toNat = false) : strOk s = decide (s.size ≤ 100) := by
  rw [strOk_eq, (bytesOk_iff s).2 (fun j hj => by rw [get_elem s j hj]; exact h j hj), Bool.and_true]
set_option maxHeartbeats 1600000 in
theorem r4_str (s : ByteArray) (w : World) (hs : s.size ≤ 140737488355328) : Calls Tryz.prog 113 #[.string s] w fun e w' => e = .returned (.bool (strOk s)) ∧ w' = w := by
  have HY := Lib.hid (fun h => str_yes (s := s) h)
  have HN := Lib.hid (fun (k : Nat) (hk : k < s.size) h => str_no (s := s) hk h)
  go_enter Tryz.func113, Tryz.ntmps113
  go_wp2
  go_loop [3] (fun u => ∃ k : Nat, u = .int .i64 k ∧ k ≤ s.size ∧ Hid (∀ j (h : j < s.size), j < k → pBad s[j].toNat = false)) (fun u => s.size - (intOf u).toNat)
  case atStart => exact ⟨0, rfl, Nat.zero_le _, Lib.hid (fun j _ hj => absurd hj (by omega))⟩
  case round =>
    obtain ⟨k, rfl, hk, hA⟩ := hrel
    by_cases hlt : k < s.size
    · have HB := Lib.hid (HN.out k hlt)
      have HS := Lib.hid (fun (h : pBad s[k].toNat = false) j (hj : j < s.size) (hjk : j < k + 1) => (if e : j = k then (by subst e; exact h) else hA.out j hj (by omega) : pBad s[j].toNat = false))
      by_cases h1 : s[k].toNat < 32
      · have HF := Lib.hid (HB.out (by unfold pBad; rw [decide_eq_true h1]; rfl))
        clear HB HS
        go_wp2
        all_goals first | (go_ret; exact ⟨ret_bool HF.out.symm, rfl⟩) | (exfalso; omega)
      · by_cases h2 : 126 < s[k].toNat
        · have HF := Lib.hid (HB.out (by unfold pBad; rw [decide_eq_true h2, Bool.or_true]))
          clear HB HS
          go_wp2
          all_goals first | (go_ret; exact ⟨ret_bool HF.out.symm, rfl⟩) | (exfalso; omega)
        · have HT := Lib.hid (HS.out (by unfold pBad; rw [decide_eq_false h1, decide_eq_false h2]; rfl))
          clear HB HS
          go_wp2
          all_goals first | (go_round; (case rel => exact ⟨k + 1, by go_num, by omega, HT⟩); (case measure => simp [intOf]; omega)) | (exfalso; omega)
    · have HF := Lib.hid (HY.out (fun j hj => hA.out j hj (by omega)))
      by_cases h100 : s.size ≤ 100
      · rw [decide_eq_true h100] at HF
        go_wp2
        go_ret
        exact ⟨ret_bool (by rw [HF.out, decide_eq_true_iff]; omega), rfl⟩
      · rw [decide_eq_false h100] at HF
        go_wp2
        go_ret
        exact ⟨ret_bool (by rw [HF.out, decide_eq_false_iff_not]; omega), rfl⟩
set_option maxRecDepth 100000 in
set_option maxHeartbeats 1600000 in
theorem r4_valid0 (n d : Int) (s : ByteArray) (m : Nat) (A : Option Addr) (c : Nat) (nest : Int) (w : World) (_hs : s.size ≤ 140737488355328) : Calls Tryz.prog 97 #[.agg #[.int .i64 0, .int .i64 n, .int .i64 d, .string s, .slice A m c], .int .i64 nest] w fun e w' => e = .returned (.bool (leafF 0 n d s m)) ∧ Ext w w' := by
  obtain ⟨g, w1, hg, hw1, ⟨c0, c1, c2, c3, c4⟩, hx, -⟩ := box5 w 0 n d s A m c 40
  have HW1 := Lib.hid hw1
  have HG := Lib.hid hg
  clear hw1 hg
  go_enter Tryz.func97, Tryz.ntmps97
  go_upto_region 1 with (fail)
  rw [← HW1.out, ← HG.out]
  clear HW1 HG
  go_wp2_with (go_at_call 111; ((with_reducible refine (r4_bare_ffff _ _ _ _ _ _ _ _).mono ?_); rintro e w' ⟨rfl, hb⟩; have hb1 : Ext w1 w' := hb; replace c0 := hb1.cell c0; replace c1 := hb1.cell c1; replace c2 := hb1.cell c2; replace c3 := hb1.cell c3; replace c4 := hb1.cell c4))
  all_goals
    go_ret
    refine ⟨ret_bool ?_, (by first | exact hx | exact Ext.trans hx (by assumption) | exact Ext.trans hx (Ext.trans hb1 (by assumption)))⟩
    clear c0 c1 c2 c3 c4
    (try simp only [nil_iff] at *)
    unfold leafF
    (try unfold bareF at *)
    skip
    first | (simp_all; done) | (simp_all; omega)
set_option maxRecDepth 100000 in
set_option maxHeartbeats 1600000 in
theorem r4_valid1 (n d : Int) (s : ByteArray) (m : Nat) (A : Option Addr) (c : Nat) (nest : Int) (w : World) (_hs : s.size ≤ 140737488355328) : Calls Tryz.prog 97 #[.agg #[.int .i64 1, .int .i64 n, .int .i64 d, .string s, .slice A m c], .int .i64 nest] w fun e w' => e = .returned (.bool (leafF 1 n d s m)) ∧ Ext w w' := by
  obtain ⟨g, w1, hg, hw1, ⟨c0, c1, c2, c3, c4⟩, hx, -⟩ := box5 w 1 n d s A m c 40
  have HW1 := Lib.hid hw1
  have HG := Lib.hid hg
  clear hw1 hg
  go_enter Tryz.func97, Tryz.ntmps97
  go_upto_region 1 with (fail)
  rw [← HW1.out, ← HG.out]
  clear HW1 HG
  go_wp2_with (go_at_call 111; ((with_reducible refine (r4_bare_tfff _ _ _ _ _ _ _ _).mono ?_); rintro e w' ⟨rfl, hb⟩; have hb1 : Ext w1 w' := hb; replace c0 := hb1.cell c0; replace c1 := hb1.cell c1; replace c2 := hb1.cell c2; replace c3 := hb1.cell c3; replace c4 := hb1.cell c4))
  all_goals
    go_ret
    refine ⟨ret_bool ?_, (by first | exact hx | exact Ext.trans hx (by assumption) | exact Ext.trans hx (Ext.trans hb1 (by assumption)))⟩
    clear c0 c1 c2 c3 c4
    (try simp only [nil_iff] at *)
    unfold leafF
    (try unfold bareF at *)
    (try simp only [beq_decI])
    first | (simp_all; done) | (simp_all; omega)
set_option maxRecDepth 100000 in
set_option maxHeartbeats 1600000 in
theorem r4_valid2 (n d : Int) (s : ByteArray) (m : Nat) (A : Option Addr) (c : Nat) (nest : Int) (w : World) (_hs : s.size ≤ 140737488355328) : Calls Tryz.prog 97 #[.agg #[.int .i64 2, .int .i64 n, .int .i64 d, .string s, .slice A m c], .int .i64 nest] w fun e w' => e = .returned (.bool (leafF 2 n d s m)) ∧ Ext w w' := by
  obtain ⟨g, w1, hg, hw1, ⟨c0, c1, c2, c3, c4⟩, hx, -⟩ := box5 w 2 n d s A m c 40
  have HW1 := Lib.hid hw1
  have HG := Lib.hid hg
  clear hw1 hg
  go_enter Tryz.func97, Tryz.ntmps97
  go_upto_region 1 with (fail)
  rw [← HW1.out, ← HG.out]
  clear HW1 HG
  go_wp2_with (first | (go_at_call 111; ((with_reducible refine (r4_bare_tfff _ _ _ _ _ _ _ _).mono ?_); rintro e w' ⟨rfl, hb⟩; have hb1 : Ext w1 w' := hb; replace c0 := hb1.cell c0; replace c1 := hb1.cell c1; replace c2 := hb1.cell c2; replace c3 := hb1.cell c3; replace c4 := hb1.cell c4)) | (go_at_call 112; refine (ref_In _ _).mono ?_; rintro e w' ⟨rfl, rfl⟩))
  all_goals
    go_ret
    refine ⟨ret_bool ?_, (by first | exact hx | exact Ext.trans hx (by assumption) | exact Ext.trans hx (Ext.trans hb1 (by assumption)))⟩
    clear c0 c1 c2 c3 c4
    (try simp only [nil_iff] at *)
    unfold leafF
    (try unfold bareF at *)
    skip
    first | (simp_all; done) | (simp_all; omega)
set_option maxRecDepth 100000 in
set_option maxHeartbeats 1600000 in
theorem r4_valid3 (n d : Int) (s : ByteArray) (m : Nat) (A : Option Addr) (c : Nat) (nest : Int) (w : World) (_hs : s.size ≤ 140737488355328) : Calls Tryz.prog 97 #[.agg #[.int .i64 3, .int .i64 n, .int .i64 d, .string s, .slice A m c], .int .i64 nest] w fun e w' => e = .returned (.bool (leafF 3 n d s m)) ∧ Ext w w' := by
  obtain ⟨g, w1, hg, hw1, ⟨c0, c1, c2, c3, c4⟩, hx, -⟩ := box5 w 3 n d s A m c 40
  have HW1 := Lib.hid hw1
  have HG := Lib.hid hg
  clear hw1 hg
  go_enter Tryz.func97, Tryz.ntmps97
  go_upto_region 1 with (fail)
  rw [← HW1.out, ← HG.out]
  clear HW1 HG
  go_wp2_with (first | (go_at_call 111; ((with_reducible refine (r4_bare_ttff _ _ _ _ _ _ _ _).mono ?_); rintro e w' ⟨rfl, hb⟩; have hb1 : Ext w1 w' := hb; replace c0 := hb1.cell c0; replace c1 := hb1.cell c1; replace c2 := hb1.cell c2; replace c3 := hb1.cell c3; replace c4 := hb1.cell c4)) | (go_at_call 99; refine (r3_Valid _ _ _).mono ?_; rintro e w' ⟨rfl, hbv⟩; have hb2 : Ext _ w' := hbv))
  all_goals
    go_ret
    refine ⟨ret_bool ?_, (by first | exact hx | exact Ext.trans hx (by assumption) | exact Ext.trans hx (Ext.trans hb1 (by assumption)))⟩
    clear c0 c1 c2 c3 c4
    (try simp only [nil_iff] at *)
    unfold leafF
    (try unfold bareF at *)
    skip
    first | (simp_all; done) | (simp_all; omega)
set_option maxRecDepth 100000 in
set_option maxHeartbeats 1600000 in
theorem r4_valid4 (n d : Int) (s : ByteArray) (m : Nat) (A : Option Addr) (c : Nat) (nest : Int) (w : World) (hs : s.size ≤ 140737488355328) : Calls Tryz.prog 97 #[.agg #[.int .i64 4, .int .i64 n, .int .i64 d, .string s, .slice A m c], .int .i64 nest] w fun e w' => e = .returned (.bool (leafF 4 n d s m)) ∧ Ext w w' := by
  obtain ⟨g, w1, hg, hw1, ⟨c0, c1, c2, c3, c4⟩, hx, -⟩ := box5 w 4 n d s A m c 40
  have HW1 := Lib.hid hw1
  have HG := Lib.hid hg
  clear hw1 hg
  go_enter Tryz.func97, Tryz.ntmps97
  go_upto_region 1 with (fail)
  rw [← HW1.out, ← HG.out]
  clear HW1 HG
  go_wp2_with (first | (go_at_call 111; ((with_reducible refine (r4_bare_fftf _ _ _ _ _ _ _ _).mono ?_); rintro e w' ⟨rfl, hb⟩; have hb1 : Ext w1 w' := hb; replace c0 := hb1.cell c0; replace c1 := hb1.cell c1; replace c2 := hb1.cell c2; replace c3 := hb1.cell c3; replace c4 := hb1.cell c4)) | (go_at_call 113; refine (r4_str _ _ hs).mono ?_; rintro e w' ⟨rfl, rfl⟩))
  all_goals
    go_ret
    refine ⟨ret_bool ?_, (by first | exact hx | exact Ext.trans hx (by assumption) | exact Ext.trans hx (Ext.trans hb1 (by assumption)))⟩
    clear c0 c1 c2 c3 c4
    (try simp only [nil_iff] at *)
    unfold leafF
    (try unfold bareF at *)
    skip
    first | (simp_all; done) | (simp_all; omega)
set_option maxRecDepth 100000 in
set_option maxHeartbeats 1600000 in
theorem r4_valid5 (n d : Int) (s : ByteArray) (m : Nat) (A : Option Addr) (c : Nat) (nest : Int) (w : World) (_hs : s.size ≤ 140737488355328) : Calls Tryz.prog 97 #[.agg #[.int .i64 5, .int .i64 n, .int .i64 d, .string s, .slice A m c], .int .i64 nest] w fun e w' => e = .returned (.bool (leafF 5 n d s m)) ∧ Ext w w' := by
  obtain ⟨g, w1, hg, hw1, ⟨c0, c1, c2, c3, c4⟩, hx, -⟩ := box5 w 5 n d s A m c 40
  have HW1 := Lib.hid hw1
  have HG := Lib.hid hg
  clear hw1 hg
  go_enter Tryz.func97, Tryz.ntmps97
  go_upto_region 1 with (fail)
  rw [← HW1.out, ← HG.out]
  clear HW1 HG
  go_wp2_with (go_at_call 111; ((with_reducible refine (r4_bare_tfff _ _ _ _ _ _ _ _).mono ?_); rintro e w' ⟨rfl, hb⟩; have hb1 : Ext w1 w' := hb; replace c0 := hb1.cell c0; replace c1 := hb1.cell c1; replace c2 := hb1.cell c2; replace c3 := hb1.cell c3; replace c4 := hb1.cell c4))
  all_goals
    go_ret
    refine ⟨ret_bool ?_, (by first | exact hx | exact Ext.trans hx (by assumption) | exact Ext.trans hx (Ext.trans hb1 (by assumption)))⟩
    clear c0 c1 c2 c3 c4
    (try simp only [nil_iff] at *)
    unfold leafF
    (try unfold bareF at *)
    skip
    first | (simp_all; done) | (simp_all; omega)
set_option maxRecDepth 100000 in
set_option maxHeartbeats 1600000 in
theorem r4_valid6 (n d : Int) (s : ByteArray) (m : Nat) (A : Option Addr) (c : Nat) (nest : Int) (w : World) (_hs : s.size ≤ 140737488355328) : Calls Tryz.prog 97 #[.agg #[.int .i64 6, .int .i64 n, .int .i64 d, .string s, .slice A m c], .int .i64 nest] w fun e w' => e = .returned (.bool (leafF 6 n d s m)) ∧ Ext w w' := by
  obtain ⟨g, w1, hg, hw1, ⟨c0, c1, c2, c3, c4⟩, hx, -⟩ := box5 w 6 n d s A m c 40
  have HW1 := Lib.hid hw1
  have HG := Lib.hid hg
  clear hw1 hg
  go_enter Tryz.func97, Tryz.ntmps97
  go_upto_region 1 with (fail)
  rw [← HW1.out, ← HG.out]
  clear HW1 HG
  go_wp2_with (go_at_call 111; ((with_reducible refine (r4_bare_tfff _ _ _ _ _ _ _ _).mono ?_); rintro e w' ⟨rfl, hb⟩; have hb1 : Ext w1 w' := hb; replace c0 := hb1.cell c0; replace c1 := hb1.cell c1; replace c2 := hb1.cell c2; replace c3 := hb1.cell c3; replace c4 := hb1.cell c4))
  all_goals
    go_ret
    refine ⟨ret_bool ?_, (by first | exact hx | exact Ext.trans hx (by assumption) | exact Ext.trans hx (Ext.trans hb1 (by assumption)))⟩
    clear c0 c1 c2 c3 c4
    (try simp only [nil_iff] at *)
    unfold leafF
    (try unfold bareF at *)
    skip
    first | (simp_all; done) | (simp_all; omega)
set_option maxRecDepth 100000 in
set_option maxHeartbeats 1600000 in
theorem r4_valido (k : Int) (hk : (k == 0) = false ∧ (k == 1) = false ∧ (k == 2) = false ∧ (k == 3) = false ∧ (k == 4) = false ∧ (k == 5) = false ∧ (k == 6) = false ∧ (k == 7) = false ∧ (k == 8) = false) (n d : Int) (s : ByteArray) (m : Nat) (A : Option Addr) (c : Nat) (nest : Int) (w : World) (_hs : s.size ≤ 140737488355328) : Calls Tryz.prog 97 #[.agg #[.int .i64 k, .int .i64 n, .int .i64 d, .string s, .slice A m c], .int .i64 nest] w fun e w' => e = .returned (.bool (leafF k n d s m)) ∧ Ext w w' := by
  have hne := other9 hk
  obtain ⟨h0, h1, h2, h3, h4, h5, h6, h7, h8⟩ := hk
  obtain ⟨n0, n1, n2, n3, n4, n5, n6, n7, n8⟩ := hne
  obtain ⟨g, w1, hg, hw1, ⟨c0, c1, c2, c3, c4⟩, hx, -⟩ := box5 w k n d s A m c 40
  have HW1 := Lib.hid hw1
  have HG := Lib.hid hg
  clear hw1 hg
  go_enter Tryz.func97, Tryz.ntmps97
  go_upto_region 1 with (fail)
  rw [← HW1.out, ← HG.out]
  clear HW1 HG
  go_wp2_with fail
  all_goals
    go_ret
    refine ⟨ret_bool ?_, (by first | exact hx | exact Ext.trans hx (by assumption) | exact Ext.trans hx (Ext.trans hb1 (by assumption)))⟩
    clear c0 c1 c2 c3 c4
    (try simp only [nil_iff] at *)
    unfold leafF
    (try unfold bareF at *)
    skip
    first | (simp_all; done) | (simp_all; omega)
end Go.Proofs.YtbjddimafilflaaGreatDoor

/- THE WALKS over the reference's path, list, valid, Valid. -/
namespace Go.Proofs.YtbjddimafilflaaGreatDoor
open Go.RowKit
theorem r4_leaf (k n d : Int) (s : ByteArray) (m : Nat) (A : Option Addr) (c : Nat) (nest : Int) (w : World) (h7 : k ≠ 7) (h8 : k ≠ 8) (hs : s.size ≤ 140737488355328) : Calls Tryz.prog 97 #[.agg #[.int .i64 k, .int .i64 n, .int .i64 d, .string s, .slice A m c], .int .i64 nest] w fun e w' => e = .returned (.bool (leafF k n d s m)) ∧ Ext w w' := by
  by_cases h0 : k = 0
  · subst h0; exact r4_valid0 n d s m A c nest w hs
  by_cases h1 : k = 1
  · subst h1; exact r4_valid1 n d s m A c nest w hs
  by_cases h2 : k = 2
  · subst h2; exact r4_valid2 n d s m A c nest w hs
  by_cases h3 : k = 3
  · subst h3; exact r4_valid3 n d s m A c nest w hs
  by_cases h4 : k = 4
  · subst h4; exact r4_valid4 n d s m A c nest w hs
  by_cases h5 : k = 5
  · subst h5; exact r4_valid5 n d s m A c nest w hs
  by_cases h6 : k = 6
  · subst h6; exact r4_valid6 n d s m A c nest w hs
  exact r4_valido k (by simp only [beq_eq_false_iff_ne]; exact ⟨h0, h1, h2, h3, h4, h5, h6, h7, h8⟩) n d s m A c nest w hs
set_option maxRecDepth 100000 in
set_option maxHeartbeats 3200000 in
theorem r4_path (l : List Val) (ok : Nat → Prop) (A : Option Addr) (c : Nat) (w : World) (hv : Vals w ok A l) (hsz : szL l) : Calls Tryz.prog 114 #[.slice A l.length c] w fun e w' => e = .returned (.bool (pathB l)) ∧ Ext w w' := by
  have hm := hv.len
  have HV := Lib.hid hv
  have HZ := Lib.hid (fun (x : Val) (hx : x ∈ l) => (szV_iff.1 (szL_mem hsz hx)).1)
  clear hv hsz
  by_cases h1 : l.length % 2 = 0
  · have HF := Lib.hid (pathB_odd h1)
    have h1' : ((l.length : Int) % 2) = 0 := by omega
    go_enter Tryz.func114, Tryz.ntmps114
    go_wp2
    go_ret
    exact ⟨ret_bool HF.out.symm, Ext.refl _⟩
  · have h1' : ((l.length : Int) % 2) = 1 := by omega
    by_cases h2 : 25 < l.length
    · have HF := Lib.hid (pathB_long h2)
      go_enter Tryz.func114, Tryz.ntmps114
      go_wp2
      go_ret
      exact ⟨ret_bool HF.out.symm, Ext.refl _⟩
    · have h3 : l.length % 2 = 1 := by omega
      have HY := Lib.hid (fun h => pathB_yes (l := l) h3 (by omega) h)
      have HN := Lib.hid (fun i (h : i < l.length) hg => pathB_no (l := l) h hg)
      have h25 : decide ((25 : Int) < (l.length : Int)) = false := by simp; omega
      clear h1 h2 h3
      go_enter Tryz.func114, Tryz.ntmps114
      go_wp2
      clear h1' h25
      go_loopw [3] (fun u W => ∃ k : Nat, u = .int .i64 k ∧ k ≤ l.length ∧ Hid (∀ j, j < k → goodP l j = true) ∧ Ext w W) (fun u _ => l.length - (intOf u).toNat)
      case atStart => exact ⟨0, rfl, Nat.zero_le _, Lib.hid (fun j hj => absurd hj (Nat.not_lt_zero _)), Ext.refl _⟩
      case round =>
        obtain ⟨k, rfl, hk, hgd, hE⟩ := hrel
        by_cases hlt : k < l.length
        · obtain ⟨b, o, rfl, hc⟩ := HV.out.2 (by omega)
          obtain ⟨-, A', c', h5, -, hv'⟩ := VCells.iff.1 (hc k hlt)
          obtain ⟨d0, d1, d2, d3, d4⟩ := h5.ext hE
          have hm' := hv'.len
          have hsz' := HZ.out l[k] (List.getElem_mem hlt)
          have HS := Lib.hid (fun (h : goodP l k = true) j (hj : j < k + 1) => (if e : j = k then e ▸ h else hgd.out j (by omega) : goodP l j = true))
          have HG := Lib.hid (show goodP l k = (decide (l[k].kind = stepK k) && leafF l[k].kind l[k].n l[k].d l[k].s l[k].l.length) by unfold goodP; rw [getV hlt, leafB_eq])
          have HN' := Lib.hid (HN.out k hlt)
          clear hc h5 hv' HN
          generalize l[k] = x at d0 d1 d2 d3 d4 HG hm' hsz'
          rcases Nat.mod_two_eq_zero_or_one k with hp | hp
          · have hst : stepK k = 5 := by unfold stepK; rw [if_pos hp]
            have hpi : ((k : Int) % 2) = 0 := by omega
            rw [hst] at HG
            clear hp hst
            by_cases hk5 : x.kind = 5
            · rw [hk5] at d0 HG
              have C := fun W => r4_leaf 5 x.n x.d x.s x.l.length A' c' 0 W (by omega) (by omega) hsz'
              generalize leafF 5 x.n x.d x.s x.l.length = q at C HG
              have HC := Lib.hid C
              clear C hk5
              cases q
              · have HF := Lib.hid (HN'.out (by rw [HG.out, Bool.and_false]))
                clear HG
                go_wp2_with (go_at_call 97; ((with_reducible refine (HC.out _).mono ?_); rintro e w' ⟨rfl, hb⟩; have hb' : Ext wr w' := Ext.trans (by repeat (first | with_reducible exact Ext.refl _ | with_reducible assumption | with_reducible refine Ext.drew ?_ | with_reducible refine Ext.drewN ?_ _ | with_reducible refine Ext.alloc ?_ _)) hb))
                go_ret
                exact ⟨ret_bool HF.out.symm, hE.trans hb'⟩
              · have HT := Lib.hid (HS.out (by rw [HG.out]; rfl))
                clear HG
                go_wp2_with (go_at_call 97; ((with_reducible refine (HC.out _).mono ?_); rintro e w' ⟨rfl, hb⟩; have hb' : Ext wr w' := Ext.trans (by repeat (first | with_reducible exact Ext.refl _ | with_reducible assumption | with_reducible refine Ext.drew ?_ | with_reducible refine Ext.drewN ?_ _ | with_reducible refine Ext.alloc ?_ _)) hb))
                go_roundw
                case rel => exact ⟨k + 1, by go_num, by omega, HT, hE.trans hb'⟩
                case measure => simp [intOf]; omega
            · have HF := Lib.hid (HN'.out (by rw [HG.out, decide_eq_false hk5]; rfl))
              have hk5' : (x.kind != 5) = true := by simpa using hk5
              clear HG hk5
              go_wp2_with fail
              go_ret
              exact ⟨ret_bool HF.out.symm, hE.trans (by repeat (first | with_reducible exact Ext.refl _ | with_reducible assumption | with_reducible refine Ext.drew ?_ | with_reducible refine Ext.drewN ?_ _ | with_reducible refine Ext.alloc ?_ _))⟩
          · have hst : stepK k = 6 := by unfold stepK; rw [if_neg (by omega)]
            have hpi : ((k : Int) % 2) = 1 := by omega
            rw [hst] at HG
            clear hp hst
            by_cases hk5 : x.kind = 6
            · rw [hk5] at d0 HG
              have C := fun W => r4_leaf 6 x.n x.d x.s x.l.length A' c' 0 W (by omega) (by omega) hsz'
              generalize leafF 6 x.n x.d x.s x.l.length = q at C HG
              have HC := Lib.hid C
              clear C hk5
              cases q
              · have HF := Lib.hid (HN'.out (by rw [HG.out, Bool.and_false]))
                clear HG
                go_wp2_with (go_at_call 97; ((with_reducible refine (HC.out _).mono ?_); rintro e w' ⟨rfl, hb⟩; have hb' : Ext wr w' := Ext.trans (by repeat (first | with_reducible exact Ext.refl _ | with_reducible assumption | with_reducible refine Ext.drew ?_ | with_reducible refine Ext.drewN ?_ _ | with_reducible refine Ext.alloc ?_ _)) hb))
                go_ret
                exact ⟨ret_bool HF.out.symm, hE.trans hb'⟩
              · have HT := Lib.hid (HS.out (by rw [HG.out]; rfl))
                clear HG
                go_wp2_with (go_at_call 97; ((with_reducible refine (HC.out _).mono ?_); rintro e w' ⟨rfl, hb⟩; have hb' : Ext wr w' := Ext.trans (by repeat (first | with_reducible exact Ext.refl _ | with_reducible assumption | with_reducible refine Ext.drew ?_ | with_reducible refine Ext.drewN ?_ _ | with_reducible refine Ext.alloc ?_ _)) hb))
                go_roundw
                case rel => exact ⟨k + 1, by go_num, by omega, HT, hE.trans hb'⟩
                case measure => simp [intOf]; omega
            · have HF := Lib.hid (HN'.out (by rw [HG.out, decide_eq_false hk5]; rfl))
              have hk5' : (x.kind != 6) = true := by simpa using hk5
              clear HG hk5
              go_wp2_with fail
              go_ret
              exact ⟨ret_bool HF.out.symm, hE.trans (by repeat (first | with_reducible exact Ext.refl _ | with_reducible assumption | with_reducible refine Ext.drew ?_ | with_reducible refine Ext.drewN ?_ _ | with_reducible refine Ext.alloc ?_ _))⟩
        · have hk' : k = l.length := by omega
          have HF := Lib.hid (HY.out (fun j hj => hgd.out j (by omega)))
          go_wp2
          go_ret
          exact ⟨ret_bool HF.out.symm, hE⟩
set_option maxRecDepth 100000 in
set_option maxHeartbeats 1600000 in
theorem r4_valid7 (n d : Int) (s : ByteArray) (l : List Val) (ok : Nat → Prop) (A : Option Addr) (c : Nat) (nest : Int) (w : World) (hv : Vals w ok A l) (hsz : szL l) : Calls Tryz.prog 97 #[.agg #[.int .i64 7, .int .i64 n, .int .i64 d, .string s, .slice A l.length c], .int .i64 nest] w fun e w' => e = .returned (.bool (decide (n = 0) && decide (d = 0) && decide (s.size = 0) && pathB l)) ∧ Ext w w' := by
  obtain ⟨g, w1, hg, hw1, ⟨c0, c1, c2, c3, c4⟩, hx, -⟩ := box5 w 7 n d s A l.length c 40
  have HW1 := Lib.hid hw1
  have HG := Lib.hid hg
  have HC := Lib.hid (fun W (e : Ext w1 W) => r4_path l ok A c W (hv.ext (hx.trans e)) hsz)
  clear hw1 hg hv hsz
  go_enter Tryz.func97, Tryz.ntmps97
  go_upto_region 1 with (fail)
  rw [← HW1.out, ← HG.out]
  clear HW1 HG
  go_wp2_with (first | (go_at_call 111; ((with_reducible refine (r4_bare_ffft _ _ _ _ _ _ _ _).mono ?_); rintro e w' ⟨rfl, hb⟩; have hb1 : Ext w1 w' := hb; replace c0 := hb1.cell c0; replace c1 := hb1.cell c1; replace c2 := hb1.cell c2; replace c3 := hb1.cell c3; replace c4 := hb1.cell c4)) | (go_at_call 114; ((with_reducible refine (HC.out _ hb1).mono ?_); rintro e w' ⟨rfl, hb⟩; have hb2 : Ext _ w' := hb)))
  all_goals
    go_ret
    refine ⟨ret_bool ?_, (by first | exact hx | exact Ext.trans hx (by assumption) | exact Ext.trans hx (Ext.trans hb1 (by assumption)))⟩
    clear c0 c1 c2 c3 c4 HC
    (try simp only [nil_iff] at *)
    unfold bareF at *
    generalize pathB l = q at *
    first | (simp_all; done) | (simp_all; omega)
/-- the reference's valid at values inside which j lists may be nested -/
def ValidAtR (j : Nat) : Prop := ∀ (nest : Int) (v : Val) (ok : Nat → Prop) (A : Option Addr) (c : Nat) (w : World), nest = j → Vals w ok A v.l → szV v →
  Calls Tryz.prog 97 #[.agg #[.int .i64 v.kind, .int .i64 v.n, .int .i64 v.d, .string v.s, .slice A v.l.length c], .int .i64 nest] w fun e w' => e = .returned (.bool (validN j v)) ∧ Ext w w'
theorem r4_list0 (A : Option Addr) (m c : Nat) (w : World) : Calls Tryz.prog 115 #[.slice A m c, .int .i64 0] w fun e w' => e = .returned (.bool false) ∧ Ext w w' := by
  go_enter Tryz.func115, Tryz.ntmps115
  go_wp2
  go_ret
  exact ⟨rfl, Ext.refl _⟩
theorem all_no {j : Nat} {l : List Val} (i : Nat) (hi : i < l.length) (h : validN j l[i] = false) : l.all (validN j) = false := by
  rw [List.all_eq_false]
  exact ⟨_, List.getElem_mem hi, by rw [h]; simp⟩
theorem all_yes {j : Nat} {l : List Val} (h : ∀ i (hi : i < l.length), validN j l[i] = true) : l.all (validN j) = true := by
  rw [List.all_eq_true]
  intro x hx
  obtain ⟨i, hi, rfl⟩ := List.getElem_of_mem hx
  exact h i hi
set_option maxRecDepth 100000 in
set_option maxHeartbeats 3200000 in
theorem r4_list (j : Nat) (ih : ValidAtR j) (nest : Int) (l : List Val) (ok : Nat → Prop) (A : Option Addr) (c : Nat) (w : World) (h1 : 1 ≤ nest) (h9 : nest ≤ 100) (hj : nest - 1 = (j : Int)) (hv : Vals w ok A l) (hsz : szL l) :
    Calls Tryz.prog 115 #[.slice A l.length c, .int .i64 nest] w fun e w' => e = .returned (.bool (decide (l.length ≤ 64) && l.all (validN j))) ∧ Ext w w' := by
  have hm := hv.len
  have HV := Lib.hid hv
  have HJ := Lib.hid hj
  have HZ := Lib.hid (fun (x : Val) (hx : x ∈ l) => szL_mem hsz hx)
  have hlt1 : decide (nest < 1) = false := by simp; omega
  clear hv hj hsz
  by_cases h64 : l.length ≤ 64
  · rw [decide_eq_true h64, Bool.true_and]
    have HY := Lib.hid (fun h => all_yes (j := j) (l := l) h)
    have HB := Lib.hid (fun i (hi : i < l.length) h => all_no (j := j) i hi h)
    obtain ⟨R, hR⟩ : ∃ R, R = l.all (validN j) := ⟨_, rfl⟩
    rw [← hR] at HY HB ⊢
    have h64' : decide ((64 : Int) < (l.length : Int)) = false := by simp; omega
    clear hR h64
    go_enter Tryz.func115, Tryz.ntmps115
    go_wp2
    clear h64' hlt1
    go_loopw [5] (fun u W => ∃ k : Nat, u = .int .i64 k ∧ k ≤ l.length ∧ Hid (∀ i (hi : i < l.length), i < k → validN j l[i] = true) ∧ Ext w W) (fun u _ => l.length - (intOf u).toNat)
    case atStart => exact ⟨0, rfl, Nat.zero_le _, Lib.hid (fun i _ hi => absurd hi (Nat.not_lt_zero _)), Ext.refl _⟩
    case round =>
      obtain ⟨k, rfl, hk, hgd, hE⟩ := hrel
      by_cases hlt : k < l.length
      · obtain ⟨b, o, rfl, hc⟩ := HV.out.2 (by omega)
        obtain ⟨-, A', c', h5, -, hv'⟩ := VCells.iff.1 (hc k hlt)
        obtain ⟨d0, d1, d2, d3, d4⟩ := h5.ext hE
        have HS := Lib.hid (fun (h : validN j l[k] = true) i hi (hj : i < k + 1) => (if e : i = k then (by subst e; exact h) else hgd.out i hi (by omega) : validN j l[i] = true))
        have HB' := Lib.hid (HB.out k hlt)
        have C := fun W (e : Ext wr W) => ih (nest - 1) l[k] ok A' c' W HJ.out (hv'.ext (hE.trans e)) (HZ.out _ (List.getElem_mem hlt))
        clear hc h5 hv' HB
        generalize l[k] = x at d0 d1 d2 d3 d4 HS HB' C
        generalize validN j x = q at C HS HB'
        have HC := Lib.hid C
        clear C
        cases q
        · have HF := Lib.hid (HB'.out rfl)
          go_wp2_with (go_at_call 97; ((with_reducible refine (HC.out _ (by repeat (first | with_reducible exact Ext.refl _ | with_reducible assumption | with_reducible refine Ext.drew ?_ | with_reducible refine Ext.drewN ?_ _ | with_reducible refine Ext.alloc ?_ _))).mono ?_); rintro e w' ⟨rfl, hb⟩; have hb' : Ext wr w' := Ext.trans (by repeat (first | with_reducible exact Ext.refl _ | with_reducible assumption | with_reducible refine Ext.drew ?_ | with_reducible refine Ext.drewN ?_ _ | with_reducible refine Ext.alloc ?_ _)) hb))
          go_ret
          exact ⟨ret_bool HF.out.symm, hE.trans hb'⟩
        · have HT := Lib.hid (HS.out rfl)
          go_wp2_with (go_at_call 97; ((with_reducible refine (HC.out _ (by repeat (first | with_reducible exact Ext.refl _ | with_reducible assumption | with_reducible refine Ext.drew ?_ | with_reducible refine Ext.drewN ?_ _ | with_reducible refine Ext.alloc ?_ _))).mono ?_); rintro e w' ⟨rfl, hb⟩; have hb' : Ext wr w' := Ext.trans (by repeat (first | with_reducible exact Ext.refl _ | with_reducible assumption | with_reducible refine Ext.drew ?_ | with_reducible refine Ext.drewN ?_ _ | with_reducible refine Ext.alloc ?_ _)) hb))
          go_roundw
          case rel => exact ⟨k + 1, by go_num, by omega, HT, hE.trans hb'⟩
          case measure => simp [intOf]; omega
      · have hk' : k = l.length := by omega
        have HF := Lib.hid (HY.out (fun i hi => hgd.out i hi (by omega)))
        go_wp2
        go_ret
        exact ⟨ret_bool HF.out.symm, hE⟩
  · rw [decide_eq_false h64]
    go_enter Tryz.func115, Tryz.ntmps115
    go_wp2
    go_ret
    exact ⟨rfl, Ext.refl _⟩
set_option maxRecDepth 100000 in
set_option maxHeartbeats 1600000 in
theorem r4_valid8 (n d : Int) (s : ByteArray) (l : List Val) (ok : Nat → Prop) (A : Option Addr) (c : Nat) (nest : Int) (w : World) (q : Bool) (hv : Vals w ok A l) (hl : ∀ W, Vals W ok A l → Calls Tryz.prog 115 #[.slice A l.length c, .int .i64 nest] W fun e w' => e = .returned (.bool q) ∧ Ext W w') :
    Calls Tryz.prog 97 #[.agg #[.int .i64 8, .int .i64 n, .int .i64 d, .string s, .slice A l.length c], .int .i64 nest] w fun e w' => e = .returned (.bool (decide (n = 0) && decide (d = 0) && decide (s.size = 0) && q)) ∧ Ext w w' := by
  obtain ⟨g, w1, hg, hw1, ⟨c0, c1, c2, c3, c4⟩, hx, -⟩ := box5 w 8 n d s A l.length c 40
  have HW1 := Lib.hid hw1
  have HG := Lib.hid hg
  have HC := Lib.hid (fun W (e : Ext w1 W) => hl W (hv.ext (hx.trans e)))
  clear hw1 hg hv hl
  go_enter Tryz.func97, Tryz.ntmps97
  go_upto_region 1 with (fail)
  rw [← HW1.out, ← HG.out]
  clear HW1 HG
  go_wp2_with (first | (go_at_call 111; ((with_reducible refine (r4_bare_ffft _ _ _ _ _ _ _ _).mono ?_); rintro e w' ⟨rfl, hb⟩; have hb1 : Ext w1 w' := hb; replace c0 := hb1.cell c0; replace c1 := hb1.cell c1; replace c2 := hb1.cell c2; replace c3 := hb1.cell c3; replace c4 := hb1.cell c4)) | (go_at_call 115; ((with_reducible refine (HC.out _ hb1).mono ?_); rintro e w' ⟨rfl, hb⟩; have hb2 : Ext _ w' := hb)))
  all_goals
    go_ret
    refine ⟨ret_bool ?_, (by first | exact hx | exact Ext.trans hx (by assumption) | exact Ext.trans hx (Ext.trans hb1 (by assumption)))⟩
    clear c0 c1 c2 c3 c4 HC
    (try simp only [nil_iff] at *)
    unfold bareF at *
    first | (simp_all; done) | (simp_all; omega)
theorem r4_valid : ∀ j, j ≤ 99 → ValidAtR j
  | 0, _ => fun nest v ok A c w hj hv hs => by
    obtain ⟨k, n, d, s, l⟩ := v
    obtain ⟨hs1, hs2⟩ := szV_iff.1 hs
    simp only [Val.kind, Val.n, Val.d, Val.s, Val.l] at *
    obtain rfl : nest = 0 := by omega
    by_cases h7 : k = 7
    · subst h7
      rw [validN_path rfl]
      exact r4_valid7 n d s l ok A c 0 w hv hs2
    · by_cases h8 : k = 8
      · subst h8
        rw [validN_list0 rfl]
        exact (r4_valid8 n d s l ok A c 0 w false hv (fun W _ => r4_list0 A l.length c W)).mono (fun _ _ h => ⟨h.1.trans (by rw [Bool.and_false]), h.2⟩)
      · rw [validN_leaf (v := .mk k n d s l) h7 h8, leafB_eq]
        exact r4_leaf k n d s l.length A c 0 w h7 h8 hs1
  | j + 1, hj9 => fun nest v ok A c w hj hv hs => by
    have ih := r4_valid j (by omega)
    obtain ⟨k, n, d, s, l⟩ := v
    obtain ⟨hs1, hs2⟩ := szV_iff.1 hs
    simp only [Val.kind, Val.n, Val.d, Val.s, Val.l] at *
    by_cases h7 : k = 7
    · subst h7
      rw [validN_path rfl]
      exact r4_valid7 n d s l ok A c nest w hv hs2
    · by_cases h8 : k = 8
      · subst h8
        rw [listN_eq, Bool.and_assoc]
        exact r4_valid8 n d s l ok A c nest w _ hv (fun W h => r4_list j ih nest l ok A c W (by omega) (by omega) (by omega) h hs2)
      · rw [validN_leaf (v := .mk k n d s l) h7 h8, leafB_eq]
        exact r4_leaf k n d s l.length A c nest w h7 h8 hs1
set_option maxRecDepth 100000 in
theorem r4_Valid (v : Val) (ok : Nat → Prop) (A : Option Addr) (c : Nat) (w : World) (hv : Vals w ok A v.l) (hs : szV v) :
    Calls Tryz.prog 82 #[.agg #[.int .i64 v.kind, .int .i64 v.n, .int .i64 v.d, .string v.s, .slice A v.l.length c]] w fun e w' => e = .returned (.bool (validV v)) ∧ Ext w w' := by
  obtain ⟨g, w1, hg, hw1, ⟨c0, c1, c2, c3, c4⟩, hx, -⟩ := box5 w v.kind v.n v.d v.s A v.l.length c 40
  have C := r4_valid 8 (by omega) 8 v ok A c w1 rfl (hv.ext hx) hs
  rw [show validN 8 v = validV v from rfl] at C
  have HC := Lib.hid C
  have HW1 := Lib.hid hw1
  have HG := Lib.hid hg
  clear hw1 hg hv C hs
  go_enter Tryz.func82, Tryz.ntmps82
  go_upto_region 1 with (fail)
  rw [← HW1.out, ← HG.out]
  clear HW1 HG
  go_wp2_with (go_at_call 97; refine (HC.out).mono ?_; rintro e w' ⟨rfl, hb⟩; have hb' : Ext w1 w' := hb)
  go_ret
  exact ⟨rfl, hx.trans hb'⟩
end Go.Proofs.YtbjddimafilflaaGreatDoor

/- PLAIN: numbers of fourteen digits in base 1000. No program. -/
namespace Go.Proofs.YtbjddimafilflaaGreatDoor
/-- the first n digits -/
def valN : Nat → (Nat → Nat) → Nat
  | 0, _ => 0
  | n + 1, f => valN n f + f n * 1000 ^ n
theorem valW_exists (f : Nat → Nat) : ∃ v, ∀ n, n = 14 → v = valN n f := ⟨valN 14 f, fun n h => by rw [h]⟩
/-- the number (closed to unfolding: its powers are great) -/
noncomputable def valW (f : Nat → Nat) : Nat := Classical.choose (valW_exists f)
theorem valW_def (f : Nat → Nat) {n : Nat} (h : n = 14) : valW f = valN n f := Classical.choose_spec (valW_exists f) n h
/-- digits -/
def SmallW (f : Nat → Nat) : Prop := ∀ i, f i < 1000
def updW (f : Nat → Nat) (k v : Nat) : Nat → Nat := fun i => if i = k then v else f i
theorem updW_at (f : Nat → Nat) (k v : Nat) : updW f k v k = v := if_pos rfl
theorem updW_ne (f : Nat → Nat) {k i : Nat} (v : Nat) (h : i ≠ k) : updW f k v i = f i := if_neg h
theorem smallW_upd {f : Nat → Nat} {k v : Nat} (h : SmallW f) (hv : v < 1000) : SmallW (updW f k v) := by
  intro i; unfold updW; split
  · exact hv
  · exact h i
theorem valN_upd_ge (f : Nat → Nat) (k v : Nat) : ∀ n, n ≤ k → valN n (updW f k v) = valN n f
  | 0, _ => rfl
  | n + 1, h => by
    unfold valN
    rw [valN_upd_ge f k v n (by omega), updW_ne f v (by omega)]
theorem valN_upd (f : Nat → Nat) (k v : Nat) : ∀ n, k < n → valN n (updW f k v) + f k * 1000 ^ k = valN n f + v * 1000 ^ k
  | 0, h => absurd h (by omega)
  | n + 1, h => by
    unfold valN
    by_cases e : k = n
    · subst e
      rw [valN_upd_ge f k v k (Nat.le_refl _), updW_at]; omega
    · rw [updW_ne f v (show n ≠ k from fun q => e q.symm)]
      have := valN_upd f k v n (by omega)
      omega
theorem valW_upd (f : Nat → Nat) (k v : Nat) (h : k < 14) : valW (updW f k v) + f k * 1000 ^ k = valW f + v * 1000 ^ k := by
  obtain ⟨n, hn⟩ : ∃ n : Nat, n = 14 := ⟨_, rfl⟩
  rw [valW_def _ hn, valW_def _ hn]; exact valN_upd f k v n (by omega)
theorem valN_zero : ∀ n, valN n (fun _ => 0) = 0
  | 0 => rfl
  | n + 1 => by unfold valN; rw [valN_zero n]; simp
theorem valN_lt {f : Nat → Nat} (h : SmallW f) : ∀ n, valN n f < 1000 ^ n
  | 0 => by simp [valN]
  | n + 1 => by
    unfold valN
    have h1 := valN_lt h n
    have h2 := h n
    have h3 : f n * 1000 ^ n ≤ 999 * 1000 ^ n := Nat.mul_le_mul_right _ (by omega)
    rw [Nat.pow_succ]; omega
theorem pow_big {k : Nat} (h : 14 ≤ k) : 1000000000000000000000000000000000000000000 ≤ 1000 ^ k :=
  Nat.le_trans (by decide) (Nat.pow_le_pow_right (show 0 < 1000 by omega) h)
/-! times -/
/-- the round within: what the digits and the rest come to -/
structure InnerI (f : Nat → Nat) (i k c y d b T : Nat) : Prop where
  small : SmallW f
  sum : valW f + 1000 ^ k * (y + d * c) = T
  left : c * 1000 ^ k ≤ b * 1000 ^ i
  carry : y ≤ 1000
theorem InnerI.room {f : Nat → Nat} {i k c y d b T : Nat} (h : InnerI f i k c y d b T) (hb : b ≤ 1000000000000000) (hi : i ≤ 5) (hT : T ≤ 1000000000000000000000000000000) (hg : 0 < c ∨ 0 < y) : k < 14 := by
  rcases Nat.lt_or_ge k 14 with k1 | k1
  · exact k1
  · exfalso
    have hp := pow_big k1
    rcases hg with hc | hy
    · have h1 : b * 1000 ^ i ≤ 1000000000000000 * 1000 ^ 5 := Nat.mul_le_mul hb (Nat.pow_le_pow_right (by omega) hi)
      have h2 : 1000 ^ k ≤ c * 1000 ^ k := Nat.le_mul_of_pos_left _ hc
      have h3 := h.left
      have h4 : 1000000000000000 * 1000 ^ 5 = 1000000000000000000000000000000 := by decide
      omega
    · have h1 := h.sum
      have h2 : 1000 ^ k * 1 ≤ 1000 ^ k * (y + d * c) := Nat.mul_le_mul_left _ (by omega)
      omega
theorem InnerI.step {f : Nat → Nat} {i k c y d b T : Nat} (h : InnerI f i k c y d b T) (hd : d < 1000) (hk : k < 14) :
    InnerI (updW f k ((y + f k + d * (c % 1000)) % 1000)) i (k + 1) (c / 1000) ((y + f k + d * (c % 1000)) / 1000) d b T := by
  have hs := h.small k
  have hy := h.carry
  have hm : d * (c % 1000) ≤ 999 * 999 := Nat.mul_le_mul (by omega) (by omega)
  have hc : d * c = d * (c % 1000) + 1000 * (d * (c / 1000)) := by
    have := Nat.div_add_mod c 1000
    calc d * c = d * (1000 * (c / 1000) + c % 1000) := by rw [this]
      _ = _ := by rw [Nat.mul_add, Nat.mul_left_comm]; omega
  refine ⟨smallW_upd h.small (Nat.mod_lt _ (by omega)), ?_, ?_, by omega⟩
  · have e := h.sum
    have u := valW_upd f k ((y + f k + d * (c % 1000)) % 1000) hk
    rw [hc] at e
    rw [Nat.pow_succ]
    generalize d * (c % 1000) = m at *
    generalize d * (c / 1000) = n at *
    generalize f k = z at *
    generalize 1000 ^ k = p at *
    have q := Nat.div_add_mod (y + z + m) 1000
    generalize (y + z + m) / 1000 = t at *
    generalize (y + z + m) % 1000 = r at *
    generalize valW f = v at *
    generalize valW (updW f k r) = v' at *
    have e1 : p * 1000 * (t + n) = p * (1000 * t) + p * (1000 * n) := by grind
    have e2 : p * (y + (m + 1000 * n)) = p * y + p * m + p * (1000 * n) := by grind
    have e3 : p * (1000 * t) + p * r = p * y + p * z + p * m := by
      have : p * (1000 * t + r) = p * (y + z + m) := by rw [q]
      grind
    rw [Nat.mul_comm z p, Nat.mul_comm r p] at u
    omega
  · have l := h.left
    rw [Nat.pow_succ]
    have : c / 1000 * (1000 ^ k * 1000) ≤ c * 1000 ^ k := by
      rw [Nat.mul_comm (1000 ^ k), ← Nat.mul_assoc]
      exact Nat.mul_le_mul_right _ (Nat.div_mul_le_self c 1000)
    omega
structure OuterI (f : Nat → Nat) (i a b a0 : Nat) : Prop where
  small : SmallW f
  sum : valW f + 1000 ^ i * (a * b) = a0 * b
  left : a * 1000 ^ i ≤ a0
theorem OuterI.room {f : Nat → Nat} {i a b a0 : Nat} (h : OuterI f i a b a0) (ha : a0 ≤ 1000000000000000) (hg : 0 < a) : i ≤ 5 := by
  rcases Nat.lt_or_ge i 6 with k | k
  · omega
  · exfalso
    have h1 : 1000 ^ 6 ≤ 1000 ^ i := Nat.pow_le_pow_right (by omega) k
    have h2 : 1000 ^ i ≤ a * 1000 ^ i := Nat.le_mul_of_pos_left _ hg
    have := h.left
    have h4 : 1000 ^ 6 = 1000000000000000000 := by decide
    omega
theorem OuterI.start (a0 b : Nat) : OuterI (fun _ => 0) 0 a0 b a0 := by
  refine ⟨fun _ => by omega, ?_, by simp⟩
  obtain ⟨n, hn⟩ : ∃ n : Nat, n = 14 := ⟨_, rfl⟩
  rw [valW_def _ hn, valN_zero]; simp
theorem OuterI.enter {f : Nat → Nat} {i a b a0 : Nat} (h : OuterI f i a b a0) : InnerI f i i b 0 (a % 1000) b (valW f + 1000 ^ i * (a % 1000 * b)) := by
  refine ⟨h.small, by simp, Nat.le_refl _, by omega⟩
theorem OuterI.total {f : Nat → Nat} {i a b a0 : Nat} (h : OuterI f i a b a0) : valW f + 1000 ^ i * (a % 1000 * b) ≤ a0 * b := by
  have := h.sum
  have h1 : a % 1000 * b ≤ a * b := Nat.mul_le_mul_right _ (Nat.mod_le _ _)
  have h2 : 1000 ^ i * (a % 1000 * b) ≤ 1000 ^ i * (a * b) := Nat.mul_le_mul_left _ h1
  omega
theorem OuterI.leave {f g : Nat → Nat} {i k a b a0 : Nat} (h : OuterI f i a b a0) (hI : InnerI g i k 0 0 (a % 1000) b (valW f + 1000 ^ i * (a % 1000 * b))) : OuterI g (i + 1) (a / 1000) b a0 := by
  refine ⟨hI.small, ?_, ?_⟩
  · have e := h.sum
    have e2 := hI.sum
    simp only [Nat.mul_zero, Nat.add_zero] at e2
    rw [e2, Nat.pow_succ]
    have q := Nat.div_add_mod a 1000
    have e3 : 1000 ^ i * (a * b) = 1000 ^ i * (a % 1000 * b) + 1000 ^ i * 1000 * (a / 1000 * b) := by
      calc 1000 ^ i * (a * b) = 1000 ^ i * ((1000 * (a / 1000) + a % 1000) * b) := by rw [q]
        _ = _ := by grind
    omega
  · have l := h.left
    rw [Nat.pow_succ]
    have : a / 1000 * (1000 ^ i * 1000) ≤ a * 1000 ^ i := by
      rw [Nat.mul_comm (1000 ^ i), ← Nat.mul_assoc]
      exact Nat.mul_le_mul_right _ (Nat.div_mul_le_self a 1000)
    omega
theorem OuterI.done {f : Nat → Nat} {i b a0 : Nat} (h : OuterI f i 0 b a0) : valW f = a0 * b := by
  have := h.sum; simpa using this
/-! plus, minus -/
structure PlusI (x y f : Nat → Nat) (k c : Nat) : Prop where
  small : SmallW f
  sum : valN k f + 1000 ^ k * c = valN k x + valN k y
  carry : c ≤ 1
theorem PlusI.start (x y : Nat → Nat) : PlusI x y (fun _ => 0) 0 0 := ⟨fun _ => by omega, rfl, by omega⟩
theorem PlusI.step {x y f : Nat → Nat} {k c : Nat} (h : PlusI x y f k c) (hx : SmallW x) (hy : SmallW y) : PlusI x y (updW f k ((c + x k + y k) % 1000)) (k + 1) ((c + x k + y k) / 1000) := by
  have h1 := hx k
  have h2 := hy k
  have h3 := h.carry
  refine ⟨smallW_upd h.small (Nat.mod_lt _ (by omega)), ?_, by omega⟩
  unfold valN
  rw [valN_upd_ge f k _ k (Nat.le_refl _), updW_at, Nat.pow_succ]
  have e := h.sum
  have q := Nat.div_add_mod (c + x k + y k) 1000
  generalize (c + x k + y k) / 1000 = t at *
  generalize (c + x k + y k) % 1000 = r at *
  generalize 1000 ^ k = p at *
  have e3 : r * p + p * 1000 * t = p * c + x k * p + y k * p := by
    have : p * (1000 * t + r) = p * (c + x k + y k) := by rw [q]
    grind
  omega
theorem PlusI.done {x y f : Nat → Nat} {n c : Nat} (hn : n = 14) (h : PlusI x y f n c) (hs : valW x + valW y < 1000000000000000000000000000000000000000000) : valW f = valW x + valW y := by
  have e := h.sum
  have hc := h.carry
  have hp := pow_big (show 14 ≤ n by omega)
  rw [valW_def _ hn, valW_def _ hn] at hs
  rw [valW_def _ hn, valW_def _ hn, valW_def _ hn]
  rcases Nat.eq_zero_or_pos c with k | k
  · subst k; omega
  · obtain rfl : c = 1 := by omega
    omega
structure MinusI (x y f : Nat → Nat) (k : Nat) (c : Int) : Prop where
  small : SmallW f
  sum : (valN k f : Int) + 1000 ^ k * c = valN k x - valN k y
  carry : -1 ≤ c ∧ c ≤ 0
theorem MinusI.start (x y : Nat → Nat) : MinusI x y (fun _ => 0) 0 0 := ⟨fun _ => by omega, rfl, by omega⟩
theorem MinusI.low {x y f : Nat → Nat} {k : Nat} {c : Int} (h : MinusI x y f k c) (hx : SmallW x) (hy : SmallW y) (hn : c + x k - y k < 0) : MinusI x y (updW f k (c + x k - y k + 1000).toNat) (k + 1) (-1) := by
  have h1 := hx k
  have h2 := hy k
  have h3 := h.carry
  refine ⟨smallW_upd h.small (by omega), ?_, by omega⟩
  unfold valN
  rw [valN_upd_ge f k _ k (Nat.le_refl _), updW_at, Int.pow_succ]
  have e := h.sum
  have q : (((c + x k - y k + 1000).toNat : Nat) : Int) = c + x k - y k + 1000 := by omega
  simp only [Int.natCast_add, Int.natCast_mul, Int.natCast_pow, q]
  generalize ((1000 : Nat) : Int) ^ k = p at *
  grind
theorem MinusI.high {x y f : Nat → Nat} {k : Nat} {c : Int} (h : MinusI x y f k c) (hx : SmallW x) (hy : SmallW y) (hn : ¬ c + x k - y k < 0) : MinusI x y (updW f k (c + x k - y k).toNat) (k + 1) 0 := by
  have h1 := hx k
  have h2 := hy k
  have h3 := h.carry
  refine ⟨smallW_upd h.small (by omega), ?_, by omega⟩
  unfold valN
  rw [valN_upd_ge f k _ k (Nat.le_refl _), updW_at, Int.pow_succ]
  have e := h.sum
  have q : (((c + x k - y k).toNat : Nat) : Int) = c + x k - y k := by omega
  simp only [Int.natCast_add, Int.natCast_mul, Int.natCast_pow, q]
  generalize ((1000 : Nat) : Int) ^ k = p at *
  grind
theorem MinusI.done {x y f : Nat → Nat} {n : Nat} {c : Int} (hn : n = 14) (h : MinusI x y f n c) (hs : valW y ≤ valW x) : valW f = valW x - valW y := by
  have e := h.sum
  have hc := h.carry
  have hl := valN_lt h.small n
  rw [valW_def _ hn, valW_def _ hn] at hs
  rw [valW_def _ hn, valW_def _ hn, valW_def _ hn]
  rcases (show c = 0 ∨ c = -1 by omega) with k | k
  · subst k; omega
  · subst k
    have : ((1000 : Int) ^ n) = ((1000 ^ n : Nat) : Int) := by simp
    rw [this] at e
    omega
/-! from the top -/
/-- the digits from k on -/
def hiW (f : Nat → Nat) (k : Nat) : Nat := if h : k < 14 then f k + 1000 * hiW f (k + 1) else 0
termination_by 14 - k
theorem hiW_end (f : Nat → Nat) : hiW f 14 = 0 := by rw [hiW, dif_neg (by omega)]
theorem hiW_stop (f : Nat → Nat) {k : Nat} (h : 14 ≤ k) : hiW f k = 0 := by rw [hiW, dif_neg (by omega)]
theorem hiW_step (f : Nat → Nat) {k : Nat} (h : k < 14) : hiW f k = f k + 1000 * hiW f (k + 1) := by rw [hiW, dif_pos h]
theorem val_hi (f : Nat → Nat) : ∀ n k, n + k = 14 → valN k f + 1000 ^ k * hiW f k = valW f
  | 0, k, h => by rw [valW_def f (show k = 14 by omega), hiW_stop f (by omega)]; simp
  | n + 1, k, h => by
    have ih := val_hi f n (k + 1) (by omega)
    rw [hiW_step f (by omega)]
    unfold valN at ih
    rw [Nat.pow_succ] at ih
    rw [← ih]; grind
theorem hiW_zero (f : Nat → Nat) : hiW f 0 = valW f := by
  have := val_hi f 14 0 rfl
  unfold valN at this
  simpa using this
theorem hiW_upd (f : Nat → Nat) (k v : Nat) : ∀ n j, n + j = 14 → k < j → hiW (updW f k v) j = hiW f j
  | 0, j, h, _ => by rw [hiW_stop _ (by omega), hiW_stop _ (by omega)]
  | n + 1, j, h, hk => by
    rw [hiW_step _ (show j < 14 by omega), hiW_step _ (show j < 14 by omega), hiW_upd f k v n (j + 1) (by omega) (by omega), updW_ne f v (by omega)]
/-- the long division -/
structure PartI (x f : Nat → Nat) (d k r : Nat) : Prop where
  small : SmallW f
  sum : hiW x k = d * hiW f k + r
  rest : r < d
theorem PartI.start (x : Nat → Nat) {d : Nat} (h : 0 < d) : PartI x (fun _ => 0) d 14 0 := ⟨fun _ => by omega, by rw [hiW_end, hiW_end]; simp, h⟩
theorem PartI.step {x f : Nat → Nat} {d k r : Nat} (h : PartI x f d (k + 1) r) (hx : SmallW x) (hk : k < 14) : PartI x (updW f k ((r * 1000 + x k) / d)) d k ((r * 1000 + x k) % d) := by
  have hd : 0 < d := by have := h.rest; omega
  have h1 := hx k
  have h2 := h.rest
  refine ⟨smallW_upd h.small ?_, ?_, Nat.mod_lt _ hd⟩
  · rw [Nat.div_lt_iff_lt_mul hd]
    have : r * 1000 + 1000 ≤ d * 1000 := by omega
    omega
  · rw [hiW_step x hk, hiW_step _ hk, updW_at, hiW_upd f k _ (14 - (k + 1)) (k + 1) (by omega) (by omega), h.sum]
    have q := Nat.div_add_mod (r * 1000 + x k) d
    generalize (r * 1000 + x k) / d = t at *
    generalize (r * 1000 + x k) % d = s at *
    grind
theorem PartI.done {x f : Nat → Nat} {d r : Nat} (h : PartI x f d 0 r) : valW f = valW x / d ∧ r = valW x % d := by
  have e := h.sum
  rw [hiW_zero, hiW_zero] at e
  have hr := h.rest
  constructor
  · rw [e, Nat.mul_comm, Nat.add_comm, Nat.add_mul_div_right _ _ (by omega), Nat.div_eq_of_lt hr]; omega
  · rw [e, Nat.mul_comm, Nat.add_comm, Nat.add_mul_mod_self_right, Nat.mod_eq_of_lt hr]
/-- order: the first digit from the top that differs decides -/
def SameFrom (x y : Nat → Nat) (k : Nat) : Prop := hiW x k = hiW y k
theorem order_lt {x y : Nat → Nat} {k : Nat} (hx : SmallW x) (hk : k < 14) (h : SameFrom x y (k + 1)) (hl : x k < y k) : valW x < valW y := by
  have e1 := val_hi x (14 - (k + 1)) (k + 1) (by omega)
  have e2 := val_hi y (14 - (k + 1)) (k + 1) (by omega)
  unfold SameFrom at h
  rw [h] at e1
  have b := valN_lt hx k
  unfold valN at e1 e2
  have : x k * 1000 ^ k + 1000 ^ k ≤ y k * 1000 ^ k := by
    have := Nat.mul_le_mul_right (1000 ^ k) (show x k + 1 ≤ y k by omega)
    rw [Nat.add_mul, Nat.one_mul] at this; exact this
  omega
theorem SameFrom.step {x y : Nat → Nat} {k : Nat} (hk : k < 14) (h : SameFrom x y (k + 1)) (he : x k = y k) : SameFrom x y k := by
  unfold SameFrom at *; rw [hiW_step x hk, hiW_step y hk, h, he]
theorem SameFrom.symm {x y : Nat → Nat} {k : Nat} (h : SameFrom x y k) : SameFrom y x k := Eq.symm h
theorem SameFrom.start (x y : Nat → Nat) : SameFrom x y 14 := by unfold SameFrom; rw [hiW_end, hiW_end]
theorem SameFrom.done {x y : Nat → Nat} (h : SameFrom x y 0) : valW x = valW y := by unfold SameFrom at h; rw [hiW_zero, hiW_zero] at h; exact h
end Go.Proofs.YtbjddimafilflaaGreatDoor

/- THE WALKS over the reference's wide numbers: times. -/
namespace Go.Proofs.YtbjddimafilflaaGreatDoor
open Go.RowKit
/-- a block of fourteen digits that may be written -/
def RowW (V : World) (g : Nat) (f : Nat → Nat) : Prop := g < V.heap.size ∧ ∀ i, i < 14 → V.cell? ⟨g, i, none⟩ = some (.int .i64 ((f i : Nat) : Int)) ∧ V.frozen? ⟨g, i, none⟩ = false
theorem RowW.step {V V' : World} {g : Nat} {f : Nat → Nat} (h : RowW V g f) (hb : Below V.heap.size V V') : RowW V' g f := by
  obtain ⟨h0, h1⟩ := h
  obtain ⟨hc, hf⟩ := bcell hb
  have hs := hb.size
  exact ⟨by omega, fun i hi => ⟨(hc _ _ h0).trans (h1 i hi).1, (hf _ _ h0).trans (h1 i hi).2⟩⟩
theorem RowW.set {V : World} {g : Nat} {f : Nat → Nat} (h : RowW V g f) {k : Nat} (hk : k < 14) (v : Nat) : RowW (V.setCell ⟨g, k, none⟩ (.int .i64 (v : Int))) g (updW f k v) := by
  obtain ⟨h0, h1⟩ := h
  refine ⟨by simpa using h0, fun i hi => ?_⟩
  obtain ⟨a, b⟩ := h1 i hi
  obtain ⟨a', b'⟩ := h1 k hk
  by_cases e : i = k
  · subst e
    rw [updW_at]
    exact ⟨by go_simp, by go_simp⟩
  · rw [updW_ne f v e]
    have e2 : ¬ k = i := fun q => e q.symm
    exact ⟨by go_simp, by go_simp⟩
set_option maxRecDepth 100000 in
theorem run_make14 (w : World) : (Instr.makeSlice 61 (.int .i64 14) (.int .i64 14)).run Tryz.prog w = .ok (.slice (some ⟨w.heap.size, 0, none⟩) 14 14) (w.alloc (.cells #[.int .i64 0, .int .i64 0, .int .i64 0, .int .i64 0, .int .i64 0, .int .i64 0, .int .i64 0, .int .i64 0, .int .i64 0, .int .i64 0, .int .i64 0, .int .i64 0, .int .i64 0, .int .i64 0] 3)) := by kernel_rfl
theorem RowW.new (w : World) (t : TypeId) : RowW (w.alloc (.cells #[.int .i64 0, .int .i64 0, .int .i64 0, .int .i64 0, .int .i64 0, .int .i64 0, .int .i64 0, .int .i64 0, .int .i64 0, .int .i64 0, .int .i64 0, .int .i64 0, .int .i64 0, .int .i64 0] t)) w.heap.size (fun _ => 0) := by
  refine ⟨by simp, fun i hi => ?_⟩
  match i, hi with
  | 0, _ | 1, _ | 2, _ | 3, _ | 4, _ | 5, _ | 6, _ | 7, _ | 8, _ | 9, _ | 10, _ | 11, _ | 12, _ | 13, _ => exact ⟨by go_simp, by go_simp⟩
set_option maxRecDepth 100000 in
set_option maxHeartbeats 1600000 in
theorem r3_times (a b : Nat) (w : World) (ha : a ≤ 1000000000000000) (hb : b ≤ 1000000000000000) :
    Calls Tryz.prog 102 #[.int .i64 a, .int .i64 b] w fun e w' => ∃ (g : Nat) (f : Nat → Nat), e = .returned (.slice (some ⟨g, 0, none⟩) 14 14) ∧ w.heap.size ≤ g ∧ RowW w' g f ∧ SmallW f ∧ valW f = a * b ∧ Below w.heap.size w w' := by
  go_enter Tryz.func102, Tryz.ntmps102
  have hmk := run_make14
  have hab : a * b ≤ 1000000000000000000000000000000 := Nat.le_trans (Nat.mul_le_mul ha hb) (by decide)
  have HAB := Lib.hid hab
  have HA := Lib.hid ha
  have HB := Lib.hid hb
  go_wp2_with fail
  have hrow := RowW.new w 3
  have hbe := (Below.refl w.heap.size w).alloc (Nat.le_refl _) (.cells #[.int .i64 0, .int .i64 0, .int .i64 0, .int .i64 0, .int .i64 0, .int .i64 0, .int .i64 0, .int .i64 0, .int .i64 0, .int .i64 0, .int .i64 0, .int .i64 0, .int .i64 0, .int .i64 0] 3)
  refine forget_world (fun W => RowW W w.heap.size (fun _ => 0) ∧ Below w.heap.size w W) ⟨hrow, hbe⟩ ?_
  clear hrow hbe hmk hab ha hb
  rintro W ⟨hrow, hbe⟩
  go_loopw [0, 6] (fun u v wr => ∃ (a' i : Nat) (f : Nat → Nat), u = .int .i64 a' ∧ v = .int .i64 i ∧ Hid (OuterI f i a' b a) ∧ a' ≤ 1000000000000000 ∧ i ≤ 14 ∧ RowW wr w.heap.size f ∧ Below w.heap.size w wr) (fun u _ _ => (intOf u).toNat)
  case atStart => exact ⟨a, 0, _, rfl, rfl, Lib.hid (OuterI.start a b), HA.out, by omega, hrow, hbe⟩
  case round =>
    obtain ⟨a', i, f, rfl, rfl, hO, ha', hi14, hrow', hbe'⟩ := hrel
    clear hrow hbe
    by_cases h0 : 0 < a'
    · have hi : i ≤ 5 := hO.out.room HA.out h0
      have h0' : decide (0 < (a' : Int)) = true := decide_eq_true (by omega)
      have hE := Lib.hid hO.out.enter
      have hTT : Hid (valW f + 1000 ^ i * (a' % 1000 * b) ≤ 1000000000000000000000000000000) := Lib.hid (Nat.le_trans hO.out.total HAB.out)
      have HOO : Hid (∀ (g : Nat → Nat) (k : Nat), InnerI g i k 0 0 (a' % 1000) b (valW f + 1000 ^ i * (a' % 1000 * b)) → OuterI g (i + 1) (a' / 1000) b a) := fun g k hI => hO.out.leave hI
      generalize valW f + 1000 ^ i * (a' % 1000 * b) = T at *
      clear hO
      go_wp2_with fail
      obtain ⟨wo, rfl⟩ : ∃ wo : World, wo = wr := ⟨_, rfl⟩
      have HR0 := Lib.hid hrow'
      have HBE0 := Lib.hid hbe'
      clear hrow' hbe'
      go_loopw [8, 9, 10] (fun u v x wx => ∃ (c y k : Nat) (g : Nat → Nat), u = .int .i64 c ∧ v = .int .i64 y ∧ x = .int .i64 k ∧ Hid (InnerI g i k c y (a' % 1000) b T) ∧ c ≤ 1000000000000000 ∧ y ≤ 1000 ∧ k ≤ 14 ∧ RowW wx w.heap.size g ∧ Below w.heap.size w wx) (fun _ _ x _ => 14 - (intOf x).toNat)
      case atStart => exact ⟨b, 0, i, f, rfl, rfl, rfl, hE, HB.out, by omega, by omega, HR0.out, HBE0.out⟩
      case round =>
        obtain ⟨c, y, k, g, rfl, rfl, rfl, hI, hc, hy, hk14, hrg, hbg⟩ := hrel
        by_cases hgo : 0 < c ∨ 0 < y
        · have hk : k < 14 := hI.out.room HB.out hi hTT.out hgo
          obtain ⟨z, hz⟩ : ∃ z, Hid (g k = z) := ⟨_, rfl⟩
          have hz1 : z ≤ 999 := by have h1 := hI.out.small k; have h2 := hz.out; omega
          have hcell : _ ∧ _ := hrg.2 k hk
          rw [hz.out] at hcell
          obtain ⟨hcell, hfro⟩ := hcell
          have hgs := hrg.1
          have hS := Lib.hid (hI.out.step (Nat.mod_lt _ (by omega)) hk)
          rw [hz.out] at hS
          have hm : a' % 1000 * (c % 1000) ≤ 999 * 999 := Nat.mul_le_mul (by omega) (by omega)
          obtain ⟨m, hmm⟩ : ∃ m : Nat, Hid (a' % 1000 * (c % 1000) = m) := ⟨_, rfl⟩
          rw [hmm.out] at hS hm
          have hm1 : (a' : Int) % 1000 * ((c : Int) % 1000) = (m : Int) := by have := hmm.out; rw [← this]; simp
          have J1 : IntKind.i64.wrap ((a' : Int) % 1000 * ((c : Int) % 1000)) = (m : Int) := by rw [hm1]; exact IntWalk.i64_in _ ⟨by omega, by omega⟩
          have hrs := hrg.set hk ((y + z + m) % 1000)
          have e1 : (((y + z + m) % 1000 : Nat) : Int) = ((y : Int) + z + m) % 1000 := by omega
          rw [e1] at hrs
          have hbs := hbg.setCell (p := ⟨w.heap.size, k, none⟩) (Nat.le_refl _) (.int .i64 (((y : Int) + z + m) % 1000))
          have HRS := Lib.hid hrs
          have HBS := Lib.hid hbs
          clear hrs hbs hrg hbg e1 hm1
          rcases Nat.eq_zero_or_pos c with hc0 | hc0
          · subst hc0
            obtain rfl : m = 0 := by have h := hmm.out; simpa using h.symm
            have HRS2 : Hid (RowW (wr.setCell ⟨w.heap.size, k, none⟩ (.int .i64 (((y : Int) + z) % 1000))) w.heap.size (updW g k ((y + z) % 1000))) := Lib.hid (by have h := HRS.out; simpa using h)
            have HBS2 : Hid (Below w.heap.size w (wr.setCell ⟨w.heap.size, k, none⟩ (.int .i64 (((y : Int) + z) % 1000)))) := Lib.hid (by have h := HBS.out; simpa using h)
            have hS2 : Hid (InnerI (updW g k ((y + z) % 1000)) i (k + 1) 0 ((y + z) / 1000) (a' % 1000) b T) := Lib.hid (by have h := hS.out; simpa using h)
            have d1 : decide (0 < ((0 : Nat) : Int)) = false := by decide
            have d2 : decide (0 < (y : Int)) = true := decide_eq_true (by omega)
            go_wp2_with fail
            go_roundw
            case rel => exact ⟨0, (y + z) / 1000, k + 1, _, by go_num, by go_num, by go_num, hS2, by omega, by omega, by omega, HRS2.out, HBS2.out⟩
            case measure => simp [intOf]; omega
          · have d1 : decide (0 < (c : Int)) = true := decide_eq_true (by omega)
            go_wp2_with fail
            go_roundw
            case rel => exact ⟨c / 1000, (y + z + m) / 1000, k + 1, _, by go_num, by go_num, by go_num, hS, by omega, by omega, by omega, HRS.out, HBS.out⟩
            case measure => simp [intOf]; omega
        · obtain rfl : c = 0 := by omega
          obtain rfl : y = 0 := by omega
          have hO2 := Lib.hid (HOO.out g k hI.out)
          go_wp2_with fail
          go_roundw
          case rel => exact ⟨a' / 1000, i + 1, g, by go_num, by go_num, hO2, by omega, by omega, hrg, hbg⟩
          case measure => simp [intOf]; omega
    · obtain rfl : a' = 0 := by omega
      go_wp2_with fail
      go_ret
      exact ⟨_, f, rfl, Nat.le_refl _, hrow', hO.out.small, hO.out.done, hbe'⟩
end Go.Proofs.YtbjddimafilflaaGreatDoor
