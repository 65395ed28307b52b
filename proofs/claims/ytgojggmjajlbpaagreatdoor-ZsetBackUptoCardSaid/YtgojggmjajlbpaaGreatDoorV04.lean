/- PARTS OF THE WALKS, joined: Ra, LaidV, Push, El, OwnG, Rb. -/
import Derived.Test.YtgojggmjajlbpaaGreatDoorV03
import Derived.Test.YtgojggmjajlbpaaGreatDoorCards
import Derived.Test.YtgojggmjajlbpaaGreatDoorTie
import Derived.ProofKit
import Derived.Deep.Fields
import Derived.OpenShut
import Derived.LaidMore
import Derived.Deep.DeepHandedRow
import Derived.Deep.DeepWitnessRowRef
import Derived.SizedLaws
import Derived.Deep.Slices
import Derived.Lib.SmallJoins
import Derived.Lay
import Derived.Carry
import Derived.MakeChecks
import Derived.Maps.AppendAt
import Derived.Test.YtgojggmjajlbpaaGreatDoorV01
import Derived.Test.YtgojggmjajlbpaaGreatDoorV00
/- THE WALKS over the reference's bare, str, and valid at values that are no list and no path. -/
namespace Go.Proofs.YtgojggmjajlbpaaGreatDoor
open Go.RowKit
mutual
/-- every string in a value is no longer than memory bears -/
def szV : Val → Prop
  | .mk _ _ _ s l => s.size ≤ 140737488355328 ∧ szL l
def szL : List Val → Prop
  | [] => True
  | v :: vs => szV v ∧ szL vs
end
theorem szV_iff {v : Val} : szV v ↔ v.s.size ≤ 140737488355328 ∧ szL v.l := by cases v; rw [szV]; rfl
theorem szL_mem {l : List Val} (h : szL l) {v : Val} (hv : v ∈ l) : szV v := by
  induction l with
  | nil => cases hv
  | cons x l ih =>
    rw [szL] at h
    rcases List.mem_cons.1 hv with e | e
    · rw [e]; exact h.1
    · exact ih h.2 e
def bareF (p q r t : Bool) (n d : Int) (s : ByteArray) (m : Nat) : Bool := (p || decide (n = 0)) && (q || decide (d = 0)) && (r || decide (s.size = 0)) && (t || decide (m = 0))
set_option maxRecDepth 100000 in
set_option maxHeartbeats 1600000 in
theorem r4_bare_ffff (k n d : Int) (s : ByteArray) (A : Option Addr) (m c : Nat) (w : World) : Calls Tryz.prog 96 #[.agg #[.int .i64 k, .int .i64 n, .int .i64 d, .string s, .slice A m c], .bool false, .bool false, .bool false, .bool false] w fun e w' => e = .returned (.bool (bareF false false false false n d s m)) ∧ Ext w w' := by
  obtain ⟨g, w1, hg, hw1, ⟨c0, c1, c2, c3, c4⟩, hx, -⟩ := box5 w k n d s A m c 56
  have HW1 := Lib.hid hw1
  have HG := Lib.hid hg
  clear hw1 hg
  go_enter Tryz.func96, Tryz.ntmps96
  go_upto_region 1 with (fail)
  rw [← HW1.out, ← HG.out]
  clear HW1 HG
  go_wp2_with fail
  all_goals
    go_ret
    refine ⟨ret_bool ?_, hx⟩
    clear c0 c1 c2 c3 c4
    (try simp only [nil_iff] at *)
    unfold bareF
    (try simp only [beq_decI])
    first | (simp_all; done) | (simp_all; omega)
set_option maxRecDepth 100000 in
set_option maxHeartbeats 1600000 in
theorem r4_bare_tfff (k n d : Int) (s : ByteArray) (A : Option Addr) (m c : Nat) (w : World) : Calls Tryz.prog 96 #[.agg #[.int .i64 k, .int .i64 n, .int .i64 d, .string s, .slice A m c], .bool true, .bool false, .bool false, .bool false] w fun e w' => e = .returned (.bool (bareF true false false false n d s m)) ∧ Ext w w' := by
  obtain ⟨g, w1, hg, hw1, ⟨c0, c1, c2, c3, c4⟩, hx, -⟩ := box5 w k n d s A m c 56
  have HW1 := Lib.hid hw1
  have HG := Lib.hid hg
  clear hw1 hg
  go_enter Tryz.func96, Tryz.ntmps96
  go_upto_region 1 with (fail)
  rw [← HW1.out, ← HG.out]
  clear HW1 HG
  go_wp2_with fail
  all_goals
    go_ret
    refine ⟨ret_bool ?_, hx⟩
    clear c0 c1 c2 c3 c4
    (try simp only [nil_iff] at *)
    unfold bareF
    (try simp only [beq_decI])
    first | (simp_all; done) | (simp_all; omega)
set_option maxRecDepth 100000 in
set_option maxHeartbeats 1600000 in
theorem r4_bare_ttff (k n d : Int) (s : ByteArray) (A : Option Addr) (m c : Nat) (w : World) : Calls Tryz.prog 96 #[.agg #[.int .i64 k, .int .i64 n, .int .i64 d, .string s, .slice A m c], .bool true, .bool true, .bool false, .bool false] w fun e w' => e = .returned (.bool (bareF true true false false n d s m)) ∧ Ext w w' := by
  obtain ⟨g, w1, hg, hw1, ⟨c0, c1, c2, c3, c4⟩, hx, -⟩ := box5 w k n d s A m c 56
  have HW1 := Lib.hid hw1
  have HG := Lib.hid hg
  clear hw1 hg
  go_enter Tryz.func96, Tryz.ntmps96
  go_upto_region 1 with (fail)
  rw [← HW1.out, ← HG.out]
  clear HW1 HG
  go_wp2_with fail
  all_goals
    go_ret
    refine ⟨ret_bool ?_, hx⟩
    clear c0 c1 c2 c3 c4
    (try simp only [nil_iff] at *)
    unfold bareF
    (try simp only [beq_decI])
    first | (simp_all; done) | (simp_all; omega)
set_option maxRecDepth 100000 in
set_option maxHeartbeats 1600000 in
theorem r4_bare_fftf (k n d : Int) (s : ByteArray) (A : Option Addr) (m c : Nat) (w : World) : Calls Tryz.prog 96 #[.agg #[.int .i64 k, .int .i64 n, .int .i64 d, .string s, .slice A m c], .bool false, .bool false, .bool true, .bool false] w fun e w' => e = .returned (.bool (bareF false false true false n d s m)) ∧ Ext w w' := by
  obtain ⟨g, w1, hg, hw1, ⟨c0, c1, c2, c3, c4⟩, hx, -⟩ := box5 w k n d s A m c 56
  have HW1 := Lib.hid hw1
  have HG := Lib.hid hg
  clear hw1 hg
  go_enter Tryz.func96, Tryz.ntmps96
  go_upto_region 1 with (fail)
  rw [← HW1.out, ← HG.out]
  clear HW1 HG
  go_wp2_with fail
  all_goals
    go_ret
    refine ⟨ret_bool ?_, hx⟩
    clear c0 c1 c2 c3 c4
    (try simp only [nil_iff] at *)
    unfold bareF
    (try simp only [beq_decI])
    first | (simp_all; done) | (simp_all; omega)
set_option maxRecDepth 100000 in
set_option maxHeartbeats 1600000 in
theorem r4_bare_ffft (k n d : Int) (s : ByteArray) (A : Option Addr) (m c : Nat) (w : World) : Calls Tryz.prog 96 #[.agg #[.int .i64 k, .int .i64 n, .int .i64 d, .string s, .slice A m c], .bool false, .bool false, .bool false, .bool true] w fun e w' => e = .returned (.bool (bareF false false false true n d s m)) ∧ Ext w w' := by
  obtain ⟨g, w1, hg, hw1, ⟨c0, c1, c2, c3, c4⟩, hx, -⟩ := box5 w k n d s A m c 56
  have HW1 := Lib.hid hw1
  have HG := Lib.hid hg
  clear hw1 hg
  go_enter Tryz.func96, Tryz.ntmps96
  go_upto_region 1 with (fail)
  rw [← HW1.out, ← HG.out]
  clear HW1 HG
  go_wp2_with fail
  all_goals
    go_ret
    refine ⟨ret_bool ?_, hx⟩
    clear c0 c1 c2 c3 c4
    (try simp only [nil_iff] at *)
    unfold bareF
    (try simp only [beq_decI])
    first | (simp_all; done) | (simp_all; omega)
theorem get_elem (s : ByteArray) (k : Nat) (h : k < s.size) : s.get! k = s[k] := by
  rw [get_data s k h]; rfl
theorem str_no {s : ByteArray} {k : Nat} (hk : k < s.size) (h : pBad s[k].toNat = true) : strOk s = false := by
  rw [strOk_eq]
  cases hb : bytesOk s
  · exact Bool.and_false _
  · have := (bytesOk_iff s).1 hb k hk
    rw [get_elem s k hk, h] at this; cases this
theorem str_yes {s : ByteArray} (h : ∀ j (h : j < s.size), pBad s[j].toNat = false) : strOk s = decide (s.size ≤ 100) := by
  rw [strOk_eq, (bytesOk_iff s).2 (fun j hj => by rw [get_elem s j hj]; exact h j hj), Bool.and_true]
set_option maxHeartbeats 1600000 in
theorem r4_str (s : ByteArray) (w : World) (hs : s.size ≤ 140737488355328) : Calls Tryz.prog 98 #[.string s] w fun e w' => e = .returned (.bool (strOk s)) ∧ w' = w := by
  have HY := Lib.hid (fun h => str_yes (s := s) h)
  have HN := Lib.hid (fun (k : Nat) (hk : k < s.size) h => str_no (s := s) hk h)
  go_enter Tryz.func98, Tryz.ntmps98
  go_wp2
  go_loop [3] (fun u => ∃ k : Nat, u = .int .i64 k ∧ k ≤ s.size ∧ Hid (∀ j (h : j < s.size), j < k → pBad s[j].toNat = false)) (fun u => s.size - (intOf u).toNat)
  case atStart => exact ⟨0, rfl, Nat.zero_le _, Lib.hid (fun j _ hj => absurd hj (by omega))⟩
  case round =>
    obtain ⟨k, rfl, hk, hA⟩ := hrel
    by_cases hlt : k < s.size
    · have HB := Lib.hid (HN.out k hlt)
      have HS := Lib.hid (fun (h : pBad s[k].toNat = false) j (hj : j < s.size) (hjk : j < k + 1) => (if e : j = k then (by subst e; exact h) else hA.out j hj (by omega) : pBad s[j].toNat = false))
      by_cases h1 : s[k].toNat < 32
      · have HF := Lib.hid (HB.out (by unfold pBad; rw [decide_eq_true h1]; rfl))
        clear HB HS
        go_wp2
        all_goals first | (go_ret; exact ⟨ret_bool HF.out.symm, rfl⟩) | (exfalso; omega)
      · by_cases h2 : 126 < s[k].toNat
        · have HF := Lib.hid (HB.out (by unfold pBad; rw [decide_eq_true h2, Bool.or_true]))
          clear HB HS
          go_wp2
          all_goals first | (go_ret; exact ⟨ret_bool HF.out.symm, rfl⟩) | (exfalso; omega)
        · have HT := Lib.hid (HS.out (by unfold pBad; rw [decide_eq_false h1, decide_eq_false h2]; rfl))
          clear HB HS
          go_wp2
          all_goals first | (go_round; (case rel => exact ⟨k + 1, by go_num, by omega, HT⟩); (case measure => simp [intOf]; omega)) | (exfalso; omega)
    · have HF := Lib.hid (HY.out (fun j hj => hA.out j hj (by omega)))
      by_cases h100 : s.size ≤ 100
      · rw [decide_eq_true h100] at HF
        go_wp2
        go_ret
        exact ⟨ret_bool (by rw [HF.out, decide_eq_true_iff]; omega), rfl⟩
      · rw [decide_eq_false h100] at HF
        go_wp2
        go_ret
        exact ⟨ret_bool (by rw [HF.out, decide_eq_false_iff_not]; omega), rfl⟩
set_option maxRecDepth 100000 in
set_option maxHeartbeats 1600000 in
theorem r4_valid0 (n d : Int) (s : ByteArray) (m : Nat) (A : Option Addr) (c : Nat) (nest : Int) (w : World) (_hs : s.size ≤ 140737488355328) : Calls Tryz.prog 77 #[.agg #[.int .i64 0, .int .i64 n, .int .i64 d, .string s, .slice A m c], .int .i64 nest] w fun e w' => e = .returned (.bool (leafF 0 n d s m)) ∧ Ext w w' := by
  obtain ⟨g, w1, hg, hw1, ⟨c0, c1, c2, c3, c4⟩, hx, -⟩ := box5 w 0 n d s A m c 56
  have HW1 := Lib.hid hw1
  have HG := Lib.hid hg
  clear hw1 hg
  go_enter Tryz.func77, Tryz.ntmps77
  go_upto_region 1 with (fail)
  rw [← HW1.out, ← HG.out]
  clear HW1 HG
  go_wp2_with (go_at_call 96; ((with_reducible refine (r4_bare_ffff _ _ _ _ _ _ _ _).mono ?_); rintro e w' ⟨rfl, hb⟩; have hb1 : Ext w1 w' := hb; replace c0 := hb1.cell c0; replace c1 := hb1.cell c1; replace c2 := hb1.cell c2; replace c3 := hb1.cell c3; replace c4 := hb1.cell c4))
  all_goals
    go_ret
    refine ⟨ret_bool ?_, (by first | exact hx | exact Ext.trans hx (by assumption) | exact Ext.trans hx (Ext.trans hb1 (by assumption)))⟩
    clear c0 c1 c2 c3 c4
    (try simp only [nil_iff] at *)
    unfold leafF
    (try unfold bareF at *)
    skip
    first | (simp_all; done) | (simp_all; omega)
set_option maxRecDepth 100000 in
set_option maxHeartbeats 1600000 in
theorem r4_valid1 (n d : Int) (s : ByteArray) (m : Nat) (A : Option Addr) (c : Nat) (nest : Int) (w : World) (_hs : s.size ≤ 140737488355328) : Calls Tryz.prog 77 #[.agg #[.int .i64 1, .int .i64 n, .int .i64 d, .string s, .slice A m c], .int .i64 nest] w fun e w' => e = .returned (.bool (leafF 1 n d s m)) ∧ Ext w w' := by
  obtain ⟨g, w1, hg, hw1, ⟨c0, c1, c2, c3, c4⟩, hx, -⟩ := box5 w 1 n d s A m c 56
  have HW1 := Lib.hid hw1
  have HG := Lib.hid hg
  clear hw1 hg
  go_enter Tryz.func77, Tryz.ntmps77
  go_upto_region 1 with (fail)
  rw [← HW1.out, ← HG.out]
  clear HW1 HG
  go_wp2_with (go_at_call 96; ((with_reducible refine (r4_bare_tfff _ _ _ _ _ _ _ _).mono ?_); rintro e w' ⟨rfl, hb⟩; have hb1 : Ext w1 w' := hb; replace c0 := hb1.cell c0; replace c1 := hb1.cell c1; replace c2 := hb1.cell c2; replace c3 := hb1.cell c3; replace c4 := hb1.cell c4))
  all_goals
    go_ret
    refine ⟨ret_bool ?_, (by first | exact hx | exact Ext.trans hx (by assumption) | exact Ext.trans hx (Ext.trans hb1 (by assumption)))⟩
    clear c0 c1 c2 c3 c4
    (try simp only [nil_iff] at *)
    unfold leafF
    (try unfold bareF at *)
    (try simp only [beq_decI])
    first | (simp_all; done) | (simp_all; omega)
set_option maxRecDepth 100000 in
set_option maxHeartbeats 1600000 in
theorem r4_valid2 (n d : Int) (s : ByteArray) (m : Nat) (A : Option Addr) (c : Nat) (nest : Int) (w : World) (_hs : s.size ≤ 140737488355328) : Calls Tryz.prog 77 #[.agg #[.int .i64 2, .int .i64 n, .int .i64 d, .string s, .slice A m c], .int .i64 nest] w fun e w' => e = .returned (.bool (leafF 2 n d s m)) ∧ Ext w w' := by
  obtain ⟨g, w1, hg, hw1, ⟨c0, c1, c2, c3, c4⟩, hx, -⟩ := box5 w 2 n d s A m c 56
  have HW1 := Lib.hid hw1
  have HG := Lib.hid hg
  clear hw1 hg
  go_enter Tryz.func77, Tryz.ntmps77
  go_upto_region 1 with (fail)
  rw [← HW1.out, ← HG.out]
  clear HW1 HG
  go_wp2_with (first | (go_at_call 96; ((with_reducible refine (r4_bare_tfff _ _ _ _ _ _ _ _).mono ?_); rintro e w' ⟨rfl, hb⟩; have hb1 : Ext w1 w' := hb; replace c0 := hb1.cell c0; replace c1 := hb1.cell c1; replace c2 := hb1.cell c2; replace c3 := hb1.cell c3; replace c4 := hb1.cell c4)) | (go_at_call 97; refine (ref_In _ _).mono ?_; rintro e w' ⟨rfl, rfl⟩))
  all_goals
    go_ret
    refine ⟨ret_bool ?_, (by first | exact hx | exact Ext.trans hx (by assumption) | exact Ext.trans hx (Ext.trans hb1 (by assumption)))⟩
    clear c0 c1 c2 c3 c4
    (try simp only [nil_iff] at *)
    unfold leafF
    (try unfold bareF at *)
    skip
    first | (simp_all; done) | (simp_all; omega)
set_option maxRecDepth 100000 in
set_option maxHeartbeats 1600000 in
theorem r4_valid3 (n d : Int) (s : ByteArray) (m : Nat) (A : Option Addr) (c : Nat) (nest : Int) (w : World) (_hs : s.size ≤ 140737488355328) : Calls Tryz.prog 77 #[.agg #[.int .i64 3, .int .i64 n, .int .i64 d, .string s, .slice A m c], .int .i64 nest] w fun e w' => e = .returned (.bool (leafF 3 n d s m)) ∧ Ext w w' := by
  obtain ⟨g, w1, hg, hw1, ⟨c0, c1, c2, c3, c4⟩, hx, -⟩ := box5 w 3 n d s A m c 56
  have HW1 := Lib.hid hw1
  have HG := Lib.hid hg
  clear hw1 hg
  go_enter Tryz.func77, Tryz.ntmps77
  go_upto_region 1 with (fail)
  rw [← HW1.out, ← HG.out]
  clear HW1 HG
  go_wp2_with (first | (go_at_call 96; ((with_reducible refine (r4_bare_ttff _ _ _ _ _ _ _ _).mono ?_); rintro e w' ⟨rfl, hb⟩; have hb1 : Ext w1 w' := hb; replace c0 := hb1.cell c0; replace c1 := hb1.cell c1; replace c2 := hb1.cell c2; replace c3 := hb1.cell c3; replace c4 := hb1.cell c4)) | (go_at_call 79; refine (r3_Valid _ _ _).mono ?_; rintro e w' ⟨rfl, hbv⟩; have hb2 : Ext _ w' := hbv))
  all_goals
    go_ret
    refine ⟨ret_bool ?_, (by first | exact hx | exact Ext.trans hx (by assumption) | exact Ext.trans hx (Ext.trans hb1 (by assumption)))⟩
    clear c0 c1 c2 c3 c4
    (try simp only [nil_iff] at *)
    unfold leafF
    (try unfold bareF at *)
    skip
    first | (simp_all; done) | (simp_all; omega)
set_option maxRecDepth 100000 in
set_option maxHeartbeats 1600000 in
theorem r4_valid4 (n d : Int) (s : ByteArray) (m : Nat) (A : Option Addr) (c : Nat) (nest : Int) (w : World) (hs : s.size ≤ 140737488355328) : Calls Tryz.prog 77 #[.agg #[.int .i64 4, .int .i64 n, .int .i64 d, .string s, .slice A m c], .int .i64 nest] w fun e w' => e = .returned (.bool (leafF 4 n d s m)) ∧ Ext w w' := by
  obtain ⟨g, w1, hg, hw1, ⟨c0, c1, c2, c3, c4⟩, hx, -⟩ := box5 w 4 n d s A m c 56
  have HW1 := Lib.hid hw1
  have HG := Lib.hid hg
  clear hw1 hg
  go_enter Tryz.func77, Tryz.ntmps77
  go_upto_region 1 with (fail)
  rw [← HW1.out, ← HG.out]
  clear HW1 HG
  go_wp2_with (first | (go_at_call 96; ((with_reducible refine (r4_bare_fftf _ _ _ _ _ _ _ _).mono ?_); rintro e w' ⟨rfl, hb⟩; have hb1 : Ext w1 w' := hb; replace c0 := hb1.cell c0; replace c1 := hb1.cell c1; replace c2 := hb1.cell c2; replace c3 := hb1.cell c3; replace c4 := hb1.cell c4)) | (go_at_call 98; refine (r4_str _ _ hs).mono ?_; rintro e w' ⟨rfl, rfl⟩))
  all_goals
    go_ret
    refine ⟨ret_bool ?_, (by first | exact hx | exact Ext.trans hx (by assumption) | exact Ext.trans hx (Ext.trans hb1 (by assumption)))⟩
    clear c0 c1 c2 c3 c4
    (try simp only [nil_iff] at *)
    unfold leafF
    (try unfold bareF at *)
    skip
    first | (simp_all; done) | (simp_all; omega)
set_option maxRecDepth 100000 in
set_option maxHeartbeats 1600000 in
theorem r4_valid5 (n d : Int) (s : ByteArray) (m : Nat) (A : Option Addr) (c : Nat) (nest : Int) (w : World) (_hs : s.size ≤ 140737488355328) : Calls Tryz.prog 77 #[.agg #[.int .i64 5, .int .i64 n, .int .i64 d, .string s, .slice A m c], .int .i64 nest] w fun e w' => e = .returned (.bool (leafF 5 n d s m)) ∧ Ext w w' := by
  obtain ⟨g, w1, hg, hw1, ⟨c0, c1, c2, c3, c4⟩, hx, -⟩ := box5 w 5 n d s A m c 56
  have HW1 := Lib.hid hw1
  have HG := Lib.hid hg
  clear hw1 hg
  go_enter Tryz.func77, Tryz.ntmps77
  go_upto_region 1 with (fail)
  rw [← HW1.out, ← HG.out]
  clear HW1 HG
  go_wp2_with (go_at_call 96; ((with_reducible refine (r4_bare_tfff _ _ _ _ _ _ _ _).mono ?_); rintro e w' ⟨rfl, hb⟩; have hb1 : Ext w1 w' := hb; replace c0 := hb1.cell c0; replace c1 := hb1.cell c1; replace c2 := hb1.cell c2; replace c3 := hb1.cell c3; replace c4 := hb1.cell c4))
  all_goals
    go_ret
    refine ⟨ret_bool ?_, (by first | exact hx | exact Ext.trans hx (by assumption) | exact Ext.trans hx (Ext.trans hb1 (by assumption)))⟩
    clear c0 c1 c2 c3 c4
    (try simp only [nil_iff] at *)
    unfold leafF
    (try unfold bareF at *)
    skip
    first | (simp_all; done) | (simp_all; omega)
set_option maxRecDepth 100000 in
set_option maxHeartbeats 1600000 in
theorem r4_valid6 (n d : Int) (s : ByteArray) (m : Nat) (A : Option Addr) (c : Nat) (nest : Int) (w : World) (_hs : s.size ≤ 140737488355328) : Calls Tryz.prog 77 #[.agg #[.int .i64 6, .int .i64 n, .int .i64 d, .string s, .slice A m c], .int .i64 nest] w fun e w' => e = .returned (.bool (leafF 6 n d s m)) ∧ Ext w w' := by
  obtain ⟨g, w1, hg, hw1, ⟨c0, c1, c2, c3, c4⟩, hx, -⟩ := box5 w 6 n d s A m c 56
  have HW1 := Lib.hid hw1
  have HG := Lib.hid hg
  clear hw1 hg
  go_enter Tryz.func77, Tryz.ntmps77
  go_upto_region 1 with (fail)
  rw [← HW1.out, ← HG.out]
  clear HW1 HG
  go_wp2_with (go_at_call 96; ((with_reducible refine (r4_bare_tfff _ _ _ _ _ _ _ _).mono ?_); rintro e w' ⟨rfl, hb⟩; have hb1 : Ext w1 w' := hb; replace c0 := hb1.cell c0; replace c1 := hb1.cell c1; replace c2 := hb1.cell c2; replace c3 := hb1.cell c3; replace c4 := hb1.cell c4))
  all_goals
    go_ret
    refine ⟨ret_bool ?_, (by first | exact hx | exact Ext.trans hx (by assumption) | exact Ext.trans hx (Ext.trans hb1 (by assumption)))⟩
    clear c0 c1 c2 c3 c4
    (try simp only [nil_iff] at *)
    unfold leafF
    (try unfold bareF at *)
    skip
    first | (simp_all; done) | (simp_all; omega)
set_option maxRecDepth 100000 in
set_option maxHeartbeats 1600000 in
theorem r4_valido (k : Int) (hk : (k == 0) = false ∧ (k == 1) = false ∧ (k == 2) = false ∧ (k == 3) = false ∧ (k == 4) = false ∧ (k == 5) = false ∧ (k == 6) = false ∧ (k == 7) = false ∧ (k == 8) = false) (n d : Int) (s : ByteArray) (m : Nat) (A : Option Addr) (c : Nat) (nest : Int) (w : World) (_hs : s.size ≤ 140737488355328) : Calls Tryz.prog 77 #[.agg #[.int .i64 k, .int .i64 n, .int .i64 d, .string s, .slice A m c], .int .i64 nest] w fun e w' => e = .returned (.bool (leafF k n d s m)) ∧ Ext w w' := by
  have hne := other9 hk
  obtain ⟨h0, h1, h2, h3, h4, h5, h6, h7, h8⟩ := hk
  obtain ⟨n0, n1, n2, n3, n4, n5, n6, n7, n8⟩ := hne
  obtain ⟨g, w1, hg, hw1, ⟨c0, c1, c2, c3, c4⟩, hx, -⟩ := box5 w k n d s A m c 56
  have HW1 := Lib.hid hw1
  have HG := Lib.hid hg
  clear hw1 hg
  go_enter Tryz.func77, Tryz.ntmps77
  go_upto_region 1 with (fail)
  rw [← HW1.out, ← HG.out]
  clear HW1 HG
  go_wp2_with fail
  all_goals
    go_ret
    refine ⟨ret_bool ?_, (by first | exact hx | exact Ext.trans hx (by assumption) | exact Ext.trans hx (Ext.trans hb1 (by assumption)))⟩
    clear c0 c1 c2 c3 c4
    (try simp only [nil_iff] at *)
    unfold leafF
    (try unfold bareF at *)
    skip
    first | (simp_all; done) | (simp_all; omega)
end Go.Proofs.YtgojggmjajlbpaaGreatDoor

/- VALUES, ROWS AND STRINGS THAT COME IN; the last step of a row. -/
namespace Go.Proofs.YtgojggmjajlbpaaGreatDoor
open Go.ChangeShapes Go.WideShapes Go.ChangeAt Go.RowKit
open Go.ChangeMaps (open_string shut_string)
theorem szL_ofV : ∀ {l : List Val}, (∀ v ∈ l, szV v) → szL l
  | [], _ => by rw [szL]; trivial
  | v :: l, h => by rw [szL]; exact ⟨h v (by simp), szL_ofV (fun x hx => h x (by simp [hx]))⟩
theorem own : ownKnob Tryz.prog.godebug = none := by kernel_rfl
theorem laidOut : laidOutB Tryz.prog = true := by kernel_rfl
theorem cellsVal : Tryz.prog.cellsOf 56 = 5 := by kernel_rfl
theorem cellsRow : Tryz.prog.cellsOf 24 = 1 := by kernel_rfl
theorem cellsInt : Tryz.prog.cellsOf 3 = 1 := by kernel_rfl
theorem cellsStr : Tryz.prog.cellsOf 9 = 1 := by kernel_rfl
theorem cellsVals : Tryz.prog.cellsOf 23 = 1 := by kernel_rfl
theorem spot_of_cell {w : World} {a : Addr} {v : Value} (h : w.cell? a = some v) : a = ⟨a.block, a.off, none⟩ := by
  obtain ⟨b, o, sp⟩ := a
  cases sp with
  | none => rfl
  | some k =>
    exfalso
    unfold World.cell? at h
    split at h
    · simp at h
    · cases h
theorem add_none (b o i j : Nat) : ((⟨b, o, none⟩ : Addr).add i).add j = ⟨b, o + i + j, none⟩ := by
  unfold Addr.add
  by_cases h : i = 0 <;> by_cases k : j = 0 <;> simp [h, k]
theorem list_of {α : Type} (P : Nat → α → Prop) : ∀ n, (∀ i, i < n → ∃ x, P i x) → ∃ l : List α, l.length = n ∧ ∀ i (h : i < l.length), P i l[i]
  | 0, _ => ⟨[], rfl, fun i h => absurd h (Nat.not_lt_zero _)⟩
  | n + 1, h => by
    obtain ⟨l, hl, hp⟩ := list_of P n (fun i hi => h i (by omega))
    obtain ⟨x, hx⟩ := h n (by omega)
    refine ⟨l ++ [x], by simp [hl], fun i hi => ?_⟩
    rcases Nat.lt_or_ge i l.length with h1 | h1
    · rw [List.getElem_append_left h1]; exact hp i h1
    · have : i = l.length := by simp at hi; omega
      subst this
      rw [List.getElem_append_right (by omega)]
      simpa [hl] using hx
section
variable {H : Type} {enc : TypeId × Value → H} {w : World} {base : Nat} {spare : Nat → Bool} {held : Bool}
theorem weightsAll_mem {P : Program} {e : TypeId} : ∀ {l : List (DataW H)} {d : DataW H}, d ∈ l → ∀ n ∈ d.weights P e, n ∈ DataW.weightsAll P e l
  | d0 :: r, d, h, n, hn => by
    simp only [DataW.weightsAll, List.mem_append]
    rcases List.mem_cons.1 h with rfl | h
    · exact .inl hn
    · exact .inr (weightsAll_mem h n hn)
theorem five {α : Type} {l : List α} (h : l.length = 5) : ∃ a b c d e, l = [a, b, c, d, e] := by
  match l, h with
  | [a, b, c, d, e], _ => exact ⟨a, b, c, d, e, rfl⟩
theorem two {α : Type} {l : List α} (h : l.length = 2) : ∃ a b, l = [a, b] := by
  match l, h with
  | [a, b], _ => exact ⟨a, b, rfl⟩
theorem bytesVal : 0 < Tryz.prog.bytesOf 56 := of_decide_eq_true (by kernel_rfl)
theorem bytesRow : 0 < Tryz.prog.bytesOf 24 := of_decide_eq_true (by kernel_rfl)
theorem str_small {s : ByteArray} {p : DataW H × List MemPlace} (hx : p = (.lit (.string s.data.toList), [])) (h : ∀ k ∈ p.1.weights Tryz.prog 9, k ≤ reachBytes) : s.size ≤ 140737488355328 := by
  subst hx
  have h1 := h s.data.toList.length (by simp [DataW.weights])
  have h2 := reachBytes_lt
  rw [Array.length_toList] at h1
  have h3 : s.data.size = s.size := rfl
  omega
end
section
variable {H : Type} {enc : TypeId × Value → H} {P : Program}
/-- The row's last step where all that was there stands. -/
theorem post_of_below {f : Func} {s : ChangeSpec} {apart fresh handsOn again : Bool} {W W' : World} {args : Array Value} {v : Value} {ds gs : List (DataW H)} {before pa pv : List MemPlace}
    (hW : DataW.Whole enc P f.params.toList s.vars apart W args.toList ds gs before)
    (hres : ∀ (b : Nat) (sp : Nat → Bool) (hd : Bool), DataW.TrodAll enc P W' b sp hd f.resultTypes.toList (v.resultList f.resultTypes.size) (s.fn H (ds ++ gs)).results [])
    (hargs : ∀ sp : Nat → Bool, (∀ p ∈ before, sp p.block = true) → DataW.TrodAll enc P W' 0 sp true f.params.toList args.toList (s.fn H (ds ++ gs)).args pa)
    (hvars : ∀ sp : Nat → Bool, (∀ p ∈ before, sp p.block = true) → DataW.TrodVars enc P W' sp s.vars (s.fn H (ds ++ gs)).vars pv)
    (hps : before = pa ++ pv) (hb : Below W.heap.size W W')
    (hok : ∀ (j : Nat) (t : TypeId) (r : Value), f.resultTypes[j]? = some t → (v.resultList f.resultTypes.size)[j]? = some r → Value.okWide P W' .any 0 t r) :
    s.post enc P f apart fresh handsOn again W args v W' := by
  have hlt : ∀ p ∈ before, p.block < W.heap.size := fun p hp => hW.lt p hp
  have hold : ∀ p ∈ before, (fun b => decide (b < W.heap.size)) p.block = true := fun p hp => by simpa using hlt p hp
  refine ⟨ds, gs, before, [], pa, pv, hW, hres _ _ _, hargs _ hold, hvars _ hold, World.keptBut_mono (fun p hp => ⟨hp, ?_⟩) (hb.frame (· ∈ before)), fun _ => ?_⟩
  · rw [hps, List.mem_append] at hp
    exact Or.inr hp
  · obtain ⟨_, _, _, _, _, hz, hn⟩ := hW
    refine ⟨hok, _, _, ([] ++ pa) ++ pv, ⟨[] ++ pa, pv, trodAll_append (hargs _ (fun _ _ => rfl)) (hres _ _ _), hvars _ (fun _ _ => rfl), rfl, ?_, ?_⟩, ?_⟩
    · intro b off hp
      have hin : MemPlace.cell b off ∈ before := by rw [hps]; simpa using hp
      rw [hb.frozen (hlt _ hin)]
      exact hz b off hin
    · intro ha
      have := hn ha
      rw [hps] at this
      simpa using this
    · intro p hp _
      rw [hps]
      simpa using hp
end
end Go.Proofs.YtgojggmjajlbpaaGreatDoor

/- APPENDS TO ROWS THAT A CALL OWNS, with what they leave as it was; values kept over them. -/
namespace Go.Proofs.YtgojggmjajlbpaaGreatDoor
open Go.RowKit
/-- behind an append to v: all that lay outside v's block lies as it lay; the new block is none of those -/
structure FarBut (w w' : World) (v v' : Value) : Prop where
  cell : ∀ b o x, some b ≠ v.ownBlock → w.cell? ⟨b, o, none⟩ = some x → w'.cell? ⟨b, o, none⟩ = some x
  own : ∀ b, b < w.heap.size → some b ≠ v.ownBlock → some b ≠ v'.ownBlock
theorem own_pushF {P : Program} {t e size bytes : Nat} (T : ElT P t e size bytes) {ops : Array Oper} {rest : List Oper} {o : Oper} {a : Act} {Q : Exit → Act → World → Prop} {w : World} (hgd : o.guard = none) (s x : Operand)
    (ho : o.op = .call { callee := .builtin .append, args := #[s, x], argTypes := #[t, t] }) (wb w0 : World) (v : Value) (n : Nat) (xs news : List Value) (hs : a.eval s = v) (hown : w0.ownsRow wb.heap.size e size v n xs) (hE : Ext wb w0)
    (hw : w = w0.alloc (.cells news.toArray e)) (hx : a.eval x = .slice (some ⟨w0.heap.size, 0, none⟩) 1 1) (hl : news.length = size) (h1 : ∀ u ∈ news, u.oneCell' = true)
    (h63 : n + 1 ≤ 8388608) (hbytes : bytes ≤ 1000000)
    (h : ∀ v' w', w'.ownsRow wb.heap.size e size v' (n + 1) (xs ++ news) → Ext wb w' → FarBut w0 w' v v' → wpList P ops Q rest (a.put o.dst v') w') : wpList P ops Q (o :: rest) a w := by
  obtain ⟨z, hz, hzc⟩ := T.hi
  obtain ⟨i, hi, hz0, hz1, hz2⟩ := info_parts hz
  subst hw
  refine wpList_append_own_at _ hgd s x t ho wb.heap.size e i z size bytes T.ht hi hz0 hz1 hz2 hzc T.hs v n xs hs (hown.alloc _) ⟨w0.heap.size, 0, none⟩ 1 1 news hx (by omega) ?_ h1 (by unfold maxLen; omega) ?_ (Nat.le_trans hE.le (by simp)) ?_
  · intro j u hj
    rw [Addr.add_mid, cell_of_row _ _ _ _ _ _ (heap_alloc_new w0 _)]
    simpa using hj
  · exact Nat.le_trans (Nat.mul_le_mul h63 hbytes) (by decide)
  · intro v' w' h2 h3 _ h5
    refine h v' w' h2 ((hE.alloc _).grown h3 (fun k hk => (hown.lt k hk).1)) ⟨fun b o x hb hc => ?_, fun b hb hn => ?_⟩
    · have hlt : b < w0.heap.size := block_lt_of_cell hc
      have hc2 : (w0.alloc (.cells news.toArray e)).cell? ⟨b, o, none⟩ = some x := (World.cell?_alloc_lt w0 _ ⟨b, o, none⟩ hlt).trans hc
      exact (World.cell?_of_block (h3.block b (by simp; omega) hb)).trans hc2
    · rcases h5 with e | e
      · rw [e]; exact hn
      · rw [e]
        intro e2
        injection e2 with e2
        simp at e2; omega
mutual
theorem VCells.keep' {w w' : World} {ok ok' : Nat → Prop} (hk : ∀ b o x, ok b → w.cell? ⟨b, o, none⟩ = some x → w'.cell? ⟨b, o, none⟩ = some x ∧ ok' b) : ∀ (v : Val) (b o : Nat), VCells w ok b o v → VCells w' ok' b o v
  | .mk k n d s l, b, o, h => by
    rw [VCells] at h ⊢
    obtain ⟨h0, h1, h2, h3, h4, A, c, h5, h6, h7, h8⟩ := h
    refine ⟨(hk _ _ _ h0 h1).2, (hk _ _ _ h0 h1).1, (hk _ _ _ h0 h2).1, (hk _ _ _ h0 h3).1, (hk _ _ _ h0 h4).1, A, c, (hk _ _ _ h0 h5).1, h6, h7, fun hp => ?_⟩
    obtain ⟨b', o', hA, hl⟩ := h8 hp
    exact ⟨b', o', hA, LCells.keep' hk l b' o' hl⟩
theorem LCells.keep' {w w' : World} {ok ok' : Nat → Prop} (hk : ∀ b o x, ok b → w.cell? ⟨b, o, none⟩ = some x → w'.cell? ⟨b, o, none⟩ = some x ∧ ok' b) : ∀ (l : List Val) (b o : Nat), LCells w ok b o l → LCells w' ok' b o l
  | [], _, _, _ => by rw [LCells]; trivial
  | v :: vs, b, o, h => by
    rw [LCells] at h ⊢
    exact ⟨VCells.keep' hk v b o h.1, LCells.keep' hk vs b (o + 5) h.2⟩
end
theorem Vals.keep' {w w' : World} {ok ok' : Nat → Prop} {A : Option Addr} {l : List Val} (h : Vals w ok A l) (hk : ∀ b o x, ok b → w.cell? ⟨b, o, none⟩ = some x → w'.cell? ⟨b, o, none⟩ = some x ∧ ok' b) : Vals w' ok' A l :=
  SliceR.mono h (fun b o x _ hx => VCells.keep' hk x b o hx)
end Go.Proofs.YtgojggmjajlbpaaGreatDoor

/- ROWS OF STRINGS AND OF NUMBERS that a call owns. -/
namespace Go.Proofs.YtgojggmjajlbpaaGreatDoor
open Go.RowKit
/-- one element appended to a row of the call's own: the run -/
theorem run_pushK {P : Program} {t e size bytes : Nat} (T : ElT P t e size bytes) (ty : TypeId) {w : World} (base : Nat) (w0 : World) (v : Value) (n : Nat) (xs news : List Value) (hown : w0.ownsRow base e size v n xs) (hb : base ≤ w0.heap.size)
    (hw : w = w0.alloc (.cells news.toArray e)) (hl : news.length = size) (h1 : ∀ u ∈ news, u.oneCell' = true) (h63 : n + 1 ≤ 8388608) (hbytes : bytes ≤ 1000000) :
    ∃ v' w', (Builtin.append_ #[t, t] ty #[v, .slice (some ⟨w0.heap.size, 0, none⟩) 1 1]).run P w = .ok v' w' ∧ w'.ownsRow base e size v' (n + 1) (xs ++ news) ∧ w0.grownBy w' v.ownBlock ∧ (v'.ownBlock = v.ownBlock ∨ v'.ownBlock = some (w0.heap.size + 1)) := by
  obtain ⟨z, hz, hzc⟩ := T.hi
  obtain ⟨i, hi, hz0, hz1, hz2⟩ := info_parts hz
  subst hw
  obtain ⟨v', w', hr, k2, k3, -, k5⟩ := run_append_own_at (P := P) (w0.alloc (.cells news.toArray e)) base t ty e i z size bytes T.ht hi hz0 hz1 hz2 hzc T.hs v n xs (hown.alloc _) ⟨w0.heap.size, 0, none⟩ 1 1 news (by omega) (fun j u hj => by
    rw [Addr.add_mid, cell_of_row _ _ _ _ _ _ (heap_alloc_new w0 _)]
    simpa using hj) h1 (by unfold maxLen; omega) (Nat.le_trans (Nat.mul_le_mul h63 hbytes) (by decide)) (Nat.le_trans hb (by simp))
  refine ⟨v', w', hr, k2, ⟨k3.os, k3.tape, k3.output, Nat.le_trans (by simp) k3.size, fun b hb hne => (k3.block b (by simp; omega) hne).trans (((Ext.refl w0).alloc _).block b hb)⟩, ?_⟩
  rcases k5 with h | h
  · exact .inl h
  · exact .inr (by rw [h]; simp)
end Go.Proofs.YtgojggmjajlbpaaGreatDoor

/- ROWS THAT A CALL OWNS whose elements have several cells and may lead to other blocks: any kind of element. -/
namespace Go.Proofs.YtgojggmjajlbpaaGreatDoor
open Go.RowKit
/-- a kind of element: its cells, and what of it lies elsewhere -/
structure KindG (α : Type) where
  enc : α → List Value
  size : Nat
  lies : World → (Nat → Prop) → α → Prop
  len : ∀ h, (enc h).length = size
  one : ∀ h, ∀ u ∈ enc h, u.oneCell' = true
  keep : ∀ W W' (ok ok' : Nat → Prop) h, (∀ b o x, ok b → W.cell? ⟨b, o, none⟩ = some x → W'.cell? ⟨b, o, none⟩ = some x ∧ ok' b) → lies W ok h → lies W' ok' h
variable {α : Type} {K : KindG α} {e : TypeId} {W W' : World} {base : Nat} {ok0 : Nat → Prop} {v v' : Value} {hs : List α}
/-- the call's own row v holds the elements hs; what they lead to lies outside v's block, in blocks of the kind ok0 -/
structure OwnG (K : KindG α) (e : TypeId) (W : World) (base : Nat) (ok0 : Nat → Prop) (v : Value) (hs : List α) : Prop where
  own : W.ownsRow base e K.size v hs.length (hs.flatMap K.enc)
  lies : ∀ h ∈ hs, K.lies W (fun b => ok0 b ∧ some b ≠ v.ownBlock) h
theorem OwnG.nil (K : KindG α) (e : TypeId) (W : World) (base : Nat) (ok0 : Nat → Prop) : OwnG K e W base ok0 (.slice none 0 0) [] := ⟨World.ownsRow_nil _ _ _ _, fun _ h => absurd h (by simp)⟩
theorem OwnG.made (K : KindG α) (e : TypeId) (w : World) (base : Nat) (ok0 : Nat → Prop) (hb : base ≤ w.heap.size) : OwnG K e (w.alloc (.cells #[] e)) base ok0 (.slice (some ⟨w.heap.size, 0, none⟩) 0 0) [] :=
  ⟨World.ownsRow_made w #[] 0 hb (by unfold maxLen; omega) (by simp), fun _ h => absurd h (by simp)⟩
theorem OwnG.ext (h : OwnG K e W base ok0 v hs) (x : Ext W W') : OwnG K e W' base ok0 v hs :=
  ⟨own_ext h.own x, fun p hp => K.keep _ _ _ _ _ (fun _ _ _ hb hc => ⟨x.cell hc, hb⟩) (h.lies p hp)⟩
theorem OwnG.mono {base' : Nat} (h : OwnG K e W base ok0 v hs) (hb : base' ≤ base) : OwnG K e W base' ok0 v hs := ⟨own_mono h.own hb, h.lies⟩
theorem OwnG.to {ok1 : Nat → Prop} (h : OwnG K e W base ok0 v hs) (ho : ∀ b, ok0 b → ok1 b) : OwnG K e W base ok1 v hs :=
  ⟨h.own, fun p hp => K.keep _ _ _ _ _ (fun _ _ _ hb hc => ⟨hc, ho _ hb.1, hb.2⟩) (h.lies p hp)⟩
theorem OwnG.lt (h : OwnG K e W base ok0 v hs) {g : Nat} (hg : v.ownBlock = some g) : base ≤ g ∧ g < W.heap.size := World.ownsRow.lt h.own g hg
theorem OwnG.form (h : OwnG K e W base ok0 v hs) : ∃ A c, v = .slice A hs.length c := own_form h.own
/-- over a step that leaves v's block as it was -/
theorem OwnG.grown {row : Option Nat} (h : OwnG K e W base ok0 v hs) (hg : W.grownBy W' row) (hne : v.ownBlock = none ∨ v.ownBlock ≠ row) (hr : ∀ b, some b = row → ¬ ok0 b) : OwnG K e W' base ok0 v hs :=
  ⟨h.own.kept hg hne, fun p hp => K.keep _ _ _ _ _ (fun b _ _ hb hc => ⟨hg.cell hc (fun e2 => hr b e2 hb.1), hb⟩) (h.lies p hp)⟩
/-- an element's cells -/
theorem OwnG.cellAt {A : Option Addr} {n c : Nat} (h : OwnG K e W base ok0 (.slice A n c) hs) {i : Nat} (hi : i < hs.length) : ∃ g, A = some ⟨g, 0, none⟩ ∧ base ≤ g ∧ g < W.heap.size ∧ n = hs.length ∧ n ≤ c ∧ ∀ j, j < K.size → W.cell? ⟨g, i * K.size + j, none⟩ = (K.enc hs[i])[j]? ∧ W.frozen? ⟨g, i * K.size + j, none⟩ = false := by
  rcases h.own.2 with ⟨hv, h0⟩ | ⟨g, cap, cur, hv, hb, hh, hc, hm, hcs, htk⟩
  · omega
  · injection hv with h1 h2 h3
    subst h1 h2 h3
    refine ⟨g, rfl, hb, ?_, rfl, hc, fun j hj => ⟨?_, frozen_of_row W g _ cur e hh⟩⟩
    · rcases Nat.lt_or_ge g W.heap.size with h4 | h4
      · exact h4
      · rw [Array.getElem?_eq_none h4] at hh; cases hh
    · have h1 := flat_get K.enc K.size K.len hs i j hi hj
      rw [cell_of_row W g _ cur e (0, 0) hh, ← h1, ← htk, List.getElem?_take, if_pos (by
        have h2 : (i + 1) * K.size ≤ hs.length * K.size := Nat.mul_le_mul_right _ hi
        rw [Nat.add_mul] at h2; omega)]
      simp
theorem flat_set (f : α → List Value) (size : Nat) (hf : ∀ x, (f x).length = size) : ∀ (l : List α) (i j : Nat) (y : α) (u : Value) (hi : i < l.length), j < size → f y = (f l[i]).set j u → (l.set i y).flatMap f = (l.flatMap f).set (i * size + j) u
  | [], i, j, y, u, hi, _, _ => absurd hi (by simp)
  | x :: l, 0, j, y, u, _, hj, h => by
    rw [List.set_cons_zero, List.flatMap_cons, List.flatMap_cons, Nat.zero_mul, Nat.zero_add, List.set_append_left _ _ (by rw [hf]; exact hj)]
    rw [h]; rfl
  | x :: l, i + 1, j, y, u, hi, hj, h => by
    have e2 : (i + 1) * size + j = size + (i * size + j) := by rw [Nat.add_mul]; omega
    rw [List.set_cons_succ, List.flatMap_cons, List.flatMap_cons, List.set_append_right _ _ (by rw [hf]; omega), hf, e2, Nat.add_sub_cancel_left]
    rw [flat_set f size hf l i j y u (by simpa using hi) hj h]
/-- one cell of an element stored -/
theorem OwnG.stored {g n c : Nat} (h : OwnG K e W base ok0 (.slice (some ⟨g, 0, none⟩) n c) hs) {i j : Nat} (hi : i < hs.length) (hj : j < K.size) (y : α) (u : Value) (hy : K.enc y = (K.enc hs[i]).set j u) (hl : K.lies W (fun b => ok0 b ∧ some b ≠ some g) y) :
    OwnG K e (W.setCell ⟨g, i * K.size + j, none⟩ u) base ok0 (.slice (some ⟨g, 0, none⟩) n c) (hs.set i y) ∧ W.grownBy (W.setCell ⟨g, i * K.size + j, none⟩ u) (some g) := by
  obtain ⟨A, c', hv⟩ := own_form h.own
  injection hv with h1 h2 h3
  subst h2
  obtain ⟨k1, k2⟩ := World.ownsRow.stored h.own (i * K.size + j) u
  refine ⟨⟨?_, fun p hp => ?_⟩, k2⟩
  · rw [List.length_set, flat_set K.enc K.size K.len hs i j y u hi hj hy]; exact k1
  · have hlies : K.lies W (fun b => ok0 b ∧ some b ≠ (Value.slice (some ⟨g, 0, none⟩) hs.length c).ownBlock) p := by
      rcases List.mem_or_eq_of_mem_set hp with hp | hp
      · exact h.lies p hp
      · rw [hp]; exact hl
    exact K.keep _ _ _ _ _ (fun b o x hb hc => ⟨k2.cell hc (fun e2 => hb.2 (by rw [e2]; rfl)), hb⟩) hlies
section
variable {P : Program} {t bytes : Nat}
/-- one element appended: the run -/
theorem run_pushG (T : ElT P t e K.size bytes) (ty : TypeId) {w : World} (w0 : World) (h : OwnG K e w0 base ok0 v hs) (hb : base ≤ w0.heap.size) (x : α) (hx : K.lies w0 (fun b => ok0 b ∧ some b ≠ v.ownBlock) x)
    (hw : w = w0.alloc (.cells (K.enc x).toArray e)) (h63 : hs.length + 1 ≤ 8388608) (hbytes : bytes ≤ 1000000) :
    ∃ v' w', (Builtin.append_ #[t, t] ty #[v, .slice (some ⟨w0.heap.size, 0, none⟩) 1 1]).run P w = .ok v' w' ∧ OwnG K e w' base ok0 v' (hs ++ [x]) ∧ w0.grownBy w' v.ownBlock ∧ (v'.ownBlock = v.ownBlock ∨ v'.ownBlock = some (w0.heap.size + 1)) := by
  obtain ⟨v', w', hr, k1, k2, k3⟩ := run_pushK T ty base w0 v hs.length (hs.flatMap K.enc) (K.enc x) h.own hb hw (K.len x) (K.one x) h63 hbytes
  have hcell : ∀ b o y, (ok0 b ∧ some b ≠ v.ownBlock) → w0.cell? ⟨b, o, none⟩ = some y → w'.cell? ⟨b, o, none⟩ = some y ∧ (ok0 b ∧ some b ≠ v'.ownBlock) := fun b o y hb hc => by
    have hlt : b < w0.heap.size := block_lt_of_cell hc
    refine ⟨k2.cell hc hb.2, hb.1, ?_⟩
    rcases k3 with e2 | e2
    · rw [e2]; exact hb.2
    · rw [e2]
      intro e3
      injection e3 with e3
      omega
  refine ⟨v', w', hr, ⟨by rw [List.length_append, List.flatMap_append]; simpa using k1, fun p hp => ?_⟩, k2, k3⟩
  rcases List.mem_append.1 hp with hp | hp
  · exact K.keep _ _ _ _ _ hcell (h.lies p hp)
  · rw [List.mem_singleton.1 hp]; exact K.keep _ _ _ _ _ hcell hx
theorem own_pushG (T : ElT P t e K.size bytes) {ops : Array Oper} {rest : List Oper} {o : Oper} {a : Act} {Q : Exit → Act → World → Prop} {w : World} (hgd : o.guard = none) (s y : Operand)
    (ho : o.op = .call { callee := .builtin .append, args := #[s, y], argTypes := #[t, t] }) (w0 : World) (hs' : a.eval s = v) (h : OwnG K e w0 base ok0 v hs) (hb : base ≤ w0.heap.size) (x : α) (hx : K.lies w0 (fun b => ok0 b ∧ some b ≠ v.ownBlock) x)
    (hw : w = w0.alloc (.cells (K.enc x).toArray e)) (H : Nat) (hH : w0.heap.size = H) (hy : a.eval y = .slice (some ⟨H, 0, none⟩) 1 1) (h63 : hs.length + 1 ≤ 8388608) (hbytes : bytes ≤ 1000000)
    (hK : ∀ v' w', OwnG K e w' base ok0 v' (hs ++ [x]) → w0.grownBy w' v.ownBlock → (v'.ownBlock = v.ownBlock ∨ v'.ownBlock = some (w0.heap.size + 1)) → wpList P ops Q rest (a.put o.dst v') w') : wpList P ops Q (o :: rest) a w := by
  subst hH
  obtain ⟨v', w', hr, h1, h2, h3⟩ := run_pushG T o.type w0 h hb x hx hw h63 hbytes
  refine wpList_plain hgd fun K2 hK2 => ?_
  unfold Oper.wp execOp
  simp only [ho, resolve, invoke, builtin, Sem.run_bind, Sem.run_pure, Result.andThen_ok, List.map_toArray, List.map_cons, List.map_nil, hs', hy, hr]
  exact hK2 _ _ (hK v' w' h1 h2 h3)
theorem step_pushG (T : ElT P t e K.size bytes) {ops : Array Oper} {o : Oper} {a : Act} {w : World} {K2 : Act → World → Prop} {Q : Exit → Act → World → Prop} {E : Prop} (hg : o.guard = none) (s y : Operand)
    (ho : o.op = .call { callee := .builtin .append, args := #[s, y], argTypes := #[t, t] }) (w0 : World) (hs' : a.eval s = v) (h : OwnG K e w0 base ok0 v hs) (hb : base ≤ w0.heap.size) (x : α) (hx : K.lies w0 (fun b => ok0 b ∧ some b ≠ v.ownBlock) x)
    (hw : w = w0.alloc (.cells (K.enc x).toArray e)) (H : Nat) (hH : w0.heap.size = H) (hy : a.eval y = .slice (some ⟨H, 0, none⟩) 1 1) (h63 : hs.length + 1 ≤ 8388608) (hbytes : bytes ≤ 1000000)
    (hK : ∀ v' w', OwnG K e w' base ok0 v' (hs ++ [x]) → w0.grownBy w' v.ownBlock → (v'.ownBlock = v.ownBlock ∨ v'.ownBlock = some (w0.heap.size + 1)) → K2 (a.put o.dst v') w') : if Region.wanted o (yielded ops a.tmps) = true then Oper.wp P o a w K2 Q else E := by
  subst hH
  obtain ⟨v', w', hr, h1, h2, h3⟩ := run_pushG T o.type w0 h hb x hx hw h63 hbytes
  exact step_append_run' hg s y _ _ ho v _ hs' hy hr (hK v' w' h1 h2 h3)
end
/-- read as a slice: R from the cells and what lies elsewhere -/
theorem OwnG.slice {β : Type} {R : Nat → Nat → β → Prop} (f : α → β) (h : OwnG K e W base ok0 v hs) (hm : hs.length ≤ 140737488355328)
    (hR : ∀ g o x, base ≤ g → (∀ j u, (K.enc x)[j]? = some u → W.cell? ⟨g, o + j, none⟩ = some u) → K.lies W ok0 x → R g o (f x)) : ∃ A c, v = .slice A hs.length c ∧ hs.length ≤ c ∧ SliceR R K.size A (hs.map f) := by
  have hfl : (hs.map K.enc).flatten = hs.flatMap K.enc := by rw [List.flatMap_def]
  have h1 := own_sliceR (l := hs.map f) (R := R) (cs := hs.map K.enc) (size := K.size) (by rw [hfl]; exact h.own) (by simp) (by simp) (fun x hx => by obtain ⟨y, -, rfl⟩ := List.mem_map.1 hx; exact K.len y) (by simpa using hm) (fun g hg _ k hk hk' hcell => by
    have hk2 : k < hs.length := by simpa using hk
    rw [List.getElem_map] at hcell ⊢
    exact hR g _ _ hg hcell (K.keep _ _ _ _ _ (fun _ _ _ hb hc => ⟨hc, hb.1⟩) (h.lies _ (List.getElem_mem hk2))))
  rw [List.length_map] at h1
  exact h1
end Go.Proofs.YtgojggmjajlbpaaGreatDoor

/- THE WALKS over the reference's path, list, valid, Valid. -/
namespace Go.Proofs.YtgojggmjajlbpaaGreatDoor
open Go.RowKit
theorem r4_leaf (k n d : Int) (s : ByteArray) (m : Nat) (A : Option Addr) (c : Nat) (nest : Int) (w : World) (h7 : k ≠ 7) (h8 : k ≠ 8) (hs : s.size ≤ 140737488355328) : Calls Tryz.prog 77 #[.agg #[.int .i64 k, .int .i64 n, .int .i64 d, .string s, .slice A m c], .int .i64 nest] w fun e w' => e = .returned (.bool (leafF k n d s m)) ∧ Ext w w' := by
  by_cases h0 : k = 0
  · subst h0; exact r4_valid0 n d s m A c nest w hs
  by_cases h1 : k = 1
  · subst h1; exact r4_valid1 n d s m A c nest w hs
  by_cases h2 : k = 2
  · subst h2; exact r4_valid2 n d s m A c nest w hs
  by_cases h3 : k = 3
  · subst h3; exact r4_valid3 n d s m A c nest w hs
  by_cases h4 : k = 4
  · subst h4; exact r4_valid4 n d s m A c nest w hs
  by_cases h5 : k = 5
  · subst h5; exact r4_valid5 n d s m A c nest w hs
  by_cases h6 : k = 6
  · subst h6; exact r4_valid6 n d s m A c nest w hs
  exact r4_valido k (by simp only [beq_eq_false_iff_ne]; exact ⟨h0, h1, h2, h3, h4, h5, h6, h7, h8⟩) n d s m A c nest w hs
set_option maxRecDepth 100000 in
set_option maxHeartbeats 3200000 in
theorem r4_path (l : List Val) (ok : Nat → Prop) (A : Option Addr) (c : Nat) (w : World) (hv : Vals w ok A l) (hsz : szL l) : Calls Tryz.prog 99 #[.slice A l.length c] w fun e w' => e = .returned (.bool (pathB l)) ∧ Ext w w' := by
  have hm := hv.len
  have HV := Lib.hid hv
  have HZ := Lib.hid (fun (x : Val) (hx : x ∈ l) => (szV_iff.1 (szL_mem hsz hx)).1)
  clear hv hsz
  by_cases h1 : l.length % 2 = 0
  · have HF := Lib.hid (pathB_odd h1)
    have h1' : ((l.length : Int) % 2) = 0 := by omega
    go_enter Tryz.func99, Tryz.ntmps99
    go_wp2
    go_ret
    exact ⟨ret_bool HF.out.symm, Ext.refl _⟩
  · have h1' : ((l.length : Int) % 2) = 1 := by omega
    by_cases h2 : 25 < l.length
    · have HF := Lib.hid (pathB_long h2)
      go_enter Tryz.func99, Tryz.ntmps99
      go_wp2
      go_ret
      exact ⟨ret_bool HF.out.symm, Ext.refl _⟩
    · have h3 : l.length % 2 = 1 := by omega
      have HY := Lib.hid (fun h => pathB_yes (l := l) h3 (by omega) h)
      have HN := Lib.hid (fun i (h : i < l.length) hg => pathB_no (l := l) h hg)
      have h25 : decide ((25 : Int) < (l.length : Int)) = false := by simp; omega
      clear h1 h2 h3
      go_enter Tryz.func99, Tryz.ntmps99
      go_wp2
      clear h1' h25
      go_loopw [3] (fun u W => ∃ k : Nat, u = .int .i64 k ∧ k ≤ l.length ∧ Hid (∀ j, j < k → goodP l j = true) ∧ Ext w W) (fun u _ => l.length - (intOf u).toNat)
      case atStart => exact ⟨0, rfl, Nat.zero_le _, Lib.hid (fun j hj => absurd hj (Nat.not_lt_zero _)), Ext.refl _⟩
      case round =>
        obtain ⟨k, rfl, hk, hgd, hE⟩ := hrel
        by_cases hlt : k < l.length
        · obtain ⟨b, o, rfl, hc⟩ := HV.out.2 (by omega)
          obtain ⟨-, A', c', h5, -, hv'⟩ := VCells.iff.1 (hc k hlt)
          obtain ⟨d0, d1, d2, d3, d4⟩ := h5.ext hE
          have hm' := hv'.len
          have hsz' := HZ.out l[k] (List.getElem_mem hlt)
          have HS := Lib.hid (fun (h : goodP l k = true) j (hj : j < k + 1) => (if e : j = k then e ▸ h else hgd.out j (by omega) : goodP l j = true))
          have HG := Lib.hid (show goodP l k = (decide (l[k].kind = stepK k) && leafF l[k].kind l[k].n l[k].d l[k].s l[k].l.length) by unfold goodP; rw [getV hlt, leafB_eq])
          have HN' := Lib.hid (HN.out k hlt)
          clear hc h5 hv' HN
          generalize l[k] = x at d0 d1 d2 d3 d4 HG hm' hsz'
          rcases Nat.mod_two_eq_zero_or_one k with hp | hp
          · have hst : stepK k = 5 := by unfold stepK; rw [if_pos hp]
            have hpi : ((k : Int) % 2) = 0 := by omega
            rw [hst] at HG
            clear hp hst
            by_cases hk5 : x.kind = 5
            · rw [hk5] at d0 HG
              have C := fun W => r4_leaf 5 x.n x.d x.s x.l.length A' c' 0 W (by omega) (by omega) hsz'
              generalize leafF 5 x.n x.d x.s x.l.length = q at C HG
              have HC := Lib.hid C
              clear C hk5
              cases q
              · have HF := Lib.hid (HN'.out (by rw [HG.out, Bool.and_false]))
                clear HG
                go_wp2_with (go_at_call 77; ((with_reducible refine (HC.out _).mono ?_); rintro e w' ⟨rfl, hb⟩; have hb' : Ext wr w' := Ext.trans (by with_reducible repeat (first | exact Ext.refl _ | assumption | refine Ext.drew ?_ | refine Ext.drewN ?_ _ | refine Ext.alloc ?_ _)) hb))
                go_ret
                exact ⟨ret_bool HF.out.symm, hE.trans hb'⟩
              · have HT := Lib.hid (HS.out (by rw [HG.out]; rfl))
                clear HG
                go_wp2_with (go_at_call 77; ((with_reducible refine (HC.out _).mono ?_); rintro e w' ⟨rfl, hb⟩; have hb' : Ext wr w' := Ext.trans (by with_reducible repeat (first | exact Ext.refl _ | assumption | refine Ext.drew ?_ | refine Ext.drewN ?_ _ | refine Ext.alloc ?_ _)) hb))
                go_roundw
                case rel => exact ⟨k + 1, by go_num, by omega, HT, hE.trans hb'⟩
                case measure => simp [intOf]; omega
            · have HF := Lib.hid (HN'.out (by rw [HG.out, decide_eq_false hk5]; rfl))
              have hk5' : (x.kind != 5) = true := by simpa using hk5
              clear HG hk5
              go_wp2_with fail
              go_ret
              exact ⟨ret_bool HF.out.symm, hE.trans (by with_reducible repeat (first | exact Ext.refl _ | assumption | refine Ext.drew ?_ | refine Ext.drewN ?_ _ | refine Ext.alloc ?_ _))⟩
          · have hst : stepK k = 6 := by unfold stepK; rw [if_neg (by omega)]
            have hpi : ((k : Int) % 2) = 1 := by omega
            rw [hst] at HG
            clear hp hst
            by_cases hk5 : x.kind = 6
            · rw [hk5] at d0 HG
              have C := fun W => r4_leaf 6 x.n x.d x.s x.l.length A' c' 0 W (by omega) (by omega) hsz'
              generalize leafF 6 x.n x.d x.s x.l.length = q at C HG
              have HC := Lib.hid C
              clear C hk5
              cases q
              · have HF := Lib.hid (HN'.out (by rw [HG.out, Bool.and_false]))
                clear HG
                go_wp2_with (go_at_call 77; ((with_reducible refine (HC.out _).mono ?_); rintro e w' ⟨rfl, hb⟩; have hb' : Ext wr w' := Ext.trans (by with_reducible repeat (first | exact Ext.refl _ | assumption | refine Ext.drew ?_ | refine Ext.drewN ?_ _ | refine Ext.alloc ?_ _)) hb))
                go_ret
                exact ⟨ret_bool HF.out.symm, hE.trans hb'⟩
              · have HT := Lib.hid (HS.out (by rw [HG.out]; rfl))
                clear HG
                go_wp2_with (go_at_call 77; ((with_reducible refine (HC.out _).mono ?_); rintro e w' ⟨rfl, hb⟩; have hb' : Ext wr w' := Ext.trans (by with_reducible repeat (first | exact Ext.refl _ | assumption | refine Ext.drew ?_ | refine Ext.drewN ?_ _ | refine Ext.alloc ?_ _)) hb))
                go_roundw
                case rel => exact ⟨k + 1, by go_num, by omega, HT, hE.trans hb'⟩
                case measure => simp [intOf]; omega
            · have HF := Lib.hid (HN'.out (by rw [HG.out, decide_eq_false hk5]; rfl))
              have hk5' : (x.kind != 6) = true := by simpa using hk5
              clear HG hk5
              go_wp2_with fail
              go_ret
              exact ⟨ret_bool HF.out.symm, hE.trans (by with_reducible repeat (first | exact Ext.refl _ | assumption | refine Ext.drew ?_ | refine Ext.drewN ?_ _ | refine Ext.alloc ?_ _))⟩
        · have hk' : k = l.length := by omega
          have HF := Lib.hid (HY.out (fun j hj => hgd.out j (by omega)))
          go_wp2
          go_ret
          exact ⟨ret_bool HF.out.symm, hE⟩
set_option maxRecDepth 100000 in
set_option maxHeartbeats 1600000 in
theorem r4_valid7 (n d : Int) (s : ByteArray) (l : List Val) (ok : Nat → Prop) (A : Option Addr) (c : Nat) (nest : Int) (w : World) (hv : Vals w ok A l) (hsz : szL l) : Calls Tryz.prog 77 #[.agg #[.int .i64 7, .int .i64 n, .int .i64 d, .string s, .slice A l.length c], .int .i64 nest] w fun e w' => e = .returned (.bool (decide (n = 0) && decide (d = 0) && decide (s.size = 0) && pathB l)) ∧ Ext w w' := by
  obtain ⟨g, w1, hg, hw1, ⟨c0, c1, c2, c3, c4⟩, hx, -⟩ := box5 w 7 n d s A l.length c 56
  have HW1 := Lib.hid hw1
  have HG := Lib.hid hg
  have HC := Lib.hid (fun W (e : Ext w1 W) => r4_path l ok A c W (hv.ext (hx.trans e)) hsz)
  clear hw1 hg hv hsz
  go_enter Tryz.func77, Tryz.ntmps77
  go_upto_region 1 with (fail)
  rw [← HW1.out, ← HG.out]
  clear HW1 HG
  go_wp2_with (first | (go_at_call 96; ((with_reducible refine (r4_bare_ffft _ _ _ _ _ _ _ _).mono ?_); rintro e w' ⟨rfl, hb⟩; have hb1 : Ext w1 w' := hb; replace c0 := hb1.cell c0; replace c1 := hb1.cell c1; replace c2 := hb1.cell c2; replace c3 := hb1.cell c3; replace c4 := hb1.cell c4)) | (go_at_call 99; ((with_reducible refine (HC.out _ hb1).mono ?_); rintro e w' ⟨rfl, hb⟩; have hb2 : Ext _ w' := hb)))
  all_goals
    go_ret
    refine ⟨ret_bool ?_, (by first | exact hx | exact Ext.trans hx (by assumption) | exact Ext.trans hx (Ext.trans hb1 (by assumption)))⟩
    clear c0 c1 c2 c3 c4 HC
    (try simp only [nil_iff] at *)
    unfold bareF at *
    generalize pathB l = q at *
    first | (simp_all; done) | (simp_all; omega)
/-- the reference's valid at values inside which j lists may be nested -/
def ValidAtR (j : Nat) : Prop := ∀ (nest : Int) (v : Val) (ok : Nat → Prop) (A : Option Addr) (c : Nat) (w : World), nest = j → Vals w ok A v.l → szV v →
  Calls Tryz.prog 77 #[.agg #[.int .i64 v.kind, .int .i64 v.n, .int .i64 v.d, .string v.s, .slice A v.l.length c], .int .i64 nest] w fun e w' => e = .returned (.bool (validN j v)) ∧ Ext w w'
theorem r4_list0 (A : Option Addr) (m c : Nat) (w : World) : Calls Tryz.prog 100 #[.slice A m c, .int .i64 0] w fun e w' => e = .returned (.bool false) ∧ Ext w w' := by
  go_enter Tryz.func100, Tryz.ntmps100
  go_wp2
  go_ret
  exact ⟨rfl, Ext.refl _⟩
theorem all_no {j : Nat} {l : List Val} (i : Nat) (hi : i < l.length) (h : validN j l[i] = false) : l.all (validN j) = false := by
  rw [List.all_eq_false]
  exact ⟨_, List.getElem_mem hi, by rw [h]; simp⟩
theorem all_yes {j : Nat} {l : List Val} (h : ∀ i (hi : i < l.length), validN j l[i] = true) : l.all (validN j) = true := by
  rw [List.all_eq_true]
  intro x hx
  obtain ⟨i, hi, rfl⟩ := List.getElem_of_mem hx
  exact h i hi
set_option maxRecDepth 100000 in
set_option maxHeartbeats 3200000 in
theorem r4_list (j : Nat) (ih : ValidAtR j) (nest : Int) (l : List Val) (ok : Nat → Prop) (A : Option Addr) (c : Nat) (w : World) (h1 : 1 ≤ nest) (h9 : nest ≤ 100) (hj : nest - 1 = (j : Int)) (hv : Vals w ok A l) (hsz : szL l) :
    Calls Tryz.prog 100 #[.slice A l.length c, .int .i64 nest] w fun e w' => e = .returned (.bool (decide (l.length ≤ 64) && l.all (validN j))) ∧ Ext w w' := by
  have hm := hv.len
  have HV := Lib.hid hv
  have HJ := Lib.hid hj
  have HZ := Lib.hid (fun (x : Val) (hx : x ∈ l) => szL_mem hsz hx)
  have hlt1 : decide (nest < 1) = false := by simp; omega
  clear hv hj hsz
  by_cases h64 : l.length ≤ 64
  · rw [decide_eq_true h64, Bool.true_and]
    have HY := Lib.hid (fun h => all_yes (j := j) (l := l) h)
    have HB := Lib.hid (fun i (hi : i < l.length) h => all_no (j := j) i hi h)
    obtain ⟨R, hR⟩ : ∃ R, R = l.all (validN j) := ⟨_, rfl⟩
    rw [← hR] at HY HB ⊢
    have h64' : decide ((64 : Int) < (l.length : Int)) = false := by simp; omega
    clear hR h64
    go_enter Tryz.func100, Tryz.ntmps100
    go_wp2
    clear h64' hlt1
    go_loopw [5] (fun u W => ∃ k : Nat, u = .int .i64 k ∧ k ≤ l.length ∧ Hid (∀ i (hi : i < l.length), i < k → validN j l[i] = true) ∧ Ext w W) (fun u _ => l.length - (intOf u).toNat)
    case atStart => exact ⟨0, rfl, Nat.zero_le _, Lib.hid (fun i _ hi => absurd hi (Nat.not_lt_zero _)), Ext.refl _⟩
    case round =>
      obtain ⟨k, rfl, hk, hgd, hE⟩ := hrel
      by_cases hlt : k < l.length
      · obtain ⟨b, o, rfl, hc⟩ := HV.out.2 (by omega)
        obtain ⟨-, A', c', h5, -, hv'⟩ := VCells.iff.1 (hc k hlt)
        obtain ⟨d0, d1, d2, d3, d4⟩ := h5.ext hE
        have HS := Lib.hid (fun (h : validN j l[k] = true) i hi (hj : i < k + 1) => (if e : i = k then (by subst e; exact h) else hgd.out i hi (by omega) : validN j l[i] = true))
        have HB' := Lib.hid (HB.out k hlt)
        have C := fun W (e : Ext wr W) => ih (nest - 1) l[k] ok A' c' W HJ.out (hv'.ext (hE.trans e)) (HZ.out _ (List.getElem_mem hlt))
        clear hc h5 hv' HB
        generalize l[k] = x at d0 d1 d2 d3 d4 HS HB' C
        generalize validN j x = q at C HS HB'
        have HC := Lib.hid C
        clear C
        cases q
        · have HF := Lib.hid (HB'.out rfl)
          go_wp2_with (go_at_call 77; ((with_reducible refine (HC.out _ (by with_reducible repeat (first | exact Ext.refl _ | assumption | refine Ext.drew ?_ | refine Ext.drewN ?_ _ | refine Ext.alloc ?_ _))).mono ?_); rintro e w' ⟨rfl, hb⟩; have hb' : Ext wr w' := Ext.trans (by with_reducible repeat (first | exact Ext.refl _ | assumption | refine Ext.drew ?_ | refine Ext.drewN ?_ _ | refine Ext.alloc ?_ _)) hb))
          go_ret
          exact ⟨ret_bool HF.out.symm, hE.trans hb'⟩
        · have HT := Lib.hid (HS.out rfl)
          go_wp2_with (go_at_call 77; ((with_reducible refine (HC.out _ (by with_reducible repeat (first | exact Ext.refl _ | assumption | refine Ext.drew ?_ | refine Ext.drewN ?_ _ | refine Ext.alloc ?_ _))).mono ?_); rintro e w' ⟨rfl, hb⟩; have hb' : Ext wr w' := Ext.trans (by with_reducible repeat (first | exact Ext.refl _ | assumption | refine Ext.drew ?_ | refine Ext.drewN ?_ _ | refine Ext.alloc ?_ _)) hb))
          go_roundw
          case rel => exact ⟨k + 1, by go_num, by omega, HT, hE.trans hb'⟩
          case measure => simp [intOf]; omega
      · have hk' : k = l.length := by omega
        have HF := Lib.hid (HY.out (fun i hi => hgd.out i hi (by omega)))
        go_wp2
        go_ret
        exact ⟨ret_bool HF.out.symm, hE⟩
  · rw [decide_eq_false h64]
    go_enter Tryz.func100, Tryz.ntmps100
    go_wp2
    go_ret
    exact ⟨rfl, Ext.refl _⟩
set_option maxRecDepth 100000 in
set_option maxHeartbeats 1600000 in
theorem r4_valid8 (n d : Int) (s : ByteArray) (l : List Val) (ok : Nat → Prop) (A : Option Addr) (c : Nat) (nest : Int) (w : World) (q : Bool) (hv : Vals w ok A l) (hl : ∀ W, Vals W ok A l → Calls Tryz.prog 100 #[.slice A l.length c, .int .i64 nest] W fun e w' => e = .returned (.bool q) ∧ Ext W w') :
    Calls Tryz.prog 77 #[.agg #[.int .i64 8, .int .i64 n, .int .i64 d, .string s, .slice A l.length c], .int .i64 nest] w fun e w' => e = .returned (.bool (decide (n = 0) && decide (d = 0) && decide (s.size = 0) && q)) ∧ Ext w w' := by
  obtain ⟨g, w1, hg, hw1, ⟨c0, c1, c2, c3, c4⟩, hx, -⟩ := box5 w 8 n d s A l.length c 56
  have HW1 := Lib.hid hw1
  have HG := Lib.hid hg
  have HC := Lib.hid (fun W (e : Ext w1 W) => hl W (hv.ext (hx.trans e)))
  clear hw1 hg hv hl
  go_enter Tryz.func77, Tryz.ntmps77
  go_upto_region 1 with (fail)
  rw [← HW1.out, ← HG.out]
  clear HW1 HG
  go_wp2_with (first | (go_at_call 96; ((with_reducible refine (r4_bare_ffft _ _ _ _ _ _ _ _).mono ?_); rintro e w' ⟨rfl, hb⟩; have hb1 : Ext w1 w' := hb; replace c0 := hb1.cell c0; replace c1 := hb1.cell c1; replace c2 := hb1.cell c2; replace c3 := hb1.cell c3; replace c4 := hb1.cell c4)) | (go_at_call 100; ((with_reducible refine (HC.out _ hb1).mono ?_); rintro e w' ⟨rfl, hb⟩; have hb2 : Ext _ w' := hb)))
  all_goals
    go_ret
    refine ⟨ret_bool ?_, (by first | exact hx | exact Ext.trans hx (by assumption) | exact Ext.trans hx (Ext.trans hb1 (by assumption)))⟩
    clear c0 c1 c2 c3 c4 HC
    (try simp only [nil_iff] at *)
    unfold bareF at *
    first | (simp_all; done) | (simp_all; omega)
theorem r4_valid : ∀ j, j ≤ 99 → ValidAtR j
  | 0, _ => fun nest v ok A c w hj hv hs => by
    obtain ⟨k, n, d, s, l⟩ := v
    obtain ⟨hs1, hs2⟩ := szV_iff.1 hs
    simp only [Val.kind, Val.n, Val.d, Val.s, Val.l] at *
    obtain rfl : nest = 0 := by omega
    by_cases h7 : k = 7
    · subst h7
      rw [validN_path rfl]
      exact r4_valid7 n d s l ok A c 0 w hv hs2
    · by_cases h8 : k = 8
      · subst h8
        rw [validN_list0 rfl]
        exact (r4_valid8 n d s l ok A c 0 w false hv (fun W _ => r4_list0 A l.length c W)).mono (fun _ _ h => ⟨h.1.trans (by rw [Bool.and_false]), h.2⟩)
      · rw [validN_leaf (v := .mk k n d s l) h7 h8, leafB_eq]
        exact r4_leaf k n d s l.length A c 0 w h7 h8 hs1
  | j + 1, hj9 => fun nest v ok A c w hj hv hs => by
    have ih := r4_valid j (by omega)
    obtain ⟨k, n, d, s, l⟩ := v
    obtain ⟨hs1, hs2⟩ := szV_iff.1 hs
    simp only [Val.kind, Val.n, Val.d, Val.s, Val.l] at *
    by_cases h7 : k = 7
    · subst h7
      rw [validN_path rfl]
      exact r4_valid7 n d s l ok A c nest w hv hs2
    · by_cases h8 : k = 8
      · subst h8
        rw [listN_eq, Bool.and_assoc]
        exact r4_valid8 n d s l ok A c nest w _ hv (fun W h => r4_list j ih nest l ok A c W (by omega) (by omega) (by omega) h hs2)
      · rw [validN_leaf (v := .mk k n d s l) h7 h8, leafB_eq]
        exact r4_leaf k n d s l.length A c nest w h7 h8 hs1
set_option maxRecDepth 100000 in
theorem r4_Valid (v : Val) (ok : Nat → Prop) (A : Option Addr) (c : Nat) (w : World) (hv : Vals w ok A v.l) (hs : szV v) :
    Calls Tryz.prog 54 #[.agg #[.int .i64 v.kind, .int .i64 v.n, .int .i64 v.d, .string v.s, .slice A v.l.length c]] w fun e w' => e = .returned (.bool (validV v)) ∧ Ext w w' := by
  obtain ⟨g, w1, hg, hw1, ⟨c0, c1, c2, c3, c4⟩, hx, -⟩ := box5 w v.kind v.n v.d v.s A v.l.length c 56
  have C := r4_valid 8 (by omega) 8 v ok A c w1 rfl (hv.ext hx) hs
  rw [show validN 8 v = validV v from rfl] at C
  have HC := Lib.hid C
  have HW1 := Lib.hid hw1
  have HG := Lib.hid hg
  clear hw1 hg hv C hs
  go_enter Tryz.func54, Tryz.ntmps54
  go_upto_region 1 with (fail)
  rw [← HW1.out, ← HG.out]
  clear HW1 HG
  go_wp2_with (go_at_call 77; refine (HC.out).mono ?_; rintro e w' ⟨rfl, hb⟩; have hb' : Ext w1 w' := hb)
  go_ret
  exact ⟨rfl, hx.trans hb'⟩
end Go.Proofs.YtgojggmjajlbpaaGreatDoor
