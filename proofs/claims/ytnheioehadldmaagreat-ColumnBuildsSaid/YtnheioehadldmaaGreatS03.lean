/- PARTS OF THE WALKS, joined: FracL, FracM, Ra, LaidW, Name, Gr. -/
import Derived.Test.YtnheioehadldmaaGreatS02
import Derived.Deep.CutBlock
import Derived.Deep.DeepCutAuto
import Derived.Deep.RegionHeld3
import Derived.Test.YtnheioehadldmaaGreatRows
import Derived.ProofKit
import Derived.Deep.Fields
import Derived.OpenShut
import Derived.LaidMore
import Derived.Deep.DeepHandedRow
import Derived.Deep.DeepWitnessRowRef
import Derived.SizedLaws
import Derived.Deep.Slices
import Derived.Lib.SmallJoins
import Derived.Lay
import Derived.Carry
import Derived.MakeChecks
import Derived.Test.YtnheioehadldmaaGreatS01
import Derived.Test.YtnheioehadldmaaGreatS00
/- THE WALKS over package frac: Add. -/
namespace Go.Proofs.YtnheioehadldmaaGreat
open Go.RowKit
theorem below_drew' {B : Nat} {a w : World} (h : Below B a w) : Below B a w.drew := below_drewN' h 1
end Go.Proofs.YtnheioehadldmaaGreat

/- THE WALKS over package frac: Sub, Cmp, Floor. -/
namespace Go.Proofs.YtnheioehadldmaaGreat
open Go.RowKit
/-- what Cmp's frame holds behind its checks -/
def CmpSt (w : World) (A B C D : Int) (V : World) : Prop :=
  Below w.heap.size w V ∧ w.heap.size + 1 < V.heap.size ∧ V.cell? ⟨w.heap.size, 0, none⟩ = some (.int .i64 A) ∧ V.cell? ⟨w.heap.size, 1, none⟩ = some (.int .i64 B) ∧ V.cell? ⟨w.heap.size + 1, 0, none⟩ = some (.int .i64 C) ∧ V.cell? ⟨w.heap.size + 1, 1, none⟩ = some (.int .i64 D)
theorem CmpSt.step {w : World} {A B C D : Int} {V V' : World} (q : CmpSt w A B C D V) (hb : Below V.heap.size V V') : CmpSt w A B C D V' := by
  obtain ⟨q0, q1, q2, q3, q4, q5⟩ := q
  obtain ⟨hc, hf⟩ := bcell hb
  have hs := hb.size
  exact ⟨below_step q0 hb, by omega, (hc _ _ (by omega)).trans q2, (hc _ _ (by omega)).trans q3, (hc _ _ (by omega)).trans q4, (hc _ _ (by omega)).trans q5⟩
theorem CmpSt.drew {w : World} {A B C D : Int} {V : World} (q : CmpSt w A B C D V) : CmpSt w A B C D V.drew := q.step (below_drew' (Below.refl _ _))
end Go.Proofs.YtnheioehadldmaaGreat

/- THE WALKS over the reference's bare, str, and valid at values that are no list and no path. -/
namespace Go.Proofs.YtnheioehadldmaaGreat
open Go.RowKit
mutual
/-- every string in a value is no longer than memory bears -/
def szV : Val → Prop
  | .mk _ _ _ s l => s.size ≤ 140737488355328 ∧ szL l
def szL : List Val → Prop
  | [] => True
  | v :: vs => szV v ∧ szL vs
end
theorem szV_iff {v : Val} : szV v ↔ v.s.size ≤ 140737488355328 ∧ szL v.l := by cases v; rw [szV]; rfl
theorem szL_mem {l : List Val} (h : szL l) {v : Val} (hv : v ∈ l) : szV v := by
  induction l with
  | nil => cases hv
  | cons x l ih =>
    rw [szL] at h
    rcases List.mem_cons.1 hv with e | e
    · rw [e]; exact h.1
    · exact ih h.2 e
def bareF (p q r t : Bool) (n d : Int) (s : ByteArray) (m : Nat) : Bool := (p || decide (n = 0)) && (q || decide (d = 0)) && (r || decide (s.size = 0)) && (t || decide (m = 0))
set_option maxRecDepth 100000 in
set_option maxHeartbeats 1600000 in
theorem r4_bare_ffff (k n d : Int) (s : ByteArray) (A : Option Addr) (m c : Nat) (w : World) : Calls Tryz.prog 125 #[.agg #[.int .i64 k, .int .i64 n, .int .i64 d, .string s, .slice A m c], .bool false, .bool false, .bool false, .bool false] w fun e w' => e = .returned (.bool (bareF false false false false n d s m)) ∧ Ext w w' := by
  obtain ⟨g, w1, hg, hw1, ⟨c0, c1, c2, c3, c4⟩, hx, -⟩ := box5 w k n d s A m c 98
  have HW1 := Lib.hid hw1
  have HG := Lib.hid hg
  clear hw1 hg
  go_enter Tryz.func125, Tryz.ntmps125
  go_upto_region 1 with (fail)
  rw [← HW1.out, ← HG.out]
  clear HW1 HG
  go_wp2_with fail
  all_goals
    go_ret
    refine ⟨ret_bool ?_, hx⟩
    clear c0 c1 c2 c3 c4
    (try simp only [nil_iff] at *)
    unfold bareF
    (try simp only [beq_decI])
    first | (simp_all; done) | (simp_all; omega)
set_option maxRecDepth 100000 in
set_option maxHeartbeats 1600000 in
theorem r4_bare_tfff (k n d : Int) (s : ByteArray) (A : Option Addr) (m c : Nat) (w : World) : Calls Tryz.prog 125 #[.agg #[.int .i64 k, .int .i64 n, .int .i64 d, .string s, .slice A m c], .bool true, .bool false, .bool false, .bool false] w fun e w' => e = .returned (.bool (bareF true false false false n d s m)) ∧ Ext w w' := by
  obtain ⟨g, w1, hg, hw1, ⟨c0, c1, c2, c3, c4⟩, hx, -⟩ := box5 w k n d s A m c 98
  have HW1 := Lib.hid hw1
  have HG := Lib.hid hg
  clear hw1 hg
  go_enter Tryz.func125, Tryz.ntmps125
  go_upto_region 1 with (fail)
  rw [← HW1.out, ← HG.out]
  clear HW1 HG
  go_wp2_with fail
  all_goals
    go_ret
    refine ⟨ret_bool ?_, hx⟩
    clear c0 c1 c2 c3 c4
    (try simp only [nil_iff] at *)
    unfold bareF
    (try simp only [beq_decI])
    first | (simp_all; done) | (simp_all; omega)
set_option maxRecDepth 100000 in
set_option maxHeartbeats 1600000 in
theorem r4_bare_ttff (k n d : Int) (s : ByteArray) (A : Option Addr) (m c : Nat) (w : World) : Calls Tryz.prog 125 #[.agg #[.int .i64 k, .int .i64 n, .int .i64 d, .string s, .slice A m c], .bool true, .bool true, .bool false, .bool false] w fun e w' => e = .returned (.bool (bareF true true false false n d s m)) ∧ Ext w w' := by
  obtain ⟨g, w1, hg, hw1, ⟨c0, c1, c2, c3, c4⟩, hx, -⟩ := box5 w k n d s A m c 98
  have HW1 := Lib.hid hw1
  have HG := Lib.hid hg
  clear hw1 hg
  go_enter Tryz.func125, Tryz.ntmps125
  go_upto_region 1 with (fail)
  rw [← HW1.out, ← HG.out]
  clear HW1 HG
  go_wp2_with fail
  all_goals
    go_ret
    refine ⟨ret_bool ?_, hx⟩
    clear c0 c1 c2 c3 c4
    (try simp only [nil_iff] at *)
    unfold bareF
    (try simp only [beq_decI])
    first | (simp_all; done) | (simp_all; omega)
set_option maxRecDepth 100000 in
set_option maxHeartbeats 1600000 in
theorem r4_bare_fftf (k n d : Int) (s : ByteArray) (A : Option Addr) (m c : Nat) (w : World) : Calls Tryz.prog 125 #[.agg #[.int .i64 k, .int .i64 n, .int .i64 d, .string s, .slice A m c], .bool false, .bool false, .bool true, .bool false] w fun e w' => e = .returned (.bool (bareF false false true false n d s m)) ∧ Ext w w' := by
  obtain ⟨g, w1, hg, hw1, ⟨c0, c1, c2, c3, c4⟩, hx, -⟩ := box5 w k n d s A m c 98
  have HW1 := Lib.hid hw1
  have HG := Lib.hid hg
  clear hw1 hg
  go_enter Tryz.func125, Tryz.ntmps125
  go_upto_region 1 with (fail)
  rw [← HW1.out, ← HG.out]
  clear HW1 HG
  go_wp2_with fail
  all_goals
    go_ret
    refine ⟨ret_bool ?_, hx⟩
    clear c0 c1 c2 c3 c4
    (try simp only [nil_iff] at *)
    unfold bareF
    (try simp only [beq_decI])
    first | (simp_all; done) | (simp_all; omega)
set_option maxRecDepth 100000 in
set_option maxHeartbeats 1600000 in
theorem r4_bare_ffft (k n d : Int) (s : ByteArray) (A : Option Addr) (m c : Nat) (w : World) : Calls Tryz.prog 125 #[.agg #[.int .i64 k, .int .i64 n, .int .i64 d, .string s, .slice A m c], .bool false, .bool false, .bool false, .bool true] w fun e w' => e = .returned (.bool (bareF false false false true n d s m)) ∧ Ext w w' := by
  obtain ⟨g, w1, hg, hw1, ⟨c0, c1, c2, c3, c4⟩, hx, -⟩ := box5 w k n d s A m c 98
  have HW1 := Lib.hid hw1
  have HG := Lib.hid hg
  clear hw1 hg
  go_enter Tryz.func125, Tryz.ntmps125
  go_upto_region 1 with (fail)
  rw [← HW1.out, ← HG.out]
  clear HW1 HG
  go_wp2_with fail
  all_goals
    go_ret
    refine ⟨ret_bool ?_, hx⟩
    clear c0 c1 c2 c3 c4
    (try simp only [nil_iff] at *)
    unfold bareF
    (try simp only [beq_decI])
    first | (simp_all; done) | (simp_all; omega)
theorem get_elem (s : ByteArray) (k : Nat) (h : k < s.size) : s.get! k = s[k] := by
  rw [get_data s k h]; rfl
theorem str_no {s : ByteArray} {k : Nat} (hk : k < s.size) (h : pBad s[k].toNat = true) : strOk s = false := by
  rw [strOk_eq]
  cases hb : bytesOk s
  · exact Bool.and_false _
  · have := (bytesOk_iff s).1 hb k hk
    rw [get_elem s k hk, h] at this; cases this
theorem str_yes {s : ByteArray} (h : ∀ j (h : j < s.size), pBad s[j].toNat = false) : strOk s = decide (s.size ≤ 100) := by
  rw [strOk_eq, (bytesOk_iff s).2 (fun j hj => by rw [get_elem s j hj]; exact h j hj), Bool.and_true]
set_option maxHeartbeats 1600000 in
theorem r4_str (s : ByteArray) (w : World) (hs : s.size ≤ 140737488355328) : Calls Tryz.prog 128 #[.string s] w fun e w' => e = .returned (.bool (strOk s)) ∧ w' = w := by
  have HY := Lib.hid (fun h => str_yes (s := s) h)
  have HN := Lib.hid (fun (k : Nat) (hk : k < s.size) h => str_no (s := s) hk h)
  go_enter Tryz.func128, Tryz.ntmps128
  go_wp2
  go_loop [3] (fun u => ∃ k : Nat, u = .int .i64 k ∧ k ≤ s.size ∧ Hid (∀ j (h : j < s.size), j < k → pBad s[j].toNat = false)) (fun u => s.size - (intOf u).toNat)
  case atStart => exact ⟨0, rfl, Nat.zero_le _, Lib.hid (fun j _ hj => absurd hj (by omega))⟩
  case round =>
    obtain ⟨k, rfl, hk, hA⟩ := hrel
    by_cases hlt : k < s.size
    · have HB := Lib.hid (HN.out k hlt)
      have HS := Lib.hid (fun (h : pBad s[k].toNat = false) j (hj : j < s.size) (hjk : j < k + 1) => (if e : j = k then (by subst e; exact h) else hA.out j hj (by omega) : pBad s[j].toNat = false))
      by_cases h1 : s[k].toNat < 32
      · have HF := Lib.hid (HB.out (by unfold pBad; rw [decide_eq_true h1]; rfl))
        clear HB HS
        go_wp2
        all_goals first | (go_ret; exact ⟨ret_bool HF.out.symm, rfl⟩) | (exfalso; omega)
      · by_cases h2 : 126 < s[k].toNat
        · have HF := Lib.hid (HB.out (by unfold pBad; rw [decide_eq_true h2, Bool.or_true]))
          clear HB HS
          go_wp2
          all_goals first | (go_ret; exact ⟨ret_bool HF.out.symm, rfl⟩) | (exfalso; omega)
        · have HT := Lib.hid (HS.out (by unfold pBad; rw [decide_eq_false h1, decide_eq_false h2]; rfl))
          clear HB HS
          go_wp2
          all_goals first | (go_round; (case rel => exact ⟨k + 1, by go_num, by omega, HT⟩); (case measure => simp [intOf]; omega)) | (exfalso; omega)
    · have HF := Lib.hid (HY.out (fun j hj => hA.out j hj (by omega)))
      by_cases h100 : s.size ≤ 100
      · rw [decide_eq_true h100] at HF
        go_wp2
        go_ret
        exact ⟨ret_bool (by rw [HF.out, decide_eq_true_iff]; omega), rfl⟩
      · rw [decide_eq_false h100] at HF
        go_wp2
        go_ret
        exact ⟨ret_bool (by rw [HF.out, decide_eq_false_iff_not]; omega), rfl⟩
set_option maxRecDepth 100000 in
set_option maxHeartbeats 1600000 in
theorem r4_valid0 (n d : Int) (s : ByteArray) (m : Nat) (A : Option Addr) (c : Nat) (nest : Int) (w : World) (_hs : s.size ≤ 140737488355328) : Calls Tryz.prog 121 #[.agg #[.int .i64 0, .int .i64 n, .int .i64 d, .string s, .slice A m c], .int .i64 nest] w fun e w' => e = .returned (.bool (leafF 0 n d s m)) ∧ Ext w w' := by
  obtain ⟨g, w1, hg, hw1, ⟨c0, c1, c2, c3, c4⟩, hx, -⟩ := box5 w 0 n d s A m c 98
  have HW1 := Lib.hid hw1
  have HG := Lib.hid hg
  clear hw1 hg
  go_enter Tryz.func121, Tryz.ntmps121
  go_upto_region 1 with (fail)
  rw [← HW1.out, ← HG.out]
  clear HW1 HG
  go_wp2_with (go_at_call 125; ((with_reducible refine (r4_bare_ffff _ _ _ _ _ _ _ _).mono ?_); rintro e w' ⟨rfl, hb⟩; have hb1 : Ext w1 w' := hb; replace c0 := hb1.cell c0; replace c1 := hb1.cell c1; replace c2 := hb1.cell c2; replace c3 := hb1.cell c3; replace c4 := hb1.cell c4))
  all_goals
    go_ret
    refine ⟨ret_bool ?_, (by first | exact hx | exact Ext.trans hx (by assumption) | exact Ext.trans hx (Ext.trans hb1 (by assumption)))⟩
    clear c0 c1 c2 c3 c4
    (try simp only [nil_iff] at *)
    unfold leafF
    (try unfold bareF at *)
    skip
    first | (simp_all; done) | (simp_all; omega)
set_option maxRecDepth 100000 in
set_option maxHeartbeats 1600000 in
theorem r4_valid1 (n d : Int) (s : ByteArray) (m : Nat) (A : Option Addr) (c : Nat) (nest : Int) (w : World) (_hs : s.size ≤ 140737488355328) : Calls Tryz.prog 121 #[.agg #[.int .i64 1, .int .i64 n, .int .i64 d, .string s, .slice A m c], .int .i64 nest] w fun e w' => e = .returned (.bool (leafF 1 n d s m)) ∧ Ext w w' := by
  obtain ⟨g, w1, hg, hw1, ⟨c0, c1, c2, c3, c4⟩, hx, -⟩ := box5 w 1 n d s A m c 98
  have HW1 := Lib.hid hw1
  have HG := Lib.hid hg
  clear hw1 hg
  go_enter Tryz.func121, Tryz.ntmps121
  go_upto_region 1 with (fail)
  rw [← HW1.out, ← HG.out]
  clear HW1 HG
  go_wp2_with (go_at_call 125; ((with_reducible refine (r4_bare_tfff _ _ _ _ _ _ _ _).mono ?_); rintro e w' ⟨rfl, hb⟩; have hb1 : Ext w1 w' := hb; replace c0 := hb1.cell c0; replace c1 := hb1.cell c1; replace c2 := hb1.cell c2; replace c3 := hb1.cell c3; replace c4 := hb1.cell c4))
  all_goals
    go_ret
    refine ⟨ret_bool ?_, (by first | exact hx | exact Ext.trans hx (by assumption) | exact Ext.trans hx (Ext.trans hb1 (by assumption)))⟩
    clear c0 c1 c2 c3 c4
    (try simp only [nil_iff] at *)
    unfold leafF
    (try unfold bareF at *)
    (try simp only [beq_decI])
    first | (simp_all; done) | (simp_all; omega)
set_option maxRecDepth 100000 in
set_option maxHeartbeats 1600000 in
theorem r4_valid2 (n d : Int) (s : ByteArray) (m : Nat) (A : Option Addr) (c : Nat) (nest : Int) (w : World) (_hs : s.size ≤ 140737488355328) : Calls Tryz.prog 121 #[.agg #[.int .i64 2, .int .i64 n, .int .i64 d, .string s, .slice A m c], .int .i64 nest] w fun e w' => e = .returned (.bool (leafF 2 n d s m)) ∧ Ext w w' := by
  obtain ⟨g, w1, hg, hw1, ⟨c0, c1, c2, c3, c4⟩, hx, -⟩ := box5 w 2 n d s A m c 98
  have HW1 := Lib.hid hw1
  have HG := Lib.hid hg
  clear hw1 hg
  go_enter Tryz.func121, Tryz.ntmps121
  go_upto_region 1 with (fail)
  rw [← HW1.out, ← HG.out]
  clear HW1 HG
  go_wp2_with (first | (go_at_call 125; ((with_reducible refine (r4_bare_tfff _ _ _ _ _ _ _ _).mono ?_); rintro e w' ⟨rfl, hb⟩; have hb1 : Ext w1 w' := hb; replace c0 := hb1.cell c0; replace c1 := hb1.cell c1; replace c2 := hb1.cell c2; replace c3 := hb1.cell c3; replace c4 := hb1.cell c4)) | (go_at_call 126; refine (ref_In _ _).mono ?_; rintro e w' ⟨rfl, rfl⟩))
  all_goals
    go_ret
    refine ⟨ret_bool ?_, (by first | exact hx | exact Ext.trans hx (by assumption) | exact Ext.trans hx (Ext.trans hb1 (by assumption)))⟩
    clear c0 c1 c2 c3 c4
    (try simp only [nil_iff] at *)
    unfold leafF
    (try unfold bareF at *)
    skip
    first | (simp_all; done) | (simp_all; omega)
set_option maxRecDepth 100000 in
set_option maxHeartbeats 1600000 in
theorem r4_valid3 (n d : Int) (s : ByteArray) (m : Nat) (A : Option Addr) (c : Nat) (nest : Int) (w : World) (_hs : s.size ≤ 140737488355328) : Calls Tryz.prog 121 #[.agg #[.int .i64 3, .int .i64 n, .int .i64 d, .string s, .slice A m c], .int .i64 nest] w fun e w' => e = .returned (.bool (leafF 3 n d s m)) ∧ Ext w w' := by
  obtain ⟨g, w1, hg, hw1, ⟨c0, c1, c2, c3, c4⟩, hx, -⟩ := box5 w 3 n d s A m c 98
  have HW1 := Lib.hid hw1
  have HG := Lib.hid hg
  clear hw1 hg
  go_enter Tryz.func121, Tryz.ntmps121
  go_upto_region 1 with (fail)
  rw [← HW1.out, ← HG.out]
  clear HW1 HG
  go_wp2_with (first | (go_at_call 125; ((with_reducible refine (r4_bare_ttff _ _ _ _ _ _ _ _).mono ?_); rintro e w' ⟨rfl, hb⟩; have hb1 : Ext w1 w' := hb; replace c0 := hb1.cell c0; replace c1 := hb1.cell c1; replace c2 := hb1.cell c2; replace c3 := hb1.cell c3; replace c4 := hb1.cell c4)) | (go_at_call 127; refine (r3_Valid _ _ _).mono ?_; rintro e w' ⟨rfl, hbv⟩; have hb2 : Ext _ w' := hbv))
  all_goals
    go_ret
    refine ⟨ret_bool ?_, (by first | exact hx | exact Ext.trans hx (by assumption) | exact Ext.trans hx (Ext.trans hb1 (by assumption)))⟩
    clear c0 c1 c2 c3 c4
    (try simp only [nil_iff] at *)
    unfold leafF
    (try unfold bareF at *)
    skip
    first | (simp_all; done) | (simp_all; omega)
set_option maxRecDepth 100000 in
set_option maxHeartbeats 1600000 in
theorem r4_valid4 (n d : Int) (s : ByteArray) (m : Nat) (A : Option Addr) (c : Nat) (nest : Int) (w : World) (hs : s.size ≤ 140737488355328) : Calls Tryz.prog 121 #[.agg #[.int .i64 4, .int .i64 n, .int .i64 d, .string s, .slice A m c], .int .i64 nest] w fun e w' => e = .returned (.bool (leafF 4 n d s m)) ∧ Ext w w' := by
  obtain ⟨g, w1, hg, hw1, ⟨c0, c1, c2, c3, c4⟩, hx, -⟩ := box5 w 4 n d s A m c 98
  have HW1 := Lib.hid hw1
  have HG := Lib.hid hg
  clear hw1 hg
  go_enter Tryz.func121, Tryz.ntmps121
  go_upto_region 1 with (fail)
  rw [← HW1.out, ← HG.out]
  clear HW1 HG
  go_wp2_with (first | (go_at_call 125; ((with_reducible refine (r4_bare_fftf _ _ _ _ _ _ _ _).mono ?_); rintro e w' ⟨rfl, hb⟩; have hb1 : Ext w1 w' := hb; replace c0 := hb1.cell c0; replace c1 := hb1.cell c1; replace c2 := hb1.cell c2; replace c3 := hb1.cell c3; replace c4 := hb1.cell c4)) | (go_at_call 128; refine (r4_str _ _ hs).mono ?_; rintro e w' ⟨rfl, rfl⟩))
  all_goals
    go_ret
    refine ⟨ret_bool ?_, (by first | exact hx | exact Ext.trans hx (by assumption) | exact Ext.trans hx (Ext.trans hb1 (by assumption)))⟩
    clear c0 c1 c2 c3 c4
    (try simp only [nil_iff] at *)
    unfold leafF
    (try unfold bareF at *)
    skip
    first | (simp_all; done) | (simp_all; omega)
set_option maxRecDepth 100000 in
set_option maxHeartbeats 1600000 in
theorem r4_valid5 (n d : Int) (s : ByteArray) (m : Nat) (A : Option Addr) (c : Nat) (nest : Int) (w : World) (_hs : s.size ≤ 140737488355328) : Calls Tryz.prog 121 #[.agg #[.int .i64 5, .int .i64 n, .int .i64 d, .string s, .slice A m c], .int .i64 nest] w fun e w' => e = .returned (.bool (leafF 5 n d s m)) ∧ Ext w w' := by
  obtain ⟨g, w1, hg, hw1, ⟨c0, c1, c2, c3, c4⟩, hx, -⟩ := box5 w 5 n d s A m c 98
  have HW1 := Lib.hid hw1
  have HG := Lib.hid hg
  clear hw1 hg
  go_enter Tryz.func121, Tryz.ntmps121
  go_upto_region 1 with (fail)
  rw [← HW1.out, ← HG.out]
  clear HW1 HG
  go_wp2_with (go_at_call 125; ((with_reducible refine (r4_bare_tfff _ _ _ _ _ _ _ _).mono ?_); rintro e w' ⟨rfl, hb⟩; have hb1 : Ext w1 w' := hb; replace c0 := hb1.cell c0; replace c1 := hb1.cell c1; replace c2 := hb1.cell c2; replace c3 := hb1.cell c3; replace c4 := hb1.cell c4))
  all_goals
    go_ret
    refine ⟨ret_bool ?_, (by first | exact hx | exact Ext.trans hx (by assumption) | exact Ext.trans hx (Ext.trans hb1 (by assumption)))⟩
    clear c0 c1 c2 c3 c4
    (try simp only [nil_iff] at *)
    unfold leafF
    (try unfold bareF at *)
    skip
    first | (simp_all; done) | (simp_all; omega)
set_option maxRecDepth 100000 in
set_option maxHeartbeats 1600000 in
theorem r4_valid6 (n d : Int) (s : ByteArray) (m : Nat) (A : Option Addr) (c : Nat) (nest : Int) (w : World) (_hs : s.size ≤ 140737488355328) : Calls Tryz.prog 121 #[.agg #[.int .i64 6, .int .i64 n, .int .i64 d, .string s, .slice A m c], .int .i64 nest] w fun e w' => e = .returned (.bool (leafF 6 n d s m)) ∧ Ext w w' := by
  obtain ⟨g, w1, hg, hw1, ⟨c0, c1, c2, c3, c4⟩, hx, -⟩ := box5 w 6 n d s A m c 98
  have HW1 := Lib.hid hw1
  have HG := Lib.hid hg
  clear hw1 hg
  go_enter Tryz.func121, Tryz.ntmps121
  go_upto_region 1 with (fail)
  rw [← HW1.out, ← HG.out]
  clear HW1 HG
  go_wp2_with (go_at_call 125; ((with_reducible refine (r4_bare_tfff _ _ _ _ _ _ _ _).mono ?_); rintro e w' ⟨rfl, hb⟩; have hb1 : Ext w1 w' := hb; replace c0 := hb1.cell c0; replace c1 := hb1.cell c1; replace c2 := hb1.cell c2; replace c3 := hb1.cell c3; replace c4 := hb1.cell c4))
  all_goals
    go_ret
    refine ⟨ret_bool ?_, (by first | exact hx | exact Ext.trans hx (by assumption) | exact Ext.trans hx (Ext.trans hb1 (by assumption)))⟩
    clear c0 c1 c2 c3 c4
    (try simp only [nil_iff] at *)
    unfold leafF
    (try unfold bareF at *)
    skip
    first | (simp_all; done) | (simp_all; omega)
set_option maxRecDepth 100000 in
set_option maxHeartbeats 1600000 in
theorem r4_valido (k : Int) (hk : (k == 0) = false ∧ (k == 1) = false ∧ (k == 2) = false ∧ (k == 3) = false ∧ (k == 4) = false ∧ (k == 5) = false ∧ (k == 6) = false ∧ (k == 7) = false ∧ (k == 8) = false) (n d : Int) (s : ByteArray) (m : Nat) (A : Option Addr) (c : Nat) (nest : Int) (w : World) (_hs : s.size ≤ 140737488355328) : Calls Tryz.prog 121 #[.agg #[.int .i64 k, .int .i64 n, .int .i64 d, .string s, .slice A m c], .int .i64 nest] w fun e w' => e = .returned (.bool (leafF k n d s m)) ∧ Ext w w' := by
  have hne := other9 hk
  obtain ⟨h0, h1, h2, h3, h4, h5, h6, h7, h8⟩ := hk
  obtain ⟨n0, n1, n2, n3, n4, n5, n6, n7, n8⟩ := hne
  obtain ⟨g, w1, hg, hw1, ⟨c0, c1, c2, c3, c4⟩, hx, -⟩ := box5 w k n d s A m c 98
  have HW1 := Lib.hid hw1
  have HG := Lib.hid hg
  clear hw1 hg
  go_enter Tryz.func121, Tryz.ntmps121
  go_upto_region 1 with (fail)
  rw [← HW1.out, ← HG.out]
  clear HW1 HG
  go_wp2_with fail
  all_goals
    go_ret
    refine ⟨ret_bool ?_, (by first | exact hx | exact Ext.trans hx (by assumption) | exact Ext.trans hx (Ext.trans hb1 (by assumption)))⟩
    clear c0 c1 c2 c3 c4
    (try simp only [nil_iff] at *)
    unfold leafF
    (try unfold bareF at *)
    skip
    first | (simp_all; done) | (simp_all; omega)
end Go.Proofs.YtnheioehadldmaaGreat

/- VALUES, ROWS AND STRINGS THAT COME IN; the last step of a row. -/
namespace Go.Proofs.YtnheioehadldmaaGreat
open Go.ChangeShapes Go.WideShapes Go.ChangeAt Go.RowKit
open Go.ChangeMaps (open_string shut_string)
theorem szL_ofV : ∀ {l : List Val}, (∀ v ∈ l, szV v) → szL l
  | [], _ => by rw [szL]; trivial
  | v :: l, h => by rw [szL]; exact ⟨h v (by simp), szL_ofV (fun x hx => h x (by simp [hx]))⟩
theorem own : ownKnob Tryz.prog.godebug = none := by kernel_rfl
theorem laidOut : laidOutB Tryz.prog = true := by kernel_rfl
theorem cellsVal : Tryz.prog.cellsOf 98 = 5 := by kernel_rfl
theorem cellsInt : Tryz.prog.cellsOf 3 = 1 := by kernel_rfl
theorem cellsStr : Tryz.prog.cellsOf 9 = 1 := by kernel_rfl
theorem cellsVals : Tryz.prog.cellsOf 96 = 1 := by kernel_rfl
theorem cellsStrs : Tryz.prog.cellsOf 51 = 1 := by kernel_rfl
theorem spot_of_cell {w : World} {a : Addr} {v : Value} (h : w.cell? a = some v) : a = ⟨a.block, a.off, none⟩ := by
  obtain ⟨b, o, sp⟩ := a
  cases sp with
  | none => rfl
  | some k =>
    exfalso
    unfold World.cell? at h
    split at h
    · simp at h
    · cases h
theorem add_none (b o i j : Nat) : ((⟨b, o, none⟩ : Addr).add i).add j = ⟨b, o + i + j, none⟩ := by
  unfold Addr.add
  by_cases h : i = 0 <;> by_cases k : j = 0 <;> simp [h, k]
theorem list_of {α : Type} (P : Nat → α → Prop) : ∀ n, (∀ i, i < n → ∃ x, P i x) → ∃ l : List α, l.length = n ∧ ∀ i (h : i < l.length), P i l[i]
  | 0, _ => ⟨[], rfl, fun i h => absurd h (Nat.not_lt_zero _)⟩
  | n + 1, h => by
    obtain ⟨l, hl, hp⟩ := list_of P n (fun i hi => h i (by omega))
    obtain ⟨x, hx⟩ := h n (by omega)
    refine ⟨l ++ [x], by simp [hl], fun i hi => ?_⟩
    rcases Nat.lt_or_ge i l.length with h1 | h1
    · rw [List.getElem_append_left h1]; exact hp i h1
    · have : i = l.length := by simp at hi; omega
      subst this
      rw [List.getElem_append_right (by omega)]
      simpa [hl] using hx
section
variable {H : Type} {enc : TypeId × Value → H} {w : World} {base : Nat} {spare : Nat → Bool} {held : Bool}
theorem weightsAll_mem {P : Program} {e : TypeId} : ∀ {l : List (DataW H)} {d : DataW H}, d ∈ l → ∀ n ∈ d.weights P e, n ∈ DataW.weightsAll P e l
  | d0 :: r, d, h, n, hn => by
    simp only [DataW.weightsAll, List.mem_append]
    rcases List.mem_cons.1 h with rfl | h
    · exact .inl hn
    · exact .inr (weightsAll_mem h n hn)
/-- a slice that reads: each element by what its cells are -/
theorem slice_gen {α : Type} {t e size fuel : Nat} {cs : List Value} {x : DataW H × List MemPlace} (ht : Tryz.prog.underlying t = some (.slice e)) (he : Tryz.prog.cellsOf e = size) (hbe : 0 < Tryz.prog.bytesOf e) (hs : 0 < size) (R : Nat → Nat → α → Prop) (Q : α → Prop)
    (hel : ∀ n cs' (y : DataW H × List MemPlace), fuel = n + 1 → (∀ k ∈ y.1.weights Tryz.prog e, k ≤ reachBytes) → DataW.trod enc Tryz.prog w base spare held n e cs' = some y → ∃ v : α, Q v ∧ ∀ b o, (∀ j u, cs'[j]? = some u → w.cell? ⟨b, o + j, none⟩ = some u) → R b o v)
    (hwt : ∀ k ∈ x.1.weights Tryz.prog t, k ≤ reachBytes) (h : DataW.trod enc Tryz.prog w base spare held fuel t cs = some x) : ∃ (l : List α) (A : Option Addr) (c : Nat), cs = [.slice A l.length c] ∧ l.length ≤ c ∧ SliceR R size A l ∧ ∀ v ∈ l, Q v := by
  rcases DataW.trod_slice ht h with ⟨rfl, -⟩ | ⟨a, len, cap, elems, rest, n, hfu, rfl, hxx, -, hl, hm, hlen, hel2, -, -⟩
  · exact ⟨[], none, 0, rfl, Nat.le_refl _, SliceR.nil _ _ _, fun v hv => absurd hv (by simp)⟩
  · rw [hxx] at hwt
    simp only [DataW.weights, ht, List.mem_cons, List.mem_append, List.length_map] at hwt
    have hlen2 : len ≤ 140737488355328 := by
      have h1 := hwt _ (.inl rfl)
      have h2 : (elems.length + rest.length) * 1 ≤ (elems.length + rest.length) * Tryz.prog.bytesOf e := Nat.mul_le_mul_left _ hbe
      have h3 := reachBytes_lt
      omega
    have H : ∀ i, i < len → ∃ v : α, Q v ∧ R a.block (a.off + i * size) v ∧ a = ⟨a.block, a.off, none⟩ := fun i hi => by
      have h1 := hel2 i hi
      rw [he, List.getElem?_eq_getElem (by omega)] at h1
      obtain ⟨cs', hc, ht'⟩ := Option.bind_eq_some_iff.1 h1
      obtain ⟨v, hq, hr⟩ := hel n cs' _ hfu (fun k hk => hwt k (.inr (.inl (weightsAll_mem (List.mem_map_of_mem (List.getElem_mem _)) k hk)))) ht'
      obtain ⟨-, hlen', hat⟩ := World.cells?_some hc
      have hspot : a = ⟨a.block, a.off, none⟩ := by
        have h1' := hel2 0 (by omega)
        rw [he, List.getElem?_eq_getElem (by omega)] at h1'
        obtain ⟨cs0, hc0, -⟩ := Option.bind_eq_some_iff.1 h1'
        obtain ⟨-, hl0, hat0⟩ := World.cells?_some hc0
        have h2 := hat0 0 hs
        rw [Nat.zero_mul] at h2
        obtain ⟨u, hu⟩ : ∃ u, cs0[0]? = some u := ⟨cs0[0]'(by omega), List.getElem?_eq_getElem (by omega)⟩
        rw [hu] at h2
        exact spot_of_cell (v := u) (by simpa [Addr.add] using h2)
      refine ⟨v, hq, hr _ _ (fun j u hu => ?_), hspot⟩
      have hj : j < size := by have := (List.getElem?_eq_some_iff.1 hu).1; omega
      have h2 := hat j hj
      rw [hspot, add_none, hu] at h2
      exact h2
    obtain ⟨l, hll, hp⟩ := list_of (fun i v => Q v ∧ R a.block (a.off + i * size) v ∧ a = ⟨a.block, a.off, none⟩) len H
    refine ⟨l, some a, cap, by rw [hll], by omega, ⟨by omega, fun hpos => ⟨a.block, a.off, congrArg some (hp 0 hpos).2.2, fun k hk => (hp k hk).2.1⟩⟩, fun v hv => ?_⟩
    obtain ⟨i, hi, rfl⟩ := List.getElem_of_mem hv
    exact (hp i hi).1
theorem five {α : Type} {l : List α} (h : l.length = 5) : ∃ a b c d e, l = [a, b, c, d, e] := by
  match l, h with
  | [a, b, c, d, e], _ => exact ⟨a, b, c, d, e, rfl⟩
theorem two {α : Type} {l : List α} (h : l.length = 2) : ∃ a b, l = [a, b] := by
  match l, h with
  | [a, b], _ => exact ⟨a, b, rfl⟩
theorem bytesVal : 0 < Tryz.prog.bytesOf 98 := of_decide_eq_true (by kernel_rfl)
theorem bytesStr : 0 < Tryz.prog.bytesOf 9 := of_decide_eq_true (by kernel_rfl)
theorem str_small {s : ByteArray} {p : DataW H × List MemPlace} (hx : p = (.lit (.string s.data.toList), [])) (h : ∀ k ∈ p.1.weights Tryz.prog 9, k ≤ reachBytes) : s.size ≤ 140737488355328 := by
  subst hx
  have h1 := h s.data.toList.length (by simp [DataW.weights])
  have h2 := reachBytes_lt
  rw [Array.length_toList] at h1
  have h3 : s.data.size = s.size := rfl
  omega
set_option maxRecDepth 100000 in
/-- values that read, and lists of values -/
theorem open_both : ∀ fuel : Nat,
    (∀ (cs : List Value) (x : DataW H × List MemPlace), (∀ k ∈ x.1.weights Tryz.prog 98, k ≤ reachBytes) → DataW.trod enc Tryz.prog w base spare held fuel 98 cs = some x → ∃ v : Val, szV v ∧ ∀ b o, (∀ j u, cs[j]? = some u → w.cell? ⟨b, o + j, none⟩ = some u) → VCells w (fun _ => True) b o v) ∧
    (∀ (t : TypeId) (cs : List Value) (x : DataW H × List MemPlace), Tryz.prog.underlying t = some (.slice 98) → (∀ k ∈ x.1.weights Tryz.prog t, k ≤ reachBytes) → DataW.trod enc Tryz.prog w base spare held fuel t cs = some x → ∃ (l : List Val) (A : Option Addr) (c : Nat), cs = [.slice A l.length c] ∧ l.length ≤ c ∧ Vals w (fun _ => True) A l ∧ szL l)
  | 0 => ⟨fun cs x _ h => by simp [DataW.trod] at h, fun t cs x _ _ h => by simp [DataW.trod] at h⟩
  | n + 1 => by
    obtain ⟨ih1, ih2⟩ := open_both n
    refine ⟨fun cs x hwt h => ?_, fun t cs x ht hwt h => ?_⟩
    · obtain ⟨xs, m, hm, rfl, hl, hlen, hg⟩ := DataW.trod_struct Tryz.underlying98 h
      obtain rfl : m = n := by omega
      rw [cellsVal] at hl
      obtain ⟨c0, c1, c2, c3, c4, rfl⟩ := five hl
      obtain ⟨y0, y1, y2, y3, y4, rfl⟩ := five (show xs.length = 5 from hlen)
      have g0 : DataW.trod enc Tryz.prog w base spare held m 3 (([c0, c1, c2, c3, c4].drop 0).take (Tryz.prog.cellsOf 3)) = some y0 := hg 0 _ rfl
      rw [cellsInt] at g0
      have g1 : DataW.trod enc Tryz.prog w base spare held m 3 (([c0, c1, c2, c3, c4].drop 1).take (Tryz.prog.cellsOf 3)) = some y1 := hg 1 _ rfl
      rw [cellsInt] at g1
      have g2 : DataW.trod enc Tryz.prog w base spare held m 3 (([c0, c1, c2, c3, c4].drop 2).take (Tryz.prog.cellsOf 3)) = some y2 := hg 2 _ rfl
      rw [cellsInt] at g2
      have g3 : DataW.trod enc Tryz.prog w base spare held m 9 (([c0, c1, c2, c3, c4].drop 3).take (Tryz.prog.cellsOf 9)) = some y3 := hg 3 _ rfl
      rw [cellsStr] at g3
      have g4 : DataW.trod enc Tryz.prog w base spare held m 96 (([c0, c1, c2, c3, c4].drop 4).take (Tryz.prog.cellsOf 96)) = some y4 := hg 4 _ rfl
      rw [cellsVals] at g4
      have hwe : ∀ k ∈ DataW.weightsEach Tryz.prog [3, 3, 3, 9, 96] [y0.1, y1.1, y2.1, y3.1, y4.1], k ≤ reachBytes := fun k hk => hwt k (by
        simp only [DataW.weights, Tryz.underlying98]
        exact hk)
      obtain ⟨k0, e0, -, -⟩ := DataW.trod_int (k := .i64) Tryz.underlying3 g0
      obtain ⟨k1, e1, -, -⟩ := DataW.trod_int (k := .i64) Tryz.underlying3 g1
      obtain ⟨k2, e2, -, -⟩ := DataW.trod_int (k := .i64) Tryz.underlying3 g2
      obtain ⟨s, e3, x3, -⟩ := DataW.trod_string Tryz.underlying9 g3
      have hsz := str_small x3 (fun k hk => hwe k (DataW.weights_mem_each (j := 3) rfl rfl k hk))
      obtain ⟨l, A, c, e4, hlc, hv, hszl⟩ := ih2 _ _ _ Tryz.underlying96 (fun k hk => hwe k (DataW.weights_mem_each (j := 4) rfl rfl k hk)) g4
      cases e0; cases e1; cases e2; cases e3; cases e4
      refine ⟨.mk k0 k1 k2 s l, szV_iff.2 ⟨hsz, hszl⟩, fun b o hc => VCells.iff.2 ⟨trivial, A, c, ⟨hc 0 _ rfl, hc 1 _ rfl, hc 2 _ rfl, hc 3 _ rfl, hc 4 _ rfl⟩, hlc, hv⟩⟩
    · obtain ⟨l, A, c, e, hlc, hv, hq⟩ := slice_gen (α := Val) ht cellsVal bytesVal (by decide) (VCells w (fun _ => True)) szV (fun m cs' y hm hk hy => by
        obtain rfl : m = n := by omega
        exact ih1 cs' y hk hy) hwt h
      exact ⟨l, A, c, e, hlc, hv, szL_ofV hq⟩
/-- a slice of strings that reads -/
theorem open_strs {t : TypeId} {fuel : Nat} {cs : List Value} {x : DataW H × List MemPlace} (ht : Tryz.prog.underlying t = some (.slice 9)) (hwt : ∀ k ∈ x.1.weights Tryz.prog t, k ≤ reachBytes) (h : DataW.trod enc Tryz.prog w base spare held fuel t cs = some x) :
    ∃ (l : List ByteArray) (A : Option Addr) (c : Nat), cs = [.slice A l.length c] ∧ l.length ≤ c ∧ Strs w (fun _ => True) A l ∧ ∀ s ∈ l, s.size ≤ 140737488355328 :=
  slice_gen (α := ByteArray) ht cellsStr bytesStr (by decide) (StrC w (fun _ => True)) (fun s => s.size ≤ 140737488355328) (fun _ cs' y _ hk hy => by
    obtain ⟨s, e, x3, -⟩ := DataW.trod_string Tryz.underlying9 hy
    have hsz := str_small x3 hk
    subst e
    exact ⟨s, hsz, fun b o hc => ⟨trivial, hc 0 _ rfl⟩⟩) hwt h
end
section
variable {H : Type} {enc : TypeId × Value → H} {P : Program}
/-- The row's last step where all that was there stands. -/
theorem post_of_below {f : Func} {s : ChangeSpec} {apart fresh handsOn again : Bool} {W W' : World} {args : Array Value} {v : Value} {ds gs : List (DataW H)} {before pa pv : List MemPlace}
    (hW : DataW.Whole enc P f.params.toList s.vars apart W args.toList ds gs before)
    (hres : ∀ (b : Nat) (sp : Nat → Bool) (hd : Bool), DataW.TrodAll enc P W' b sp hd f.resultTypes.toList (v.resultList f.resultTypes.size) (s.fn H (ds ++ gs)).results [])
    (hargs : ∀ sp : Nat → Bool, (∀ p ∈ before, sp p.block = true) → DataW.TrodAll enc P W' 0 sp true f.params.toList args.toList (s.fn H (ds ++ gs)).args pa)
    (hvars : ∀ sp : Nat → Bool, (∀ p ∈ before, sp p.block = true) → DataW.TrodVars enc P W' sp s.vars (s.fn H (ds ++ gs)).vars pv)
    (hps : before = pa ++ pv) (hb : Below W.heap.size W W')
    (hok : ∀ (j : Nat) (t : TypeId) (r : Value), f.resultTypes[j]? = some t → (v.resultList f.resultTypes.size)[j]? = some r → Value.okWide P W' .any 0 t r) :
    s.post enc P f apart fresh handsOn again W args v W' := by
  have hlt : ∀ p ∈ before, p.block < W.heap.size := fun p hp => hW.lt p hp
  have hold : ∀ p ∈ before, (fun b => decide (b < W.heap.size)) p.block = true := fun p hp => by simpa using hlt p hp
  refine ⟨ds, gs, before, [], pa, pv, hW, hres _ _ _, hargs _ hold, hvars _ hold, World.keptBut_mono (fun p hp => ⟨hp, ?_⟩) (hb.frame (· ∈ before)), fun _ => ?_⟩
  · rw [hps, List.mem_append] at hp
    exact Or.inr hp
  · obtain ⟨_, _, _, _, _, hz, hn⟩ := hW
    refine ⟨hok, _, _, ([] ++ pa) ++ pv, ⟨[] ++ pa, pv, trodAll_append (hargs _ (fun _ _ => rfl)) (hres _ _ _), hvars _ (fun _ _ => rfl), rfl, ?_, ?_⟩, ?_⟩
    · intro b off hp
      have hin : MemPlace.cell b off ∈ before := by rw [hps]; simpa using hp
      rw [hb.frozen (hlt _ hin)]
      exact hz b off hin
    · intro ha
      have := hn ha
      rw [hps] at this
      simpa using this
    · intro p hp _
      rw [hps]
      simpa using hp
end
end Go.Proofs.YtnheioehadldmaaGreat

/- THE WALKS over what a name is: graph.letter, graph.Name, the reference's letter and Name. -/
namespace Go.Proofs.YtnheioehadldmaaGreat
open Go.RowKit
def isLet (c : UInt8) : Bool := (decide (97 ≤ c.toNat) && decide (c.toNat ≤ 122)) || (decide (65 ≤ c.toNat) && decide (c.toNat ≤ 90))
def isWd (c : UInt8) : Bool := isLet c || decide (c.toNat = 95) || (decide (48 ≤ c.toNat) && decide (c.toNat ≤ 57))
def nameL : List UInt8 → Bool
  | [] => false
  | c :: r => decide (r.length ≤ 19) && isLet c && r.all isWd
def nameB (s : ByteArray) : Bool := nameL s.data.toList
theorem size_zero {s : ByteArray} (h : s.size = 0) : s.data.toList = [] := List.eq_nil_of_length_eq_zero (by simpa using h)
theorem size_nz {s : ByteArray} (h : s.size ≠ 0) : s.data.toList ≠ [] := fun e => h (by have := congrArg List.length e; simpa using this)
theorem ba_ext {a b : ByteArray} (h : a.data.toList = b.data.toList) : a = b := ByteArray.ext (Array.toList_inj.1 h)
theorem nameB_iff {s : ByteArray} : nameB s = true ↔ ∃ h : 0 < s.size, s.size ≤ 20 ∧ isLet s[0] = true ∧ ∀ j (h : j < s.size), isWd s[j] = true := by
  have hlen : s.data.toList.length = s.size := by simp
  have hget : ∀ j (h : j < s.size), s.data.toList[j]? = some s[j] := fun j h => List.getElem?_eq_getElem (by simpa using h)
  unfold nameB
  generalize s.data.toList = l at hlen hget
  cases l with
  | nil => simp only [List.length_nil] at hlen; exact ⟨fun h => (by cases h), fun ⟨h, _⟩ => absurd h (by omega)⟩
  | cons c r =>
    simp only [List.length_cons] at hlen
    have h0 : c = s[0] := Option.some.inj (hget 0 (by omega))
    simp only [nameL, Bool.and_eq_true, decide_eq_true_iff, List.all_eq_true]
    constructor
    · rintro ⟨⟨h1, h2⟩, h3⟩
      refine ⟨by omega, by omega, h0 ▸ h2, fun j hj => ?_⟩
      cases j with
      | zero => rw [← h0]; unfold isWd; rw [h2]; rfl
      | succ j =>
        have e := hget (j + 1) hj
        rw [List.getElem?_cons_succ] at e
        exact h3 _ (List.mem_of_getElem? e)
    · rintro ⟨h, h1, h2, h3⟩
      refine ⟨⟨by omega, h0 ▸ h2⟩, fun x hx => ?_⟩
      obtain ⟨j, hj, rfl⟩ := List.getElem_of_mem hx
      have hj2 : j + 1 < s.size := by omega
      have e := hget (j + 1) hj2
      rw [List.getElem?_cons_succ, List.getElem?_eq_getElem hj] at e
      rw [Option.some.inj e]
      exact h3 (j + 1) hj2
theorem nameB_no {s : ByteArray} (h : ¬ ∃ h : 0 < s.size, s.size ≤ 20 ∧ isLet s[0] = true ∧ ∀ j (h : j < s.size), isWd s[j] = true) : nameB s = false := by
  cases hb : nameB s
  · rfl
  · exact absurd (nameB_iff.1 hb) h
theorem isLet_iff {c : UInt8} : isLet c = true ↔ (97 ≤ c.toNat ∧ c.toNat ≤ 122) ∨ (65 ≤ c.toNat ∧ c.toNat ≤ 90) := by
  unfold isLet; simp
theorem isWd_iff {c : UInt8} : isWd c = true ↔ isLet c = true ∨ c.toNat = 95 ∨ (48 ≤ c.toNat ∧ c.toNat ≤ 57) := by
  unfold isWd; simp [or_assoc]
theorem g_letter (c : UInt8) (w : World) : Calls Tryz.prog 49 #[.int .u8 (c.toNat : Int)] w fun e w' => e = .returned (.bool (isLet c)) ∧ w' = w := by
  go_enter Tryz.func49, Tryz.ntmps49
  go_wp2
  all_goals
    go_ret
    refine ⟨ret_bool ?_, rfl⟩
    rw [Bool.eq_iff_iff, isLet_iff]
    simp
    try omega
theorem name_step {s : ByteArray} {k : Nat} (h : ∀ j (h : j < s.size), j < k → isWd s[j] = true) (hk : k < s.size) (hw : isWd s[k] = true) : ∀ j (h : j < s.size), j < k + 1 → isWd s[j] = true := by
  intro j hj hjk
  by_cases e : j = k
  · subst e; exact hw
  · exact h j hj (by omega)
set_option maxHeartbeats 1600000 in
theorem g_Name (s : ByteArray) (w : World) : Calls Tryz.prog 21 #[.string s] w fun e w' => e = .returned (.bool (nameB s)) ∧ w' = w := by
  by_cases h0 : s.size = 0
  · have HN := Lib.hid (nameB_no (s := s) (fun ⟨h, _⟩ => absurd h (by omega)))
    have he : s = ByteArray.empty := ba_ext (size_zero h0)
    subst he
    go_enter Tryz.func21, Tryz.ntmps21
    go_wp2
    go_ret
    exact ⟨ret_bool HN.out.symm, rfl⟩
  · have hne : (s.toList == ([] : List UInt8)) = false := by rw [ByteArray.toList_eq]; exact beq_eq_false_iff_ne.2 (size_nz h0)
    have h0' : 0 < s.size := by omega
    have HL := Lib.hid (fun w => g_letter s[0] w)
    by_cases h20 : s.size ≤ 20
    · cases hL : isLet s[0]
      · have HN := Lib.hid (nameB_no (s := s) (fun ⟨_, _, h, _⟩ => by rw [hL] at h; cases h))
        go_enter Tryz.func21, Tryz.ntmps21
        go_wp2_with (go_at_call 49; refine (HL.out _).mono ?_; rintro e w' ⟨rfl, rfl⟩; rw [hL])
        all_goals
          go_ret
          exact ⟨ret_bool HN.out.symm, rfl⟩
      · have HY := Lib.hid (fun h : ∀ j (h : j < s.size), isWd s[j] = true => nameB_iff.2 ⟨h0', h20, hL, h⟩)
        have HNO := Lib.hid (fun (k : Nat) (hk : k < s.size) (h : isWd s[k] = false) => nameB_no (s := s) (fun ⟨_, _, _, h'⟩ => by rw [h' k hk] at h; cases h))
        go_enter Tryz.func21, Tryz.ntmps21
        go_wp2_with (go_at_call 49; refine (HL.out _).mono ?_; rintro e w' ⟨rfl, rfl⟩; rw [hL])
        go_loop [19] (fun u => ∃ k : Nat, u = .int .i64 k ∧ k ≤ s.size ∧ Hid (∀ j (h : j < s.size), j < k → isWd s[j] = true)) (fun u => s.size - (intOf u).toNat)
        case atStart => exact ⟨0, rfl, Nat.zero_le _, Lib.hid (fun j _ hj => absurd hj (by omega))⟩
        case round =>
          obtain ⟨k, rfl, hk, hA⟩ := hrel
          by_cases hlt : k < s.size
          · have HLk := Lib.hid (fun w => g_letter s[k] w)
            cases hW : isWd s[k]
            · have HN := Lib.hid (HNO.out k hlt hW)
              have hW2 := hW
              rw [Bool.eq_false_iff, ne_eq, isWd_iff, not_or, not_or] at hW2
              obtain ⟨q1, q2, q3⟩ := hW2
              have q1 : isLet s[k] = false := by simpa using q1
              have c95 : ((s[k].toNat : Int) != 95) = true := by simp; omega
              by_cases h48 : s[k].toNat < 48
              · go_wp2_with (go_at_call 49; refine (HLk.out _).mono ?_; rintro e w' ⟨rfl, rfl⟩; rw [q1])
                go_ret
                exact ⟨ret_bool HN.out.symm, rfl⟩
              · have h57 : 57 < s[k].toNat := by omega
                go_wp2_with (go_at_call 49; refine (HLk.out _).mono ?_; rintro e w' ⟨rfl, rfl⟩; rw [q1])
                go_ret
                exact ⟨ret_bool HN.out.symm, rfl⟩
            · have HS := Lib.hid (name_step hA.out hlt hW)
              cases q1 : isLet s[k]
              · have hW2 := hW
                rw [isWd_iff, q1] at hW2
                have hW2 : s[k].toNat = 95 ∨ (48 ≤ s[k].toNat ∧ s[k].toNat ≤ 57) := hW2.resolve_left (by simp)
                rcases hW2 with h95 | ⟨h48, h57⟩
                · have c95 : ((s[k].toNat : Int) != 95) = false := by simp [h95]
                  have h48 : ¬ s[k].toNat < 48 := by omega
                  have h57 : 57 < s[k].toNat := by omega
                  clear h95
                  go_wp2_with (go_at_call 49; refine (HLk.out _).mono ?_; rintro e w' ⟨rfl, rfl⟩; rw [q1])
                  go_round
                  case rel => exact ⟨k + 1, by go_num, by omega, HS⟩
                  case measure => simp [intOf]; omega
                · go_wp2_with (go_at_call 49; refine (HLk.out _).mono ?_; rintro e w' ⟨rfl, rfl⟩; rw [q1])
                  go_round
                  case rel => exact ⟨k + 1, by go_num, by omega, HS⟩
                  case measure => simp [intOf]; omega
              · go_wp2_with (go_at_call 49; refine (HLk.out _).mono ?_; rintro e w' ⟨rfl, rfl⟩; rw [q1])
                go_round
                case rel => exact ⟨k + 1, by go_num, by omega, HS⟩
                case measure => simp [intOf]; omega
          · have hk' : k = s.size := by omega
            have HN := Lib.hid (HY.out (fun j hj => hA.out j hj (by omega)))
            go_wp2
            go_ret
            exact ⟨ret_bool HN.out.symm, rfl⟩
    · have HN := Lib.hid (nameB_no (s := s) (fun ⟨_, h, _⟩ => absurd h h20))
      go_enter Tryz.func21, Tryz.ntmps21
      go_wp2_with (go_at_call 49; refine (HL.out _).mono ?_; rintro e w' ⟨rfl, rfl⟩)
      go_ret
      exact ⟨ret_bool HN.out.symm, rfl⟩
theorem r7_letter (c : UInt8) (w : World) : Calls Tryz.prog 57 #[.int .u8 (c.toNat : Int)] w fun e w' => e = .returned (.bool (isLet c)) ∧ w' = w := by
  go_enter Tryz.func57, Tryz.ntmps57
  go_wp2
  all_goals
    go_ret
    refine ⟨ret_bool ?_, rfl⟩
    rw [Bool.eq_iff_iff, isLet_iff]
    simp
    try omega
set_option maxHeartbeats 1600000 in
theorem r7_Name (s : ByteArray) (w : World) : Calls Tryz.prog 25 #[.string s] w fun e w' => e = .returned (.bool (nameB s)) ∧ w' = w := by
  by_cases h0 : s.size = 0
  · have HN := Lib.hid (nameB_no (s := s) (fun ⟨h, _⟩ => absurd h (by omega)))
    have he : s = ByteArray.empty := ba_ext (size_zero h0)
    subst he
    go_enter Tryz.func25, Tryz.ntmps25
    go_wp2
    go_ret
    exact ⟨ret_bool HN.out.symm, rfl⟩
  · have h0' : 0 < s.size := by omega
    have h1' : 1 ≤ s.size := by omega
    have HL := Lib.hid (fun w => r7_letter s[0] w)
    by_cases h20 : s.size ≤ 20
    · cases hL : isLet s[0]
      · have HN := Lib.hid (nameB_no (s := s) (fun ⟨_, _, h, _⟩ => by rw [hL] at h; cases h))
        go_enter Tryz.func25, Tryz.ntmps25
        go_wp2_with (go_at_call 57; refine (HL.out _).mono ?_; rintro e w' ⟨rfl, rfl⟩; rw [hL])
        all_goals
          go_ret
          exact ⟨ret_bool HN.out.symm, rfl⟩
      · have HY := Lib.hid (fun h : ∀ j (h : j < s.size), isWd s[j] = true => nameB_iff.2 ⟨h0', h20, hL, h⟩)
        have HNO := Lib.hid (fun (k : Nat) (hk : k < s.size) (h : isWd s[k] = false) => nameB_no (s := s) (fun ⟨_, _, _, h'⟩ => by rw [h' k hk] at h; cases h))
        have H1 := Lib.hid (fun j (h : j < s.size) (hj : j < 1) => (by have : j = 0 := by omega
                                                                       subst this; exact isWd_iff.2 (.inl hL) : isWd s[j] = true))
        go_enter Tryz.func25, Tryz.ntmps25
        go_wp2_with (go_at_call 57; refine (HL.out _).mono ?_; rintro e w' ⟨rfl, rfl⟩; rw [hL])
        go_loop [3] (fun u => ∃ k : Nat, u = .int .i64 k ∧ k ≤ s.size ∧ Hid (∀ j (h : j < s.size), j < k → isWd s[j] = true)) (fun u => s.size - (intOf u).toNat)
        case atStart => exact ⟨1, rfl, h1', H1⟩
        case round =>
          obtain ⟨k, rfl, hk, hA⟩ := hrel
          by_cases hlt : k < s.size
          · have HLk := Lib.hid (fun w => r7_letter s[k] w)
            cases hW : isWd s[k]
            · have HN := Lib.hid (HNO.out k hlt hW)
              have hW2 := hW
              rw [Bool.eq_false_iff, ne_eq, isWd_iff, not_or, not_or] at hW2
              obtain ⟨q1, q2, q3⟩ := hW2
              have q1 : isLet s[k] = false := by simpa using q1
              have c95 : ((s[k].toNat : Int) != 95) = true := by simp; omega
              by_cases h48 : s[k].toNat < 48
              · go_wp2_with (go_at_call 57; refine (HLk.out _).mono ?_; rintro e w' ⟨rfl, rfl⟩; rw [q1])
                go_ret
                exact ⟨ret_bool HN.out.symm, rfl⟩
              · have h57 : 57 < s[k].toNat := by omega
                go_wp2_with (go_at_call 57; refine (HLk.out _).mono ?_; rintro e w' ⟨rfl, rfl⟩; rw [q1])
                go_ret
                exact ⟨ret_bool HN.out.symm, rfl⟩
            · have HS := Lib.hid (name_step hA.out hlt hW)
              cases q1 : isLet s[k]
              · have hW2 := hW
                rw [isWd_iff, q1] at hW2
                have hW2 : s[k].toNat = 95 ∨ (48 ≤ s[k].toNat ∧ s[k].toNat ≤ 57) := hW2.resolve_left (by simp)
                rcases hW2 with h95 | ⟨h48, h57⟩
                · have c95 : ((s[k].toNat : Int) != 95) = false := by simp [h95]
                  have h48 : ¬ s[k].toNat < 48 := by omega
                  have h57 : 57 < s[k].toNat := by omega
                  clear h95
                  go_wp2_with (go_at_call 57; refine (HLk.out _).mono ?_; rintro e w' ⟨rfl, rfl⟩; rw [q1])
                  go_round
                  case rel => exact ⟨k + 1, by go_num, by omega, HS⟩
                  case measure => simp [intOf]; omega
                · have c95 : ((s[k].toNat : Int) != 95) = true := by simp; omega
                  go_wp2_with (go_at_call 57; refine (HLk.out _).mono ?_; rintro e w' ⟨rfl, rfl⟩; rw [q1])
                  go_round
                  case rel => exact ⟨k + 1, by go_num, by omega, HS⟩
                  case measure => simp [intOf]; omega
              · go_wp2_with (go_at_call 57; refine (HLk.out _).mono ?_; rintro e w' ⟨rfl, rfl⟩; rw [q1])
                go_round
                case rel => exact ⟨k + 1, by go_num, by omega, HS⟩
                case measure => simp [intOf]; omega
          · have hk' : k = s.size := by omega
            have HN := Lib.hid (HY.out (fun j hj => hA.out j hj (by omega)))
            go_wp2
            go_ret
            exact ⟨ret_bool HN.out.symm, rfl⟩
    · have HN := Lib.hid (nameB_no (s := s) (fun ⟨_, h, _⟩ => absurd h h20))
      go_enter Tryz.func25, Tryz.ntmps25
      go_wp2_with (go_at_call 57; refine (HL.out _).mono ?_; rintro e w' ⟨rfl, rfl⟩)
      go_ret
      exact ⟨ret_bool HN.out.symm, rfl⟩
end Go.Proofs.YtnheioehadldmaaGreat

/- GRAPHS: plain, what their check says; in memory. -/
namespace Go.Proofs.YtnheioehadldmaaGreat
open Go.RowKit
structure PropG where
  key : ByteArray
  v : Val
structure NodeG where
  id : Int
  labels : List ByteArray
  props : List PropG
structure EdgeG where
  id : Int
  frm : Int
  to_ : Int
  typ : ByteArray
  props : List PropG
structure GraphG where
  nodes : List NodeG
  edges : List EdgeG
  nn : Int
  ne : Int
instance : Inhabited PropG := ⟨⟨ByteArray.empty, default⟩⟩
instance : Inhabited NodeG := ⟨⟨0, [], []⟩⟩
instance : Inhabited EdgeG := ⟨⟨0, 0, 0, ByteArray.empty, []⟩⟩
/-- the first that is no nought among f 0 .. f (n - 1), or nought -/
def firstE (f : Nat → Int) : Nat → Int
  | 0 => 0
  | n + 1 => if firstE f n = 0 then f n else firstE f n
theorem firstE_zero {f : Nat → Int} : ∀ {n : Nat}, (∀ j < n, f j = 0) → firstE f n = 0
  | 0, _ => rfl
  | n + 1, h => by rw [firstE, if_pos (firstE_zero (fun j hj => h j (by omega)))]; exact h n (by omega)
theorem firstE_at {f : Nat → Int} {k : Nat} (h : ∀ j < k, f j = 0) (hk : f k ≠ 0) : ∀ {n : Nat}, k < n → firstE f n = f k
  | 0, h => absurd h (by omega)
  | n + 1, hn => by
    rw [firstE]
    rcases Nat.lt_or_eq_of_le (Nat.le_of_lt_succ hn) with h1 | h1
    · rw [firstE_at h hk h1, if_neg hk]
    · subst h1; rw [firstE_zero h, if_pos rfl]
theorem firstE_all {f : Nat → Int} : ∀ {n : Nat}, firstE f n = 0 → ∀ j < n, f j = 0
  | 0, _, _, h => absurd h (by omega)
  | n + 1, h, j, hj => by
    rw [firstE] at h
    split at h
    · rename_i h1
      rcases Nat.lt_or_eq_of_le (Nat.le_of_lt_succ hj) with h2 | h2
      · exact firstE_all h1 j h2
      · rw [h2]; exact h
    · rename_i h1; exact absurd h h1
/-- strictly increasing -/
def risesB (l : List ByteArray) : Bool := (List.range (l.length - 1)).all (fun i => decide (cmpT l[i]! l[i + 1]! < 0))
theorem risesB_iff {l : List ByteArray} : risesB l = true ↔ ∀ i, i + 1 < l.length → cmpT l[i]! l[i + 1]! < 0 := by
  unfold risesB
  rw [List.all_eq_true]
  exact ⟨fun h i hi => of_decide_eq_true (h i (List.mem_range.2 (by omega))), fun h i hi => decide_eq_true (h i (by have := List.mem_range.1 hi; omega))⟩
theorem risesB_no {l : List ByteArray} {i : Nat} (hi : i + 1 < l.length) (h : ¬ cmpT l[i]! l[i + 1]! < 0) : risesB l = false := by
  cases hb : risesB l
  · rfl
  · exact absurd (risesB_iff.1 hb i hi) h
def plainV (v : Val) : Bool := (decide (v.kind = 1) || decide (v.kind = 2) || decide (v.kind = 4)) && validV v
def keysP (l : List PropG) : List ByteArray := l.map PropG.key
/-- what is wrong with labels and properties -/
def partsE (labels : List ByteArray) (props : List PropG) : Int :=
  if 8 < labels.length ∨ 16 < props.length then 4
  else if labels.all nameB && (keysP props).all nameB then
    if risesB labels && risesB (keysP props) then
      if props.all (fun p => plainV p.v) then 0 else 8
    else 26
  else 6
def nodeE (g : GraphG) (i : Nat) : Int :=
  if 0 < i ∧ g.nodes[i]!.id ≤ g.nodes[i - 1]!.id then 26
  else if g.nodes[i]!.id < 1 ∨ g.nn ≤ g.nodes[i]!.id then 1
  else partsE g.nodes[i]!.labels g.nodes[i]!.props
def hasN (l : List NodeG) (n : Int) : Bool := l.any (fun x => decide (x.id = n))
def edgeE (g : GraphG) (i : Nat) : Int :=
  if 0 < i ∧ g.edges[i]!.id ≤ g.edges[i - 1]!.id then 26
  else if g.edges[i]!.id < 1 ∨ g.ne ≤ g.edges[i]!.id then 1
  else if hasN g.nodes g.edges[i]!.frm && hasN g.nodes g.edges[i]!.to_ then
    if nameB g.edges[i]!.typ then partsE [] g.edges[i]!.props else 6
  else 10
def headE (g : GraphG) : Int :=
  if 2000 < g.nodes.length ∨ 4000 < g.edges.length then 4
  else if g.nn < 1 ∨ 1000001 < g.nn ∨ g.ne < 1 ∨ 1000001 < g.ne then 1 else 0
def nodesE (g : GraphG) : Int := firstE (nodeE g) g.nodes.length
def edgesE (g : GraphG) : Int := firstE (edgeE g) g.edges.length
/-- the first error of a graph -/
def chkG (g : GraphG) : Int := if headE g = 0 then (if nodesE g = 0 then edgesE g else nodesE g) else headE g
/-- nodes without an error have increasing ids -/
theorem nodes_rise {g : GraphG} (h : nodesE g = 0) {i : Nat} (hi : i < g.nodes.length) : (0 < i → g.nodes[i - 1]!.id < g.nodes[i]!.id) ∧ 1 ≤ g.nodes[i]!.id ∧ g.nodes[i]!.id < g.nn := by
  have h1 := firstE_all h i hi
  unfold nodeE at h1
  split at h1
  · cases h1
  · rename_i h2
    split at h1
    · cases h1
    · rename_i h3; exact ⟨fun hp => by omega, by omega, by omega⟩
theorem nodes_lt {g : GraphG} (h : nodesE g = 0) : ∀ {i j : Nat}, i < j → j < g.nodes.length → g.nodes[i]!.id < g.nodes[j]!.id := by
  intro i j hij
  induction j with
  | zero => omega
  | succ j ih =>
    intro hj
    have h1 := (nodes_rise h hj).1 (by omega)
    rw [Nat.add_sub_cancel] at h1
    rcases Nat.lt_or_eq_of_le (Nat.le_of_lt_succ hij) with h2 | h2
    · have := ih h2 (by omega); omega
    · rw [h2]; exact h1
/- in memory -/
section
variable (w : World) (ok : Nat → Prop)
def PropC (b o : Nat) (p : PropG) : Prop := w.cell? ⟨b, o, none⟩ = some (.string p.key) ∧ VCells w ok b (o + 1) p.v
def Props (A : Option Addr) (l : List PropG) : Prop := SliceR (PropC w ok) 6 A l
def NodeC (b o : Nat) (n : NodeG) : Prop := ok b ∧ w.cell? ⟨b, o, none⟩ = some (.int .i64 n.id) ∧ ∃ A c B d, w.cell? ⟨b, o + 1, none⟩ = some (.slice A n.labels.length c) ∧ n.labels.length ≤ c ∧ Strs w ok A n.labels ∧ w.cell? ⟨b, o + 2, none⟩ = some (.slice B n.props.length d) ∧ n.props.length ≤ d ∧ Props w ok B n.props
def EdgeC (b o : Nat) (e : EdgeG) : Prop := ok b ∧ w.cell? ⟨b, o, none⟩ = some (.int .i64 e.id) ∧ w.cell? ⟨b, o + 1, none⟩ = some (.int .i64 e.frm) ∧ w.cell? ⟨b, o + 2, none⟩ = some (.int .i64 e.to_) ∧ w.cell? ⟨b, o + 3, none⟩ = some (.string e.typ) ∧ ∃ B d, w.cell? ⟨b, o + 4, none⟩ = some (.slice B e.props.length d) ∧ e.props.length ≤ d ∧ Props w ok B e.props
def Nodes (A : Option Addr) (l : List NodeG) : Prop := SliceR (NodeC w ok) 3 A l
def Edges (A : Option Addr) (l : List EdgeG) : Prop := SliceR (EdgeC w ok) 5 A l
structure GraphAt (A B : Option Addr) (g : GraphG) : Prop where
  nodes : Nodes w ok A g.nodes
  edges : Edges w ok B g.edges
end
section
variable {w w' : World} {ok ok' : Nat → Prop}
theorem Strs.keep (hk : ∀ b o x, ok b → w.cell? ⟨b, o, none⟩ = some x → w'.cell? ⟨b, o, none⟩ = some x) (ho : ∀ b, ok b → ok' b) {A : Option Addr} {l : List ByteArray} (h : Strs w ok A l) : Strs w' ok' A l := SliceR.mono h (fun _ _ _ _ hx => ⟨ho _ hx.1, hk _ _ _ hx.1 hx.2⟩)
theorem PropC.keep (hk : ∀ b o x, ok b → w.cell? ⟨b, o, none⟩ = some x → w'.cell? ⟨b, o, none⟩ = some x) (ho : ∀ b, ok b → ok' b) {b o : Nat} {p : PropG} (h : PropC w ok b o p) : PropC w' ok' b o p := ⟨hk _ _ _ (VCells.iff.1 h.2).1 h.1, VCells.keep hk ho _ _ _ h.2⟩
theorem Props.keep (hk : ∀ b o x, ok b → w.cell? ⟨b, o, none⟩ = some x → w'.cell? ⟨b, o, none⟩ = some x) (ho : ∀ b, ok b → ok' b) {A : Option Addr} {l : List PropG} (h : Props w ok A l) : Props w' ok' A l := SliceR.mono h (fun _ _ _ _ hx => PropC.keep hk ho hx)
theorem NodeC.keep (hk : ∀ b o x, ok b → w.cell? ⟨b, o, none⟩ = some x → w'.cell? ⟨b, o, none⟩ = some x) (ho : ∀ b, ok b → ok' b) {b o : Nat} {n : NodeG} (h : NodeC w ok b o n) : NodeC w' ok' b o n :=
  let ⟨h0, h1, A, c, B, d, h2, h3, h4, h5, h6, h7⟩ := h
  ⟨ho _ h0, hk _ _ _ h0 h1, A, c, B, d, hk _ _ _ h0 h2, h3, Strs.keep hk ho h4, hk _ _ _ h0 h5, h6, Props.keep hk ho h7⟩
theorem EdgeC.keep (hk : ∀ b o x, ok b → w.cell? ⟨b, o, none⟩ = some x → w'.cell? ⟨b, o, none⟩ = some x) (ho : ∀ b, ok b → ok' b) {b o : Nat} {n : EdgeG} (h : EdgeC w ok b o n) : EdgeC w' ok' b o n :=
  let ⟨h0, h1, h2, h3, h4, B, d, h5, h6, h7⟩ := h
  ⟨ho _ h0, hk _ _ _ h0 h1, hk _ _ _ h0 h2, hk _ _ _ h0 h3, hk _ _ _ h0 h4, B, d, hk _ _ _ h0 h5, h6, Props.keep hk ho h7⟩
theorem GraphAt.keep (hk : ∀ b o x, ok b → w.cell? ⟨b, o, none⟩ = some x → w'.cell? ⟨b, o, none⟩ = some x) (ho : ∀ b, ok b → ok' b) {A B : Option Addr} {g : GraphG} (h : GraphAt w ok A B g) : GraphAt w' ok' A B g :=
  ⟨SliceR.mono h.nodes (fun _ _ _ _ hx => NodeC.keep hk ho hx), SliceR.mono h.edges (fun _ _ _ _ hx => EdgeC.keep hk ho hx)⟩
theorem PropC.ext {b o : Nat} {p : PropG} (h : PropC w ok b o p) (e : Ext w w') : PropC w' ok b o p := PropC.keep (fun _ _ _ _ hc => e.cell hc) (fun _ h => h) h
theorem Props.ext {A : Option Addr} {l : List PropG} (h : Props w ok A l) (e : Ext w w') : Props w' ok A l := Props.keep (fun _ _ _ _ hc => e.cell hc) (fun _ h => h) h
theorem NodeC.ext {b o : Nat} {n : NodeG} (h : NodeC w ok b o n) (e : Ext w w') : NodeC w' ok b o n := NodeC.keep (fun _ _ _ _ hc => e.cell hc) (fun _ h => h) h
theorem EdgeC.ext {b o : Nat} {n : EdgeG} (h : EdgeC w ok b o n) (e : Ext w w') : EdgeC w' ok b o n := EdgeC.keep (fun _ _ _ _ hc => e.cell hc) (fun _ h => h) h
theorem Nodes.ext {A : Option Addr} {l : List NodeG} (h : Nodes w ok A l) (e : Ext w w') : Nodes w' ok A l := SliceR.mono h (fun _ _ _ _ hx => hx.ext e)
theorem Edges.ext {A : Option Addr} {l : List EdgeG} (h : Edges w ok A l) (e : Ext w w') : Edges w' ok A l := SliceR.mono h (fun _ _ _ _ hx => hx.ext e)
theorem GraphAt.ext {A B : Option Addr} {g : GraphG} (h : GraphAt w ok A B g) (e : Ext w w') : GraphAt w' ok A B g := ⟨h.nodes.ext e, h.edges.ext e⟩
theorem GraphAt.to {A B : Option Addr} {g : GraphG} (h : GraphAt w ok A B g) (ho : ∀ b, ok b → ok' b) : GraphAt w ok' A B g := GraphAt.keep (fun _ _ _ _ hc => hc) ho h
end
end Go.Proofs.YtnheioehadldmaaGreat
