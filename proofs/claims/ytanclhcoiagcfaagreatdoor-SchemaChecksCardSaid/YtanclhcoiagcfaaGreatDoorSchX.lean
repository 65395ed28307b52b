/- THE WALKS over the reference's guess, whole, and its Parse. -/
import Derived.Test.YtanclhcoiagcfaaGreatDoorSchW
namespace Go.Proofs.YtanclhcoiagcfaaGreatDoor
open Go.RowKit

theorem joinW_le (n : Nat) : ∀ (ws : List (List UInt8)), (∀ w ∈ ws, w.length ≤ n) → (joinW ws).length ≤ ws.length * (n + 1)
  | [], _ => by simp [joinW]
  | [a], h => by have := h a (List.mem_cons_self ..); simp [joinW]; omega
  | a :: b :: r, h => by
    have h1 := h a (List.mem_cons_self ..)
    have h2 := joinW_le n (b :: r) (fun w hw => h w (List.mem_cons_of_mem _ hw))
    simp only [joinW, List.length_append, List.length_cons] at *
    rw [Nat.add_mul, Nat.one_mul]
    omega
theorem wordN_len (n : Int) : (wordN n).length ≤ 20 := by
  unfold wordN; repeat' split
  all_goals simp
theorem headL_len (k : Int) : (headL k).length ≤ 20 := by
  unfold headL; repeat' split
  all_goals simp
theorem starL_len {s : ByteArray} (h : s.size ≠ 0 → nameB s = true) : (starL s.data.toList).length ≤ 20 := by
  unfold starL
  split
  · simp
  · rename_i hn
    exact name_len (h (fun hz => hn (size_zero hz)))
theorem textL_len {r : RuleP} (h : chkR r = 0) : (textL r).length ≤ 84 := by
  obtain ⟨h1, h2, h3, h4, h5, h6, h7, h8, h9⟩ := chkR_ok h
  have ht : ∀ w ∈ headL r.kind :: tailW r, w.length ≤ 20 := by
    intro w hw
    rcases List.mem_cons.1 hw with rfl | hw
    · exact headL_len _
    · unfold tailW at hw
      split at hw
      · rename_i hk
        have hkey : keyK r.kind = true := by unfold keyK; rcases hk with hk | hk <;> rw [hk] <;> rfl
        simp only [List.mem_cons, List.not_mem_nil, or_false] at hw
        rcases hw with rfl | rfl | rfl
        · exact name_len h6
        · exact name_len (h7 hkey)
        · exact wordN_len _
      · split at hw
        · rename_i hkey
          simp only [List.mem_cons, List.not_mem_nil, or_false] at hw
          rcases hw with rfl | rfl
          · exact name_len h6
          · exact name_len (h7 hkey)
        · rename_i hk hkey
          split at hw
          · simp only [List.mem_cons, List.not_mem_nil, or_false] at hw
            rcases hw with rfl | rfl | rfl
            · exact name_len h6
            · exact starL_len h8
            · exact starL_len h9
          · rename_i h6k
            have hkey : keyK r.kind = false := by simpa using hkey
            have hk7 : r.kind = 7 := by
              unfold keyK at hkey; simp only [Bool.and_eq_false_iff, decide_eq_false_iff_not] at hkey; omega
            have hn : 0 ≤ r.n ∧ r.n ≤ 4000 := by
              unfold numB at h3; rw [if_neg hk, if_pos hk7] at h3; simpa using h3
            simp only [List.mem_cons, List.not_mem_nil, or_false] at hw
            rcases hw with rfl | rfl
            · exact name_len h6
            · obtain ⟨u, hu⟩ := Int.eq_ofNat_of_zero_le hn.1
              have hd := decDigits_length 3 u (by omega)
              rw [hu]
              unfold Lib.itoa
              rw [if_neg (by omega)]
              simpa using Nat.le_trans hd (by omega)
  have hl : (headL r.kind :: tailW r).length ≤ 4 := by
    unfold tailW
    repeat' split
    all_goals simp
  have hj := joinW_le 20 _ ht
  unfold textL
  rw [if_pos h]
  have : (headL r.kind :: tailW r).length * 21 ≤ 4 * 21 := Nat.mul_le_mul_right _ hl
  omega

/-- WHAT THE REFERENCE's Parse ANSWERS. -/
theorem parsed_yes {s : ByteArray} {r : RuleP} (h : chkR r = 0) (ht : textL r = s.data.toList) : ParsedR s.data.toList r 0 := .inl ⟨rfl, h, ht⟩
theorem parsed_no {s : ByteArray} (h : ¬ (chkR (guessR (wordsL s)) = 0 ∧ textL (guessR (wordsL s)) = s.data.toList)) : ParsedR s.data.toList zeroR 2 := by
  refine .inr ⟨rfl, rfl, fun r' hr' e => h ?_⟩
  have hl := textL_len hr'
  rw [e] at hl
  have h200 : ¬ 200 < s.size := by simp at hl; omega
  have hw := wordsL_data h200
  rw [← e, pieces_text hr'] at hw
  rw [guessR_all hr' hw]
  exact ⟨hr', e⟩

set_option maxRecDepth 100000 in
set_option maxHeartbeats 1600000 in
theorem r9_guess_z (A : Option Addr) (n c : Nat) (w : World) (hn : n < 3) :
    Calls Tryz.prog 47 #[.slice A n c] w fun e w' => e = .returned (RuleP.val zeroR) ∧ Ext w w' := by
  obtain ⟨g, w1, hg, hw1, hz, hx, hle⟩ := box_zero w
  have hn' : (n : Int) < 3 := by omega
  go_enter Tryz.func47, Tryz.ntmps47
  have HW1 := Lib.hid hw1
  have HG := Lib.hid hg
  clear hw1 hg
  go_upto_region 1 with (fail)
  rw [← HW1.out, ← HG.out]
  clear HW1 HG
  obtain ⟨z0, f0, z1, f1, z2, f2, z3, f3, z4, f4, z5, f5⟩ := id hz
  go_wp2_with fail
  exact bodyPost_ret (v := RuleP.val zeroR) (by simp [results, Tryz.results47, RuleP.val, zeroR, emptyB, go_sem, z0, z1, z2, z3, z4, z5] <;> rfl) rfl ⟨rfl, (by repeat (first | with_reducible exact Ext.refl _ | with_reducible assumption | with_reducible refine Ext.drew ?_ | with_reducible refine Ext.drewN ?_ _ | with_reducible refine Ext.alloc ?_ _ | (with_reducible refine Ext.setCell ?_ (by first | assumption | omega) _)))⟩

theorem r9_guess (l : List ByteArray) (A : Option Addr) (c : Nat) (w : World) (hl : Lies strC 1 w A l) (hlen : l.length ≤ 1000) (hsz : ∀ k, k < l.length → l[k]!.size ≤ 1000000) :
    Calls Tryz.prog 47 #[.slice A l.length c] w fun e w' => e = .returned (RuleP.val (guessR l)) ∧ Ext w w' := by
  by_cases h3 : l.length < 3
  · have e : guessR l = zeroR := by unfold guessR; rw [if_pos h3]
    rw [e]
    exact r9_guess_z A l.length c w h3
  · obtain ⟨b, off, rfl, hc⟩ := lies_at hl (by omega)
    have q0 := hc 0 (by omega)
    have q1 := hc 1 (by omega)
    have q2 := hc 2 (by omega)
    rw [Nat.add_zero] at q0
    have hz2 := hsz 2 (by omega)
    unfold guessR
    rw [if_neg h3]
    by_cases he : l[0]!.data.toList = edgeL
    · by_cases h4 : 4 ≤ l.length
      · rw [if_pos ⟨he, h4⟩]
        have q3 := hc 3 (by omega)
        by_cases hx : l[1]!.data.toList = existsL
        · rw [if_pos hx]
          exact r9_guess_ee b off l.length c _ _ _ _ w hlen q0 q1 q2 q3 h4 (by rw [beq_list]; exact decide_eq_true he) (by rw [beq_list]; exact decide_eq_true hx)
        · rw [if_neg hx]
          by_cases h5 : l.length = 5
          · rw [if_pos h5]
            have q4 := hc 4 (by omega)
            rw [h5]
            exact r9_guess_ek b off c _ _ _ _ _ w q0 q1 q2 q3 q4 (by rw [beq_list]; exact decide_eq_true he) (by rw [beq_list]; exact decide_eq_false hx)
          · rw [if_neg h5]
            exact r9_guess_ez b off l.length c _ _ w hlen q0 q1 h4 (by simp; omega) (by rw [beq_list]; exact decide_eq_true he) (by rw [beq_list]; exact decide_eq_false hx)
      · have hn : l.length = 3 := by omega
        have hu : l[0]!.data.toList ≠ uniqueL := fun e => absurd (he.symm.trans e) (by decide)
        have hx : l[0]!.data.toList ≠ existsL := fun e => absurd (he.symm.trans e) (by decide)
        have hk : l[0]!.data.toList ≠ kindL := fun e => absurd (he.symm.trans e) (by decide)
        have hd : l[0]!.data.toList ≠ endsL := fun e => absurd (he.symm.trans e) (by decide)
        rw [if_neg (fun h => h4 h.2), if_neg hu, if_neg hx, if_neg (fun h => hk h.1), if_neg (fun h => hd h.1), hn]
        exact r9_guess_l2 b off c _ _ _ w q0 q1 q2 hz2 (by rw [beq_list]; exact decide_eq_true he) (by rw [beq_list]; exact decide_eq_false hu) (by rw [beq_list]; exact decide_eq_false hx) (by rw [beq_list]; exact decide_eq_false hk) (by rw [beq_list]; exact decide_eq_false hd)
    · rw [if_neg (fun h => he h.1)]
      by_cases hu : l[0]!.data.toList = uniqueL
      · rw [if_pos hu]
        exact r9_guess_u b off l.length c _ _ _ w hlen q0 q1 q2 (by omega) (by rw [beq_list]; exact decide_eq_false he) (by rw [beq_list]; exact decide_eq_true hu)
      · rw [if_neg hu]
        by_cases hx : l[0]!.data.toList = existsL
        · rw [if_pos hx]
          exact r9_guess_x b off l.length c _ _ _ w hlen q0 q1 q2 (by omega) (by rw [beq_list]; exact decide_eq_false he) (by rw [beq_list]; exact decide_eq_false hu) (by rw [beq_list]; exact decide_eq_true hx)
        · rw [if_neg hx]
          by_cases hk : l[0]!.data.toList = kindL
          · have hd : l[0]!.data.toList ≠ endsL := fun e => absurd (hk.symm.trans e) (by decide)
            by_cases h4 : l.length = 4
            · rw [if_pos ⟨hk, h4⟩]
              have q3 := hc 3 (by omega)
              rw [h4]
              exact r9_guess_k b off c _ _ _ _ w q0 q1 q2 q3 (by rw [beq_list]; exact decide_eq_false he) (by rw [beq_list]; exact decide_eq_false hu) (by rw [beq_list]; exact decide_eq_false hx) (by rw [beq_list]; exact decide_eq_true hk)
            · rw [if_neg (fun h => h4 h.2), if_neg (fun h => hd h.1)]
              exact r9_guess_l3 b off l.length c _ _ _ w hlen q0 q1 q2 (by omega) (by simp; omega) hz2 (by rw [beq_list]; exact decide_eq_false he) (by rw [beq_list]; exact decide_eq_false hu) (by rw [beq_list]; exact decide_eq_false hx) (by rw [beq_list]; exact decide_eq_true hk) (by rw [beq_list]; exact decide_eq_false hd)
          · rw [if_neg (fun h => hk h.1)]
            by_cases hd : l[0]!.data.toList = endsL
            · by_cases h4 : l.length = 4
              · rw [if_pos ⟨hd, h4⟩]
                have q3 := hc 3 (by omega)
                rw [h4]
                exact r9_guess_n b off c _ _ _ _ w q0 q1 q2 q3 (by rw [beq_list]; exact decide_eq_false he) (by rw [beq_list]; exact decide_eq_false hu) (by rw [beq_list]; exact decide_eq_false hx) (by rw [beq_list]; exact decide_eq_false hk) (by rw [beq_list]; exact decide_eq_true hd)
              · rw [if_neg (fun h => h4 h.2)]
                exact r9_guess_l4 b off l.length c _ _ _ w hlen q0 q1 q2 (by omega) (by simp; omega) hz2 (by rw [beq_list]; exact decide_eq_false he) (by rw [beq_list]; exact decide_eq_false hu) (by rw [beq_list]; exact decide_eq_false hx) (by rw [beq_list]; exact decide_eq_false hk) (by rw [beq_list]; exact decide_eq_true hd)
            · rw [if_neg (fun h => hd h.1)]
              exact r9_guess_l1 b off l.length c _ _ _ w hlen q0 q1 q2 (by omega) hz2 (by rw [beq_list]; exact decide_eq_false he) (by rw [beq_list]; exact decide_eq_false hu) (by rw [beq_list]; exact decide_eq_false hx) (by rw [beq_list]; exact decide_eq_false hk) (by rw [beq_list]; exact decide_eq_false hd)

end Go.Proofs.YtanclhcoiagcfaaGreatDoor
