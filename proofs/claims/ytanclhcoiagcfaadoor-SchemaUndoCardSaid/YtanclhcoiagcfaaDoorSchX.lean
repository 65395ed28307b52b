/- THE WALKS over the reference's guess, whole, and its Parse. -/
import Derived.Test.YtanclhcoiagcfaaDoorSchW
namespace Go.Proofs.YtanclhcoiagcfaaDoor
open Go.RowKit

theorem joinW_le (n : Nat) : ∀ (ws : List (List UInt8)), (∀ w ∈ ws, w.length ≤ n) → (joinW ws).length ≤ ws.length * (n + 1)
  | [], _ => by simp [joinW]
  | [a], h => by have := h a (List.mem_cons_self ..); simp [joinW]; omega
  | a :: b :: r, h => by
    have h1 := h a (List.mem_cons_self ..)
    have h2 := joinW_le n (b :: r) (fun w hw => h w (List.mem_cons_of_mem _ hw))
    simp only [joinW, List.length_append, List.length_cons] at *
    rw [Nat.add_mul, Nat.one_mul]
    omega
theorem wordN_len (n : Int) : (wordN n).length ≤ 20 := by
  unfold wordN; repeat' split
  all_goals simp
theorem headL_len (k : Int) : (headL k).length ≤ 20 := by
  unfold headL; repeat' split
  all_goals simp
theorem starL_len {s : ByteArray} (h : s.size ≠ 0 → nameB s = true) : (starL s.data.toList).length ≤ 20 := by
  unfold starL
  split
  · simp
  · rename_i hn
    exact name_len (h (fun hz => hn (size_zero hz)))
theorem textL_len {r : RuleP} (h : chkR r = 0) : (textL r).length ≤ 84 := by
  obtain ⟨h1, h2, h3, h4, h5, h6, h7, h8, h9⟩ := chkR_ok h
  have ht : ∀ w ∈ headL r.kind :: tailW r, w.length ≤ 20 := by
    intro w hw
    rcases List.mem_cons.1 hw with rfl | hw
    · exact headL_len _
    · unfold tailW at hw
      split at hw
      · rename_i hk
        have hkey : keyK r.kind = true := by unfold keyK; rcases hk with hk | hk <;> rw [hk] <;> rfl
        simp only [List.mem_cons, List.not_mem_nil, or_false] at hw
        rcases hw with rfl | rfl | rfl
        · exact name_len h6
        · exact name_len (h7 hkey)
        · exact wordN_len _
      · split at hw
        · rename_i hkey
          simp only [List.mem_cons, List.not_mem_nil, or_false] at hw
          rcases hw with rfl | rfl
          · exact name_len h6
          · exact name_len (h7 hkey)
        · rename_i hk hkey
          split at hw
          · simp only [List.mem_cons, List.not_mem_nil, or_false] at hw
            rcases hw with rfl | rfl | rfl
            · exact name_len h6
            · exact starL_len h8
            · exact starL_len h9
          · rename_i h6k
            have hkey : keyK r.kind = false := by simpa using hkey
            have hk7 : r.kind = 7 := by
              unfold keyK at hkey; simp only [Bool.and_eq_false_iff, decide_eq_false_iff_not] at hkey; omega
            have hn : 0 ≤ r.n ∧ r.n ≤ 4000 := by
              unfold numB at h3; rw [if_neg hk, if_pos hk7] at h3; simpa using h3
            simp only [List.mem_cons, List.not_mem_nil, or_false] at hw
            rcases hw with rfl | rfl
            · exact name_len h6
            · obtain ⟨u, hu⟩ := Int.eq_ofNat_of_zero_le hn.1
              have hd := decDigits_length 3 u (by omega)
              rw [hu]
              unfold Lib.itoa
              rw [if_neg (by omega)]
              simpa using Nat.le_trans hd (by omega)
  have hl : (headL r.kind :: tailW r).length ≤ 4 := by
    unfold tailW
    repeat' split
    all_goals simp
  have hj := joinW_le 20 _ ht
  unfold textL
  rw [if_pos h]
  have : (headL r.kind :: tailW r).length * 21 ≤ 4 * 21 := Nat.mul_le_mul_right _ hl
  omega

/-- WHAT THE REFERENCE's Parse ANSWERS. -/
theorem parsed_yes {s : ByteArray} {r : RuleP} (h : chkR r = 0) (ht : textL r = s.data.toList) : ParsedR s.data.toList r 0 := .inl ⟨rfl, h, ht⟩
theorem parsed_no {s : ByteArray} (h : ¬ (chkR (guessR (wordsL s)) = 0 ∧ textL (guessR (wordsL s)) = s.data.toList)) : ParsedR s.data.toList zeroR 2 := by
  refine .inr ⟨rfl, rfl, fun r' hr' e => h ?_⟩
  have hl := textL_len hr'
  rw [e] at hl
  have h200 : ¬ 200 < s.size := by simp at hl; omega
  have hw := wordsL_data h200
  rw [← e, pieces_text hr'] at hw
  rw [guessR_all hr' hw]
  exact ⟨hr', e⟩

end Go.Proofs.YtanclhcoiagcfaaDoor
