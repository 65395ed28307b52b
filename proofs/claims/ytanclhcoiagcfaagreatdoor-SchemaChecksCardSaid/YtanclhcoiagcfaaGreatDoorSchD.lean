/- THE WALKS over the small functions of the reference. -/
import Derived.Test.YtanclhcoiagcfaaGreatDoorSchC
namespace Go.Proofs.YtanclhcoiagcfaaGreatDoor
open Go.RowKit

theorem r9_keyed (k : Int) (w : World) : Calls Tryz.prog 26 #[.int .i64 k] w fun e w' => e = .returned (.bool (keyK k)) ∧ w' = w := by
  go_enter Tryz.func26, Tryz.ntmps26
  go_wp2
  all_goals
    go_ret
    refine ⟨ret_bool ?_, rfl⟩
    rw [Bool.eq_iff_iff]
    unfold keyK
    simp
    try omega

theorem word_cases (l : List UInt8) : l = [98, 111, 111, 108] ∨ (l ≠ [98, 111, 111, 108] ∧ l = [105, 110, 116]) ∨ (l ≠ [98, 111, 111, 108] ∧ l ≠ [105, 110, 116] ∧ l = [115, 116, 114]) ∨ (l ≠ [98, 111, 111, 108] ∧ l ≠ [105, 110, 116] ∧ l ≠ [115, 116, 114]) := by
  by_cases h1 : l = [98, 111, 111, 108]
  · exact .inl h1
  · by_cases h2 : l = [105, 110, 116]
    · exact .inr (.inl ⟨h1, h2⟩)
    · by_cases h3 : l = [115, 116, 114]
      · exact .inr (.inr (.inl ⟨h1, h2, h3⟩))
      · exact .inr (.inr (.inr ⟨h1, h2, h3⟩))

theorem beq_list (s : ByteArray) (l : List UInt8) : (s.toList == l) = decide (s.data.toList = l) := by
  rw [ByteArray.toList_eq, Bool.eq_iff_iff]; simp

theorem r9_word1 (w : World) : Calls Tryz.prog 32 #[.int .i64 1] w fun e w' => e = .returned (.string (wordB 1)) ∧ w' = w := by
  go_enter Tryz.func32, Tryz.ntmps32
  go_wp2
  go_ret
  exact ⟨rfl, rfl⟩

theorem r9_word2 (w : World) : Calls Tryz.prog 32 #[.int .i64 2] w fun e w' => e = .returned (.string (wordB 2)) ∧ w' = w := by
  go_enter Tryz.func32, Tryz.ntmps32
  go_wp2
  go_ret
  exact ⟨rfl, rfl⟩

theorem r9_word4 (w : World) : Calls Tryz.prog 32 #[.int .i64 4] w fun e w' => e = .returned (.string (wordB 4)) ∧ w' = w := by
  go_enter Tryz.func32, Tryz.ntmps32
  go_wp2
  go_ret
  exact ⟨rfl, rfl⟩

theorem r9_word (n : Int) (w : World) (h : n = 1 ∨ n = 2 ∨ n = 4) : Calls Tryz.prog 32 #[.int .i64 n] w fun e w' => e = .returned (.string (wordB n)) ∧ w' = w := by
  rcases h with rfl | rfl | rfl
  · exact r9_word1 w
  · exact r9_word2 w
  · exact r9_word4 w

theorem r9_kind (s : ByteArray) (w : World) : Calls Tryz.prog 65 #[.string s] w fun e w' => e = .returned (.int .i64 (kindW s.data.toList)) ∧ w' = w := by
  have e1 := beq_list s [98, 111, 111, 108]
  have e2 := beq_list s [105, 110, 116]
  have e3 := beq_list s [115, 116, 114]
  rcases word_cases s.data.toList with h | ⟨h1, h⟩ | ⟨h1, h2, h⟩ | ⟨h1, h2, h3⟩
  · have HV := Lib.hid (show kindW s.data.toList = 1 by unfold kindW; rw [if_pos h])
    rw [decide_eq_true h] at e1
    clear e2 e3 h
    go_enter Tryz.func65, Tryz.ntmps65
    go_wp2
    go_ret
    exact ⟨ret_i64 HV.out.symm, rfl⟩
  · have HV := Lib.hid (show kindW s.data.toList = 2 by unfold kindW; rw [if_neg h1, if_pos h])
    rw [decide_eq_false h1] at e1
    rw [decide_eq_true h] at e2
    clear e3 h h1
    go_enter Tryz.func65, Tryz.ntmps65
    go_wp2
    go_ret
    exact ⟨ret_i64 HV.out.symm, rfl⟩
  · have HV := Lib.hid (show kindW s.data.toList = 4 by unfold kindW; rw [if_neg h1, if_neg h2, if_pos h])
    rw [decide_eq_false h1] at e1
    rw [decide_eq_false h2] at e2
    rw [decide_eq_true h] at e3
    clear h h1 h2
    go_enter Tryz.func65, Tryz.ntmps65
    go_wp2
    go_ret
    exact ⟨ret_i64 HV.out.symm, rfl⟩
  · have HV := Lib.hid (show kindW s.data.toList = 0 by unfold kindW; rw [if_neg h1, if_neg h2, if_neg h3])
    rw [decide_eq_false h1] at e1
    rw [decide_eq_false h2] at e2
    rw [decide_eq_false h3] at e3
    clear h1 h2 h3
    go_enter Tryz.func65, Tryz.ntmps65
    go_wp2
    go_ret
    exact ⟨ret_i64 HV.out.symm, rfl⟩

theorem r9_some (s : ByteArray) (w : World) : Calls Tryz.prog 66 #[.string s] w fun e w' => e = .returned (.string (someB s)) ∧ w' = w := by
  by_cases h : s.data.toList = [42]
  · have HV := Lib.hid (show someB s = ByteArray.empty by unfold someB; rw [if_pos h]; rfl)
    have hb : (s.toList == ([42] : List UInt8)) = true := by rw [star_beq, decide_eq_true h]
    clear h
    go_enter Tryz.func66, Tryz.ntmps66
    go_wp2
    go_ret
    exact ⟨ret_text HV.out.symm, rfl⟩
  · have HV := Lib.hid (show someB s = s by unfold someB; rw [if_neg h])
    have hb : (s.toList == ([42] : List UInt8)) = false := by rw [star_beq, decide_eq_false h]
    clear h
    go_enter Tryz.func66, Tryz.ntmps66
    go_wp2
    go_ret
    exact ⟨ret_text HV.out.symm, rfl⟩

def starB (s : ByteArray) : ByteArray := asB (starL s.data.toList)

theorem r9_label (s : ByteArray) (w : World) : Calls Tryz.prog 33 #[.string s] w fun e w' => e = .returned (.string (starB s)) ∧ w' = w := by
  by_cases h : s.data.toList = []
  · have HV := Lib.hid (show starB s = ⟨#[42]⟩ by unfold starB starL; rw [if_pos h]; rfl)
    have hb : (s.toList == ([] : List UInt8)) = true := by rw [beq_list, decide_eq_true h]
    clear h
    go_enter Tryz.func33, Tryz.ntmps33
    go_wp2
    go_ret
    exact ⟨ret_text HV.out.symm, rfl⟩
  · have HV := Lib.hid (show starB s = s by unfold starB starL; rw [if_neg h]; rfl)
    have hb : (s.toList == ([] : List UInt8)) = false := by rw [beq_list, decide_eq_false h]
    clear h
    go_enter Tryz.func33, Tryz.ntmps33
    go_wp2
    go_ret
    exact ⟨ret_text HV.out.symm, rfl⟩

theorem r9_texts (a b : ByteArray) (w : World) : Calls Tryz.prog 59 #[.string a, .string b] w fun e w' => e = .returned (.int .i64 (cmpS a b)) ∧ w' = w := by
  cases h1 : Op.bytesLess a.toList b.toList
  · cases h2 : (a.toList == b.toList)
    · have HV := Lib.hid (show cmpS a b = 1 by unfold cmpS; rw [h1, h2]; rfl)
      go_enter Tryz.func59, Tryz.ntmps59
      go_wp2
      go_ret
      exact ⟨ret_i64 HV.out.symm, rfl⟩
    · have HV := Lib.hid (show cmpS a b = 0 by unfold cmpS; rw [h1, h2]; rfl)
      go_enter Tryz.func59, Tryz.ntmps59
      go_wp2
      go_ret
      exact ⟨ret_i64 HV.out.symm, rfl⟩
  · have HV := Lib.hid (show cmpS a b = -1 by unfold cmpS; rw [h1]; rfl)
    go_enter Tryz.func59, Tryz.ntmps59
    go_wp2
    go_ret
    exact ⟨ret_i64 HV.out.symm, rfl⟩

end Go.Proofs.YtanclhcoiagcfaaGreatDoor
