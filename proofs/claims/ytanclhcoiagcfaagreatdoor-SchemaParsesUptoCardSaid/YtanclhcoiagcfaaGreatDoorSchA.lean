/- THE WALKS over what a name is: graph.letter, graph.Name, the reference's name. -/
import Derived.Test.YtanclhcoiagcfaaGreatDoorNumC
import Derived.Test.YtanclhcoiagcfaaGreatDoorPlainSc
namespace Go.Proofs.YtanclhcoiagcfaaGreatDoor
open Go.RowKit

theorem nameB_iff {s : ByteArray} : nameB s = true ↔ ∃ h : 0 < s.size, s.size ≤ 20 ∧ isLet s[0] = true ∧ ∀ j (h : j < s.size), isWd s[j] = true := by
  have hlen : s.data.toList.length = s.size := by simp
  have hget : ∀ j (h : j < s.size), s.data.toList[j]? = some s[j] := fun j h => List.getElem?_eq_getElem (by simpa using h)
  unfold nameB
  generalize s.data.toList = l at hlen hget
  cases l with
  | nil => simp only [List.length_nil] at hlen; exact ⟨fun h => (by cases h), fun ⟨h, _⟩ => absurd h (by omega)⟩
  | cons c r =>
    simp only [List.length_cons] at hlen
    have h0 : c = s[0] := Option.some.inj (hget 0 (by omega))
    simp only [nameL, Bool.and_eq_true, decide_eq_true_iff, List.all_eq_true]
    constructor
    · rintro ⟨⟨h1, h2⟩, h3⟩
      refine ⟨by omega, by omega, h0 ▸ h2, fun j hj => ?_⟩
      cases j with
      | zero => rw [← h0]; unfold isWd; rw [h2]; rfl
      | succ j =>
        have e := hget (j + 1) hj
        rw [List.getElem?_cons_succ] at e
        exact h3 _ (List.mem_of_getElem? e)
    · rintro ⟨h, h1, h2, h3⟩
      refine ⟨⟨by omega, h0 ▸ h2⟩, fun x hx => ?_⟩
      obtain ⟨j, hj, rfl⟩ := List.getElem_of_mem hx
      have hj2 : j + 1 < s.size := by omega
      have e := hget (j + 1) hj2
      rw [List.getElem?_cons_succ, List.getElem?_eq_getElem hj] at e
      rw [Option.some.inj e]
      exact h3 (j + 1) hj2

theorem nameB_no {s : ByteArray} (h : ¬ ∃ h : 0 < s.size, s.size ≤ 20 ∧ isLet s[0] = true ∧ ∀ j (h : j < s.size), isWd s[j] = true) : nameB s = false := by
  cases hb : nameB s
  · rfl
  · exact absurd (nameB_iff.1 hb) h

theorem isLet_iff {c : UInt8} : isLet c = true ↔ (97 ≤ c.toNat ∧ c.toNat ≤ 122) ∨ (65 ≤ c.toNat ∧ c.toNat ≤ 90) := by
  unfold isLet; simp
theorem isWd_iff {c : UInt8} : isWd c = true ↔ isLet c = true ∨ c.toNat = 95 ∨ (48 ≤ c.toNat ∧ c.toNat ≤ 57) := by
  unfold isWd; simp [or_assoc]

theorem ret_bool {a b : Bool} (h : a = b) : Ending.returned (.bool a) = .returned (.bool b) := by rw [h]

theorem g_letter (c : UInt8) (w : World) : Calls Tryz.prog 49 #[.int .u8 (c.toNat : Int)] w fun e w' => e = .returned (.bool (isLet c)) ∧ w' = w := by
  go_enter Tryz.func49, Tryz.ntmps49
  go_wp2
  all_goals
    go_ret
    refine ⟨ret_bool ?_, rfl⟩
    rw [Bool.eq_iff_iff, isLet_iff]
    simp
    try omega

theorem name_step {s : ByteArray} {k : Nat} (h : ∀ j (h : j < s.size), j < k → isWd s[j] = true) (hk : k < s.size) (hw : isWd s[k] = true) : ∀ j (h : j < s.size), j < k + 1 → isWd s[j] = true := by
  intro j hj hjk
  by_cases e : j = k
  · subst e; exact hw
  · exact h j hj (by omega)

set_option maxHeartbeats 1600000 in
theorem g_Name (s : ByteArray) (w : World) : Calls Tryz.prog 24 #[.string s] w fun e w' => e = .returned (.bool (nameB s)) ∧ w' = w := by
  by_cases h0 : s.size = 0
  · have HN := Lib.hid (nameB_no (s := s) (fun ⟨h, _⟩ => absurd h (by omega)))
    have he : s = ByteArray.empty := ba_ext (size_zero h0)
    subst he
    go_enter Tryz.func24, Tryz.ntmps24
    go_wp2
    go_ret
    exact ⟨ret_bool HN.out.symm, rfl⟩
  · have hne : (s.toList == ([] : List UInt8)) = false := by rw [ByteArray.toList_eq]; exact beq_eq_false_iff_ne.2 (size_nz h0)
    have h0' : 0 < s.size := by omega
    have HL := Lib.hid (fun w => g_letter s[0] w)
    by_cases h20 : s.size ≤ 20
    · cases hL : isLet s[0]
      · have HN := Lib.hid (nameB_no (s := s) (fun ⟨_, _, h, _⟩ => by rw [hL] at h; cases h))
        go_enter Tryz.func24, Tryz.ntmps24
        go_wp2_with (go_at_call 49; refine (HL.out _).mono ?_; rintro e w' ⟨rfl, rfl⟩; rw [hL])
        all_goals
          go_ret
          exact ⟨ret_bool HN.out.symm, rfl⟩
      · have HY := Lib.hid (fun h : ∀ j (h : j < s.size), isWd s[j] = true => nameB_iff.2 ⟨h0', h20, hL, h⟩)
        have HNO := Lib.hid (fun (k : Nat) (hk : k < s.size) (h : isWd s[k] = false) => nameB_no (s := s) (fun ⟨_, _, _, h'⟩ => by rw [h' k hk] at h; cases h))
        go_enter Tryz.func24, Tryz.ntmps24
        go_wp2_with (go_at_call 49; refine (HL.out _).mono ?_; rintro e w' ⟨rfl, rfl⟩; rw [hL])
        go_loop [19] (fun u => ∃ k : Nat, u = .int .i64 k ∧ k ≤ s.size ∧ Hid (∀ j (h : j < s.size), j < k → isWd s[j] = true)) (fun u => s.size - (intOf u).toNat)
        case atStart => exact ⟨0, rfl, Nat.zero_le _, Lib.hid (fun j _ hj => absurd hj (by omega))⟩
        case round =>
          obtain ⟨k, rfl, hk, hA⟩ := hrel
          by_cases hlt : k < s.size
          · have HLk := Lib.hid (fun w => g_letter s[k] w)
            cases hW : isWd s[k]
            · have HN := Lib.hid (HNO.out k hlt hW)
              have hW2 := hW
              rw [Bool.eq_false_iff, ne_eq, isWd_iff, not_or, not_or] at hW2
              obtain ⟨q1, q2, q3⟩ := hW2
              have q1 : isLet s[k] = false := by simpa using q1
              have c95 : ((s[k].toNat : Int) != 95) = true := by simp; omega
              by_cases h48 : s[k].toNat < 48
              · go_wp2_with (go_at_call 49; refine (HLk.out _).mono ?_; rintro e w' ⟨rfl, rfl⟩; rw [q1])
                go_ret
                exact ⟨ret_bool HN.out.symm, rfl⟩
              · have h57 : 57 < s[k].toNat := by omega
                go_wp2_with (go_at_call 49; refine (HLk.out _).mono ?_; rintro e w' ⟨rfl, rfl⟩; rw [q1])
                go_ret
                exact ⟨ret_bool HN.out.symm, rfl⟩
            · have HS := Lib.hid (name_step hA.out hlt hW)
              cases q1 : isLet s[k]
              · have hW2 := hW
                rw [isWd_iff, q1] at hW2
                have hW2 : s[k].toNat = 95 ∨ (48 ≤ s[k].toNat ∧ s[k].toNat ≤ 57) := hW2.resolve_left (by simp)
                rcases hW2 with h95 | ⟨h48, h57⟩
                · have c95 : ((s[k].toNat : Int) != 95) = false := by simp [h95]
                  have h48 : ¬ s[k].toNat < 48 := by omega
                  have h57 : 57 < s[k].toNat := by omega
                  clear h95
                  go_wp2_with (go_at_call 49; refine (HLk.out _).mono ?_; rintro e w' ⟨rfl, rfl⟩; rw [q1])
                  go_round
                  case rel => exact ⟨k + 1, by go_num, by omega, HS⟩
                  case measure => simp [intOf]; omega
                · go_wp2_with (go_at_call 49; refine (HLk.out _).mono ?_; rintro e w' ⟨rfl, rfl⟩; rw [q1])
                  go_round
                  case rel => exact ⟨k + 1, by go_num, by omega, HS⟩
                  case measure => simp [intOf]; omega
              · go_wp2_with (go_at_call 49; refine (HLk.out _).mono ?_; rintro e w' ⟨rfl, rfl⟩; rw [q1])
                go_round
                case rel => exact ⟨k + 1, by go_num, by omega, HS⟩
                case measure => simp [intOf]; omega
          · have hk' : k = s.size := by omega
            have HN := Lib.hid (HY.out (fun j hj => hA.out j hj (by omega)))
            go_wp2
            go_ret
            exact ⟨ret_bool HN.out.symm, rfl⟩
    · have HN := Lib.hid (nameB_no (s := s) (fun ⟨_, h, _⟩ => absurd h h20))
      go_enter Tryz.func24, Tryz.ntmps24
      go_wp2_with (go_at_call 49; refine (HL.out _).mono ?_; rintro e w' ⟨rfl, rfl⟩)
      go_ret
      exact ⟨ret_bool HN.out.symm, rfl⟩

end Go.Proofs.YtanclhcoiagcfaaGreatDoor
