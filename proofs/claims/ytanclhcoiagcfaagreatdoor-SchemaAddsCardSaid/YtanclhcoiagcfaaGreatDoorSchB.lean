/- THE WALK over the reference's name. -/
import Derived.Test.YtanclhcoiagcfaaGreatDoorSchA
namespace Go.Proofs.YtanclhcoiagcfaaGreatDoor
open Go.RowKit

set_option maxHeartbeats 3200000 in
theorem r9_name (s : ByteArray) (w : World) : Calls Tryz.prog 27 #[.string s] w fun e w' => e = .returned (.bool (nameB s)) ∧ w' = w := by
  by_cases h0 : 1 ≤ s.size
  · by_cases h20 : s.size ≤ 20
    · have HY := Lib.hid (fun (hL : isLet s[0] = true) (h : ∀ j (h : j < s.size), isWd s[j] = true) => nameB_iff.2 ⟨h0, h20, hL, h⟩)
      have HNO := Lib.hid (fun (k : Nat) (hk : k < s.size) (h : isWd s[k] = false) => nameB_no (s := s) (fun ⟨_, _, _, h'⟩ => by rw [h' k hk] at h; cases h))
      have HNL := Lib.hid (fun (h : isLet s[0] = false) => nameB_no (s := s) (fun ⟨_, _, h', _⟩ => by rw [h'] at h; cases h))
      go_enter Tryz.func27, Tryz.ntmps27
      go_wp2
      go_loop [3] (fun u => ∃ k : Nat, u = .int .i64 k ∧ k ≤ s.size ∧ Hid (∀ j (h : j < s.size), j < k → isWd s[j] = true) ∧ Hid (0 < k → isLet s[0] = true)) (fun u => s.size - (intOf u).toNat)
      case atStart => exact ⟨0, rfl, Nat.zero_le _, Lib.hid (fun j _ hj => absurd hj (by omega)), Lib.hid (fun h => absurd h (by omega))⟩
      case round =>
        obtain ⟨k, rfl, hk, hA, hB⟩ := hrel
        by_cases hlt : k < s.size
        · rcases Nat.eq_zero_or_pos k with hz | hz
          · subst hz
            have HS := Lib.hid (fun (hL : isLet s[0] = true) => name_step hA.out hlt (isWd_iff.2 (.inl hL)))
            go_wp2
            all_goals
              first
              | (go_ret; exact ⟨ret_bool (HNL.out (by rw [Bool.eq_false_iff, ne_eq, isLet_iff]; omega)).symm, rfl⟩)
              | (go_round; (case rel => exact ⟨1, rfl, by omega, Lib.hid (HS.out (isLet_iff.2 (by omega))), Lib.hid (fun _ => isLet_iff.2 (by omega))⟩); (case measure => simp [intOf]; omega))
              | (exfalso; simp at *; omega)
          · have HS := Lib.hid (fun (hw : isWd s[k] = true) => name_step hA.out hlt hw)
            have HN := Lib.hid (HNO.out k hlt)
            have k0 : ((k : Int) == 0) = false := beq_eq_false_iff_ne.2 (by omega)
            by_cases h95 : s[k].toNat = 95
            · have c95 : ((s[k].toNat : Int) != 95) = false := by simp [h95]
              have HT := Lib.hid (HS.out (isWd_iff.2 (.inr (.inl h95))))
              have h1 : ¬ s[k].toNat < 95 := by omega
              have h2 : ¬ 95 < s[k].toNat := by omega
              clear h95
              go_wp2
              all_goals
                first
                | (go_round; (case rel => exact ⟨k + 1, by go_num, by omega, HT, Lib.hid (fun _ => hB.out hz)⟩); (case measure => simp [intOf]; omega))
                | (exfalso; simp at *; omega)
            · have c95 : ((s[k].toNat : Int) != 95) = true := by simp; omega
              go_wp2
              all_goals
                first
                | (go_ret; exact ⟨ret_bool (HN.out (by rw [Bool.eq_false_iff, ne_eq, isWd_iff, isLet_iff]; omega)).symm, rfl⟩)
                | (go_round; (case rel => exact ⟨k + 1, by go_num, by omega, Lib.hid (HS.out (isWd_iff.2 (by rw [isLet_iff]; omega))), Lib.hid (fun _ => hB.out hz)⟩); (case measure => simp [intOf]; omega))
                | (exfalso; simp at *; omega)
        · have hk' : k = s.size := by omega
          have HN := Lib.hid (HY.out (hB.out (by omega)) (fun j hj => hA.out j hj (by omega)))
          go_wp2
          go_ret
          exact ⟨ret_bool HN.out.symm, rfl⟩
    · have HN := Lib.hid (nameB_no (s := s) (fun ⟨_, h, _⟩ => absurd h h20))
      go_enter Tryz.func27, Tryz.ntmps27
      go_wp2
      go_ret
      exact ⟨ret_bool HN.out.symm, rfl⟩
  · have HN := Lib.hid (nameB_no (s := s) (fun ⟨h, _⟩ => absurd h h0))
    go_enter Tryz.func27, Tryz.ntmps27
    go_wp2
    go_ret
    exact ⟨ret_bool HN.out.symm, rfl⟩

end Go.Proofs.YtanclhcoiagcfaaGreatDoor
