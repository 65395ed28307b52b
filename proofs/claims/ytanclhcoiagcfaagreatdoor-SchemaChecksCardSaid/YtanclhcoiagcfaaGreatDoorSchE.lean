/- THE WALKS over cmp.Compare and cmp.Or. -/
import Derived.Test.YtanclhcoiagcfaaGreatDoorSchD
namespace Go.Proofs.YtanclhcoiagcfaaGreatDoor
open Go.RowKit

theorem c_nan_int (x : Int) (w : World) : Calls Tryz.prog 70 #[.int .i64 x] w fun e w' => e = .returned (.bool false) ∧ w' = w := by
  go_enter Tryz.func70, Tryz.ntmps70
  go_wp2
  all_goals
    go_ret
    exact ⟨ret_bool (by simp), rfl⟩

theorem c_nan_str (x : ByteArray) (w : World) : Calls Tryz.prog 71 #[.string x] w fun e w' => e = .returned (.bool false) ∧ w' = w := by
  go_enter Tryz.func71, Tryz.ntmps71
  go_wp2
  all_goals
    go_ret
    exact ⟨ret_bool (by simp), rfl⟩

theorem c_cmp_int (x y : Int) (w : World) : Calls Tryz.prog 55 #[.int .i64 x, .int .i64 y] w fun e w' => e = .returned (.int .i64 (Lib.compareInt x y)) ∧ w' = w := by
  rcases Int.lt_trichotomy x y with h | h | h
  · have HV := Lib.hid (show Lib.compareInt x y = -1 by unfold Lib.compareInt; rw [if_pos h])
    go_enter Tryz.func55, Tryz.ntmps55
    go_wp2_with (go_at_call 70; refine (c_nan_int _ _).mono ?_; rintro e w' ⟨rfl, rfl⟩)
    go_ret
    exact ⟨ret_i64 HV.out.symm, rfl⟩
  · have HV := Lib.hid (show Lib.compareInt x y = 0 by unfold Lib.compareInt; rw [if_neg (by omega), if_neg (by omega)])
    have h1 : ¬ x < y := by omega
    have h2 : ¬ y < x := by omega
    clear h
    go_enter Tryz.func55, Tryz.ntmps55
    go_wp2_with (go_at_call 70; refine (c_nan_int _ _).mono ?_; rintro e w' ⟨rfl, rfl⟩)
    go_ret
    exact ⟨ret_i64 HV.out.symm, rfl⟩
  · have HV := Lib.hid (show Lib.compareInt x y = 1 by unfold Lib.compareInt; rw [if_neg (by omega), if_pos h])
    have h1 : ¬ x < y := by omega
    go_enter Tryz.func55, Tryz.ntmps55
    go_wp2_with (go_at_call 70; refine (c_nan_int _ _).mono ?_; rintro e w' ⟨rfl, rfl⟩)
    go_ret
    exact ⟨ret_i64 HV.out.symm, rfl⟩

theorem c_cmp_str (a b : ByteArray) (w : World) : Calls Tryz.prog 56 #[.string a, .string b] w fun e w' => e = .returned (.int .i64 (cmpS a b)) ∧ w' = w := by
  cases h1 : Op.bytesLess a.toList b.toList
  · cases h2 : (a.toList == b.toList)
    · have HV := Lib.hid (show cmpS a b = 1 by unfold cmpS; rw [h1, h2]; rfl)
      go_enter Tryz.func56, Tryz.ntmps56
      go_wp2_with (go_at_call 71; refine (c_nan_str _ _).mono ?_; rintro e w' ⟨rfl, rfl⟩)
      go_ret
      exact ⟨ret_i64 HV.out.symm, rfl⟩
    · have HV := Lib.hid (show cmpS a b = 0 by unfold cmpS; rw [h1, h2]; rfl)
      go_enter Tryz.func56, Tryz.ntmps56
      go_wp2_with (go_at_call 71; refine (c_nan_str _ _).mono ?_; rintro e w' ⟨rfl, rfl⟩)
      go_ret
      exact ⟨ret_i64 HV.out.symm, rfl⟩
  · have HV := Lib.hid (show cmpS a b = -1 by unfold cmpS; rw [h1]; rfl)
    go_enter Tryz.func56, Tryz.ntmps56
    go_wp2_with (go_at_call 71; refine (c_nan_str _ _).mono ?_; rintro e w' ⟨rfl, rfl⟩)
    go_ret
    exact ⟨ret_i64 HV.out.symm, rfl⟩

/-- the first of a row that is not zero -/
def orL : List Int → Int
  | [] => 0
  | x :: r => thenC x (orL r)
theorem thenC_zero (x : Int) : thenC x 0 = x := by unfold thenC; split <;> omega
theorem orL_six (a b c d e f : Int) : orL [a, b, c, d, e, f] = thenC a (thenC b (thenC c (thenC d (thenC e f)))) := by
  simp only [orL, thenC_zero]
theorem orL_drop (l : List Int) (k : Nat) (h : k < l.length) : orL (l.drop k) = thenC l[k] (orL (l.drop (k + 1))) := by
  rw [List.drop_eq_getElem_cons h]; rfl

set_option maxHeartbeats 800000 in
theorem c_or_int (g : Nat) (l : List Int) (w : World) (hl : l.length ≤ 1000) (hc : ∀ j (h : j < l.length), w.cell? ⟨g, j, none⟩ = some (.int .i64 l[j])) :
    Calls Tryz.prog 54 #[.slice (some ⟨g, 0, none⟩) l.length l.length] w fun e w' => e = .returned (.int .i64 (orL l)) ∧ w' = w := by
  have HC := Lib.hid hc
  clear hc
  go_enter Tryz.func54, Tryz.ntmps54
  go_wp2
  go_loop [8] (fun u => ∃ k : Nat, u = .int .i64 k ∧ k ≤ l.length ∧ Hid (orL l = orL (l.drop k))) (fun u => l.length - (intOf u).toNat)
  case atStart => exact ⟨0, rfl, Nat.zero_le _, Lib.hid rfl⟩
  case round =>
    obtain ⟨k, rfl, hk, hA⟩ := hrel
    by_cases hlt : k < l.length
    · have cell := HC.out k hlt
      have HD := Lib.hid (orL_drop l k hlt)
      generalize l[k] = x at cell HD
      by_cases hx : x = 0
      · subst hx
        have HS := Lib.hid (show orL l = orL (l.drop (k + 1)) by rw [hA.out, HD.out]; rfl)
        go_wp2
        go_round
        case rel => exact ⟨k + 1, by go_num, by omega, HS⟩
        case measure => simp [intOf]; omega
      · have hx' : (x != 0) = true := by simpa using hx
        have HS := Lib.hid (show orL l = x by rw [hA.out, HD.out]; unfold thenC; rw [if_neg hx])
        go_wp2
        go_ret
        exact ⟨ret_i64 HS.out.symm, rfl⟩
    · have hk' : k = l.length := by omega
      have HS := Lib.hid (show orL l = 0 by rw [hA.out, hk', List.drop_length]; rfl)
      go_wp2
      go_ret
      exact ⟨ret_i64 HS.out.symm, rfl⟩

end Go.Proofs.YtanclhcoiagcfaaGreatDoor
