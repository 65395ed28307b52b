/- THE WALKS over the reference's digits and Text. -/
import Derived.Test.YtanclhcoiagcfaaGreatDoorSchS
import Derived.Test.YtanclhcoiagcfaaGreatDoorNumT
namespace Go.Proofs.YtanclhcoiagcfaaGreatDoor
open Go.RowKit

theorem decDigits_big {m : Nat} (h : 9 < m) : Lib.decDigits m = Lib.decDigits (m / 10) ++ [digB m] := by
  rw [decDigits_rec, if_neg (by omega)]; rfl
theorem decDigits_one {m : Nat} (h : m ≤ 9) : Lib.decDigits m = [digB m] := by
  rw [decDigits_rec, if_pos (by omega)]; unfold digB; rw [Nat.mod_eq_of_lt (by omega)]

set_option maxRecDepth 100000 in
set_option maxHeartbeats 1600000 in
theorem r9_digits (n : Nat) (w : World) (hn : n ≤ 4000) :
    Calls Tryz.prog 34 #[.int .i64 ((n : Int))] w fun e w' => e = .returned (.string (asB (Lib.decDigits n))) ∧ Ext w w' := by
  have HL := Lib.hid (decDigits_length 3 n (by omega))
  go_enter Tryz.func34, Tryz.ntmps34
  go_wp2_with fail
  go_loopw [0, 3] (fun v u wr => ∃ (m : Nat) (l : List UInt8), u = .string ⟨l.toArray⟩ ∧ v = .int .i64 ((m : Int)) ∧ m ≤ n ∧ Hid (Lib.decDigits m ++ l = Lib.decDigits n) ∧ Ext w wr) (fun v _ _ => (intOf v).natAbs)
  case atStart => exact ⟨n, [], rfl, rfl, Nat.le_refl _, Lib.hid (List.append_nil _), Ext.refl _⟩
  case round =>
    obtain ⟨m, l, rfl, rfl, hm, hd, hE⟩ := hrel
    have hl : l.length ≤ 4 := by have h := hd.out; have g := congrArg List.length h; have k := HL.out; rw [List.length_append] at g; omega
    have hl2 : ¬ 9223372036854775807 < 1 + l.length := by omega
    by_cases h9 : 9 < m
    · have HC := run_byte_string wr (48 + (m : Int) % 10) m (by omega)
      have HD := Lib.hid (decDigits_big h9)
      go_wp2
      go_roundw
      case rel => exact ⟨m / 10, digB m :: l, by rw [str_cons], by go_num, by omega, Lib.hid (by have h := hd.out; rw [HD.out, List.append_assoc] at h; exact h), hE.alloc _⟩
      case measure => simp [intOf]; omega
    · have HC := run_byte_string wr (48 + (m : Int)) m (by omega)
      have HD := Lib.hid (decDigits_one (m := m) (by omega))
      have h9' : m ≤ 9 := by omega
      go_wp2
      go_ret
      exact ⟨by
        have h := hd.out
        rw [HD.out] at h
        exact congrArg Ending.returned ((str_cons _ _).trans (by rw [← h]; rfl)), hE.alloc _⟩

end Go.Proofs.YtanclhcoiagcfaaGreatDoor
