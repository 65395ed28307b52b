/- THE WALKS over the two Parses. -/
import Derived.Test.YtanclhcoiagcfaaGreatDoorNumT
namespace Go.Proofs.YtanclhcoiagcfaaGreatDoor
open Go.RowKit

theorem take_snoc (s : ByteArray) (k : Nat) (h : k < s.size) : s.data.toList.take (k + 1) = s.data.toList.take k ++ [s[k]] := by
  rw [List.take_succ_eq_append_getElem (by simpa using h)]; rfl

theorem foldDig_lt (l : List UInt8) (a : Nat) : foldDig a l < (a + 1) * 10 ^ l.length := by
  induction l generalizing a with
  | nil => simp [foldDig]
  | cons c r ih =>
    simp only [foldDig, List.length_cons]
    split
    · rename_i h
      unfold isDig at h; rw [Bool.and_eq_true, decide_eq_true_iff, decide_eq_true_iff] at h
      have e : (a * 10 + (c.toNat - 48) + 1) * 10 ^ r.length ≤ (a + 1) * 10 * 10 ^ r.length := Nat.mul_le_mul_right _ (by omega)
      refine Nat.lt_of_lt_of_le (ih _) ?_
      rw [Nat.pow_succ, Nat.mul_comm (10 ^ r.length) 10, ← Nat.mul_assoc]
      exact e
    · have e : (a + 1) * 10 ^ r.length ≤ (a + 1) * 10 * 10 ^ r.length := Nat.mul_le_mul_right _ (by omega)
      refine Nat.lt_of_lt_of_le (ih _) ?_
      rw [Nat.pow_succ, Nat.mul_comm (10 ^ r.length) 10, ← Nat.mul_assoc]
      exact e

theorem foldDig_17 (l : List UInt8) (h : l.length ≤ 17) : foldDig 0 l < 100000000000000000 := by
  refine Nat.lt_of_lt_of_le (foldDig_lt l 0) ?_
  rw [Nat.zero_add, Nat.one_mul]
  exact Nat.pow_le_pow_right (n := 10) (by omega) h

/-- one byte more -/
theorem fold_step (s : ByteArray) (k : Nat) (h : k < s.size) : foldDig 0 (s.data.toList.take (k + 1)) = if isDig s[k] then foldDig 0 (s.data.toList.take k) * 10 + (s[k].toNat - 48) else foldDig 0 (s.data.toList.take k) := by
  rw [take_snoc s k h, foldDig_snoc]

theorem parse_end_yes {s : ByteArray} {n : Int} (hi : inB n = true) (h : (!Lib.itoa n == s.toList) = false) : parseV s.data.toList = n ∧ parseB s.data.toList = true := by
  rw [ByteArray.toList_eq, Bool.not_eq_false', beq_iff_eq] at h
  exact ⟨(parse_yes hi h).2, (parse_yes hi h).1⟩

theorem parse_end_no {s : ByteArray} {n : Int} (hn : numOf s.data.toList = n) (h : inB n = false ∨ (!Lib.itoa n == s.toList) = true) : parseV s.data.toList = 0 ∧ parseB s.data.toList = false := by
  have hb : parseB s.data.toList = false := by
    unfold parseB; rw [hn]
    rcases h with h | h
    · rw [h]; rfl
    · rw [ByteArray.toList_eq, Bool.not_eq_true'] at h; rw [h, Bool.and_false]
  exact ⟨by unfold parseV; rw [hb]; rfl, hb⟩

theorem head_at (s : ByteArray) (h : 0 < s.size) : s.data.toList.head? = some s[0] := by
  rw [List.head?_eq_getElem?, List.getElem?_eq_getElem (by simpa using h)]; rfl

theorem numOf_neg {s : ByteArray} (h : 0 < s.size) (h45 : s[0].toNat = 45) : numOf s.data.toList = -(foldDig 0 s.data.toList : Int) := by
  unfold numOf; rw [head_at s h, if_pos (by rw [show s[0] = 45 from UInt8.toNat_inj.1 h45])]

theorem numOf_pos {s : ByteArray} (h : 0 < s.size) (h45 : ¬ s[0].toNat = 45) : numOf s.data.toList = (foldDig 0 s.data.toList : Int) := by
  unfold numOf; rw [head_at s h, if_neg (fun e => h45 (by rw [Option.some.inj e]; rfl))]

theorem numOf_nil {s : ByteArray} (h : s.size = 0) : numOf s.data.toList = (foldDig 0 s.data.toList : Int) := by
  have : s.data.toList = [] := List.eq_nil_of_length_eq_zero (by simpa using h)
  rw [this]; rfl

theorem ret2 {a b : Int} {p q : Bool} (h : b = a ∧ q = p) : Ending.returned (.tuple #[.int .i64 a, .bool p]) = .returned (.tuple #[.int .i64 b, .bool q]) := by rw [h.1, h.2]

open Go.Proofs in
/-- strconv.Atoi where the text is no int: an error that is not nil. -/
theorem atoi_bad (s : ByteArray) (w : World) (hw : LaidW w) (hs : s.size ≤ 281474976710656) :
    (∃ v, Lib.atoiAll s.data.toList = .ok v) ∨ ((∀ v, Lib.atoiAll s.data.toList ≠ .ok v) ∧ Calls Tryz.prog 62 #[.string s] w fun e w' => ∃ (n : Int) (N : Nat), e = .returned (.tuple #[.int .i64 n, .iface 104 (.pointer (some ⟨N, 0, none⟩))]) ∧ Below w.heap.size w w') := by
  obtain ⟨_, ⟨tp1, p1, h1⟩, ⟨tp2, p2, h2⟩⟩ := hw
  cases h : Lib.atoiAll s.data.toList
  · left; exact ⟨_, rfl⟩
  · right
    exact ⟨(fun v hv => by cases hv), (Any.strconv_Atoi_syntax_var Tryz.laysC172 s hs h tp1 p1 w h1).mono fun e w' ⟨N, he, _, _, hb⟩ => ⟨0, N, he, hb⟩⟩
  · right
    exact ⟨(fun v hv => by cases hv), (Any.strconv_Atoi_range_var Tryz.laysC172 s hs h tp2 p2 w h2).mono fun e w' ⟨N, he, _, _, hb⟩ => ⟨_, N, he, hb⟩⟩

theorem atoi_good (s : ByteArray) (w : World) (hs : s.size ≤ 281474976710656) (v : Int) (h : Lib.atoiAll s.data.toList = .ok v) :
    Calls Tryz.prog 62 #[.string s] w fun e w' => e = .returned (.tuple #[.int .i64 v, .nilIface]) ∧ Below w.heap.size w w' := by
  refine (Tryz.strconv_Atoi_ok s (by omega) v h w).mono ?_
  rintro e w' ⟨rfl, rfl | ⟨t, rfl⟩⟩
  · exact ⟨rfl, Below.refl _ _⟩
  · exact ⟨rfl, Lib.bytesWorld_below _ _ _⟩

theorem parse_end_no' {s : ByteArray} {v : Int} (hn : ∀ n, inB n = true → Lib.itoa n = s.data.toList → n = v) (h : inB v = false ∨ (!Lib.itoa v == s.toList) = true) : parseV s.data.toList = 0 ∧ parseB s.data.toList = false := by
  have := parse_no (l := s.data.toList) (fun n h1 h2 => by
    have e := hn n h1 h2
    subst e
    rcases h with h | h
    · rw [h] at h1; cases h1
    · rw [ByteArray.toList_eq, h2] at h; simp at h)
  exact ⟨this.2, this.1⟩

set_option maxHeartbeats 1600000 in
theorem num_Parse (s : ByteArray) (w : World) (hw : LaidW w) (hs : s.size ≤ 281474976710656) :
    Calls Tryz.prog 46 #[.string s] w fun e w' => e = .returned (.tuple #[.int .i64 (parseV s.data.toList), .bool (parseB s.data.toList)]) ∧ Below w.heap.size w w' := by
  rcases atoi_bad s w hw hs with ⟨v, ha⟩ | ⟨hno, hbad⟩
  · have hv := Lib.atoiAll_bounds ha
    obtain ⟨v1, v2⟩ := hv
    have HA := Lib.hid (atoi_good s w hs v ha)
    have HN : Hid (∀ n, inB n = true → Lib.itoa n = s.data.toList → n = v) := Lib.hid (fun n hn e => by
      have ⟨n1, n2⟩ := inB_true.1 hn
      have := atoiAll_itoa n (by omega) (by omega)
      rw [e, ha] at this
      exact (Lib.NumEnd.ok.inj this).symm)
    clear ha
    rcases inB_cases v with ⟨hi, hi1, hi2⟩ | ⟨hi, hi1⟩
    · go_enter Tryz.func46, Tryz.ntmps46
      go_wp2_with (first | (go_at_call 62; refine HA.out.mono ?_; rintro e w1 ⟨rfl, hb1⟩) | (go_at_call 63; refine (num_In _ _).mono ?_; rintro e w' ⟨rfl, rfl⟩) | (go_at_call 64; refine (num_Text _ _ (hw.below hb1) (by omega) (by omega)).mono ?_; rintro e w2 ⟨rfl, hb2⟩))
      · go_ret2
        exact ⟨ret2 (parse_end_no' HN.out (Or.inr (by assumption))), hb1.trans (hb2.mono hb1.size)⟩
      · go_ret2
        exact ⟨ret2 (parse_end_yes hi (by assumption)), hb1.trans (hb2.mono hb1.size)⟩
    · go_enter Tryz.func46, Tryz.ntmps46
      go_wp2_with (first | (go_at_call 62; refine HA.out.mono ?_; rintro e w1 ⟨rfl, hb1⟩) | (go_at_call 63; refine (num_In _ _).mono ?_; rintro e w' ⟨rfl, rfl⟩))
      go_ret2
      exact ⟨ret2 (parse_end_no' HN.out (Or.inl hi)), hb1⟩
  · have HB := Lib.hid hbad
    have HP := Lib.hid (parse_no (l := s.data.toList) (fun n hn e => by
      have ⟨n1, n2⟩ := inB_true.1 hn
      have := atoiAll_itoa n (by omega) (by omega)
      rw [e] at this
      exact hno _ this))
    clear hbad hno
    go_enter Tryz.func46, Tryz.ntmps46
    go_wp2_with (first | (go_at_call 62; refine HB.out.mono ?_; rintro e w1 ⟨n0, N0, rfl, hb1⟩))
    go_ret2
    exact ⟨ret2 ⟨HP.out.2, HP.out.1⟩, hb1⟩

end Go.Proofs.YtanclhcoiagcfaaGreatDoor
