/- PARTS OF THE WALKS, joined: NumB, NumC, FracA, Cmp. -/
import Derived.Test.YtbjddimafilflaaGreatDoorV03
import Derived.Deep.QuietTactic
import Derived.BigQuiet
import Derived.Deep.Cut
/- THE WALKS over package num: abs, Mul, Div, Mod, Gcd, and the law's same. -/
namespace Go.Proofs.YtbjddimafilflaaGreatDoor
open Go.RowKit
theorem ret_int {k : IntKind} {a b : Int} (h : a = b) : Ending.returned (.int k a) = .returned (.int k b) := by rw [h]
set_option maxHeartbeats 400000 in
theorem num_abs (n : Int) (w : World) (h1 : -1000000000000000 ≤ n) (h2 : n ≤ 1000000000000000) :
    Calls Tryz.prog 136 #[.int .i64 n] w fun e w' => e = .returned (.int .i64 n.natAbs) ∧ w = w' := by
  by_cases h : n < 0
  all_goals
    go_enter Tryz.func136, Tryz.ntmps136
    go_wp2
    all_goals go_ret
    all_goals (refine ⟨ret_int ?_, rfl⟩; omega)
end Go.Proofs.YtbjddimafilflaaGreatDoor

/- THE WALKS over package num: Gcd, Div, Mod; the law's same. -/
namespace Go.Proofs.YtbjddimafilflaaGreatDoor
open Go.RowKit
/-- the greatest common divisor, 0 out of range -/
def gcdV (a b : Int) : Int := if bothB a b then (Nat.gcd a.natAbs b.natAbs : Int) else 0
theorem gcdV_yes {a b : Int} (ha : inB a = true) (hb : inB b = true) : gcdV a b = (Nat.gcd a.natAbs b.natAbs : Int) := by
  unfold gcdV bothB; rw [ha, hb]; rfl
theorem gcdV_no {a b : Int} (h : bothB a b = false) : gcdV a b = 0 := by unfold gcdV; rw [h]; rfl
theorem gcd_step (x y : Nat) : Nat.gcd y (x % y) = Nat.gcd x y := by
  rw [Nat.gcd_comm x y, Nat.gcd_rec y x, Nat.gcd_comm]
set_option maxHeartbeats 800000 in
theorem num_Gcd (a b : Int) (w : World) :
    Calls Tryz.prog 129 #[.int .i64 a, .int .i64 b] w fun e w' => e = .returned (.int .i64 (gcdV a b)) ∧ ∃ n, w' = w.drewN n := by
  rcases inB_cases a with ⟨ha, ha1, ha2⟩ | ⟨ha, ha1⟩
  · rcases inB_cases b with ⟨hb, hb1, hb2⟩ | ⟨hb, hb1⟩
    · have H := Lib.hid (gcdV_yes ha hb)
      go_enter Tryz.func129, Tryz.ntmps129
      go_wp2_with (first | (go_at_call 120; refine (num_In _ _).mono ?_; rintro e w' ⟨rfl, rfl⟩) | (go_at_call 136; refine (num_abs _ _ (by omega) (by omega)).mono ?_; rintro e w' ⟨rfl, rfl⟩))
      go_loopw [0, 1] (fun u v wr => ∃ x y : Nat, u = .int .i64 x ∧ v = .int .i64 y ∧ Hid (Nat.gcd x y = Nat.gcd a.natAbs b.natAbs) ∧ x ≤ 1000000000000000 ∧ y ≤ 1000000000000000 ∧ ∃ n, wr = w.drewN n) (fun _ v _ => (intOf v).toNat)
      case atStart => exact ⟨_, _, rfl, rfl, Lib.hid rfl, by omega, by omega, 0, rfl⟩
      case round =>
        obtain ⟨x, y, rfl, rfl, hg, hx, hy, n, rfl⟩ := hrel
        by_cases h0 : y = 0
        · subst h0
          go_wp2
          go_ret
          exact ⟨ret_int (by rw [H.out, ← hg.out, Nat.gcd_zero_right]), n, rfl⟩
        · have hy0 : (0 : Int) < (y : Int) := by omega
          have hne : ((y : Int) != 0) = true := by rw [bne_iff_ne]; omega
          have hne2 : ((y : Int) == 0) = false := by rw [beq_eq_false_iff_ne]; omega
          go_wp2
          go_quiet (fail)
          go_wp2
          have hm := Int.emod_lt_of_pos (x : Int) hy0
          have hm0 := Int.emod_nonneg (x : Int) (show (y : Int) ≠ 0 by omega)
          go_roundw
          case rel => exact ⟨y, x % y, rfl, by go_num, Lib.hid ((gcd_step x y).trans hg.out), by omega, by omega, n + nq, by simp⟩
          case measure => simp [intOf]; omega
    · have H := Lib.hid (gcdV_no (a := a) (b := b) (by simp [bothB, hb]))
      go_enter Tryz.func129, Tryz.ntmps129
      go_wp2_with (first | (go_at_call 120; refine (num_In _ _).mono ?_; rintro e w' ⟨rfl, rfl⟩) | (go_at_call 136; refine (num_abs _ _ (by omega) (by omega)).mono ?_; rintro e w' ⟨rfl, rfl⟩))
      go_ret
      exact ⟨ret_int H.out.symm, 0, rfl⟩
  · have H := Lib.hid (gcdV_no (a := a) (b := b) (by simp [bothB, ha]))
    go_enter Tryz.func129, Tryz.ntmps129
    go_wp2_with (first | (go_at_call 120; refine (num_In _ _).mono ?_; rintro e w' ⟨rfl, rfl⟩) | (go_at_call 136; refine (num_abs _ _ (by omega) (by omega)).mono ?_; rintro e w' ⟨rfl, rfl⟩))
    go_ret
    exact ⟨ret_int H.out.symm, 0, rfl⟩
end Go.Proofs.YtbjddimafilflaaGreatDoor

/- THE WALKS over fractions: gcd, size, sign of the reference; Valid of both. -/
namespace Go.Proofs.YtbjddimafilflaaGreatDoor
open Go.RowKit
theorem below_step {w w1 w2 : World} (h : Below w.heap.size w w1) (h2 : Below w1.heap.size w1 w2) : Below w.heap.size w w2 := h.trans (h2.mono h.size)
theorem below_drewN' {B : Nat} {a w : World} (h : Below B a w) (n : Nat) : Below B a (w.drewN n) := h.trans ⟨rfl, rfl, rfl, Nat.le_refl _, fun _ _ => rfl⟩
theorem ret_bool {p q : Bool} (h : p = q) : Ending.returned (.bool p) = .returned (.bool q) := by rw [h]
set_option maxHeartbeats 400000 in
theorem r3_size (n : Int) (w : World) (h1 : -9223372036854775808 < n) (h2 : n ≤ 9223372036854775807) :
    Calls Tryz.prog 103 #[.int .i64 n] w fun e w' => e = .returned (.int .i64 n.natAbs) ∧ w = w' := by
  by_cases h : n < 0
  all_goals
    go_enter Tryz.func103, Tryz.ntmps103
    go_wp2
    all_goals go_ret
    all_goals (refine ⟨ret_int ?_, rfl⟩; omega)
/-- the sign -/
def sgn (n : Int) : Int := if n < 0 then -1 else if 0 < n then 1 else 0
set_option maxHeartbeats 400000 in
theorem r3_sign (n : Int) (w : World) :
    Calls Tryz.prog 101 #[.int .i64 n] w fun e w' => e = .returned (.int .i64 (sgn n)) ∧ w = w' := by
  by_cases h : n < 0
  · have HS : Hid (sgn n = -1) := if_pos h
    go_enter Tryz.func101, Tryz.ntmps101
    go_wp2
    go_ret
    exact ⟨ret_int HS.out.symm, rfl⟩
  · by_cases h' : 0 < n
    · have HS : Hid (sgn n = 1) := by unfold sgn; rw [if_neg h, if_pos h']; rfl
      go_enter Tryz.func101, Tryz.ntmps101
      go_wp2
      go_ret
      exact ⟨ret_int HS.out.symm, rfl⟩
    · have HS : Hid (sgn n = 0) := by unfold sgn; rw [if_neg h, if_neg h']; rfl
      go_enter Tryz.func101, Tryz.ntmps101
      go_wp2
      go_ret
      exact ⟨ret_int HS.out.symm, rfl⟩
set_option maxHeartbeats 800000 in
theorem r3_gcd_nat (a b : Nat) (w : World) (ha : a ≤ 1000000000000000) (hb : b ≤ 1000000000000000) :
    Calls Tryz.prog 116 #[.int .i64 a, .int .i64 b] w fun e w' => e = .returned (.int .i64 (Nat.gcd a b)) ∧ ∃ n, w' = w.drewN n := by
  go_enter Tryz.func116, Tryz.ntmps116
  go_wp2
  go_loopw [0, 1] (fun u v wr => ∃ x y : Nat, u = .int .i64 x ∧ v = .int .i64 y ∧ Hid (Nat.gcd x y = Nat.gcd a b) ∧ x ≤ 1000000000000000 ∧ y ≤ 1000000000000000 ∧ ∃ n, wr = w.drewN n) (fun _ v _ => (intOf v).toNat)
  case atStart => exact ⟨a, b, rfl, rfl, Lib.hid rfl, ha, hb, 0, rfl⟩
  case round =>
    obtain ⟨x, y, rfl, rfl, hg, hx, hy, n, rfl⟩ := hrel
    by_cases h0 : y = 0
    · subst h0
      go_wp2
      go_ret
      exact ⟨ret_int (by rw [← hg.out, Nat.gcd_zero_right]), n, rfl⟩
    · have hy0 : (0 : Int) < (y : Int) := by omega
      have hne : ((y : Int) != 0) = true := by rw [bne_iff_ne]; omega
      have hne2 : ((y : Int) == 0) = false := by rw [beq_eq_false_iff_ne]; omega
      go_wp2
      go_quiet (fail)
      go_wp2
      have hm := Int.emod_lt_of_pos (x : Int) hy0
      have hm0 := Int.emod_nonneg (x : Int) (show (y : Int) ≠ 0 by omega)
      go_roundw
      case rel => exact ⟨y, x % y, rfl, by go_num, Lib.hid ((gcd_step x y).trans hg.out), by omega, by omega, n + nq, by simp⟩
      case measure => simp [intOf]; omega
theorem r3_gcd (a b : Int) (w : World) (ha : 0 ≤ a ∧ a ≤ 1000000000000000) (hb : 0 ≤ b ∧ b ≤ 1000000000000000) :
    Calls Tryz.prog 116 #[.int .i64 a, .int .i64 b] w fun e w' => e = .returned (.int .i64 (cgcd a b)) ∧ ∃ n, w' = w.drewN n := by
  have h := r3_gcd_nat a.toNat b.toNat w (by omega) (by omega)
  have e1 : ((a.toNat : Nat) : Int) = a := by omega
  have e2 : ((b.toNat : Nat) : Int) = b := by omega
  have e3 : a.toNat = a.natAbs := by omega
  have e4 : b.toNat = b.natAbs := by omega
  rw [e1, e2, e3, e4] at h
  exact h
theorem validB_no1 {n d : Int} (h : d < 1) : validB n d = false := by
  unfold validB; rw [decide_eq_false (by omega)]; rfl
theorem validB_no2 {n d : Int} (h : 1000000000000000 < d) : validB n d = false := by
  unfold validB; rw [decide_eq_false (p := d ≤ 1000000000000000) (by omega), Bool.and_false]; rfl
theorem validB_no3 {n d : Int} (h : inB n = false) : validB n d = false := by
  unfold validB; rw [h, Bool.and_false]; rfl
theorem validB_gcd {n d : Int} (h1 : 1 ≤ d) (h2 : d ≤ 1000000000000000) (h : inB n = true) : (cgcd n d == 1) = validB n d := by
  unfold validB; rw [decide_eq_true h1, decide_eq_true h2, h]; rfl
theorem cgcd_abs (n d : Int) : cgcd (n.natAbs : Int) d = cgcd n d := by unfold cgcd; rw [Int.natAbs_natCast]
set_option maxHeartbeats 800000 in
theorem frac_Valid (n d : Int) (w : World) :
    Calls Tryz.prog 121 #[.agg #[.int .i64 n, .int .i64 d]] w fun e w' => e = .returned (.bool (validB n d)) ∧ Below w.heap.size w w' := by
  have hb0 := (Below.refl w.heap.size w).alloc (Nat.le_refl _) (.cells #[.int .i64 n, .int .i64 d] 94)
  by_cases h1 : d < 1
  · have H := Lib.hid (validB_no1 (n := n) h1)
    go_enter Tryz.func121, Tryz.ntmps121
    go_wp2
    go_ret
    exact ⟨ret_bool H.out.symm, hb0⟩
  · by_cases h2 : 1000000000000000 < d
    · have H := Lib.hid (validB_no2 (n := n) h2)
      go_enter Tryz.func121, Tryz.ntmps121
      go_wp2
      go_ret
      exact ⟨ret_bool H.out.symm, hb0⟩
    · rcases inB_cases n with ⟨hi, hi1, hi2⟩ | ⟨hi, hi1⟩
      · have H := Lib.hid (validB_gcd (n := n) (d := d) (by omega) (by omega) hi)
        have hg : gcdV n d = cgcd n d := gcdV_yes hi (inB_true.2 (by omega))
        go_enter Tryz.func121, Tryz.ntmps121
        go_wp2_with (go_at_call 120; refine (num_In _ _).mono ?_; rintro e w' ⟨rfl, rfl⟩)
        refine (num_Gcd _ _ _).mono ?_
        rintro e w' ⟨rfl, nn, rfl⟩
        have hb1 := below_drewN' hb0 nn
        go_wp2
        all_goals go_ret
        all_goals exact ⟨ret_bool (by rw [← H.out]), hb1⟩
      · have H := Lib.hid (validB_no3 (d := d) hi)
        go_enter Tryz.func121, Tryz.ntmps121
        go_wp2_with (go_at_call 120; refine (num_In _ _).mono ?_; rintro e w' ⟨rfl, rfl⟩)
        go_ret
        exact ⟨ret_bool H.out.symm, hb0⟩
set_option maxHeartbeats 800000 in
theorem r3_Valid (n d : Int) (w : World) :
    Calls Tryz.prog 99 #[.agg #[.int .i64 n, .int .i64 d]] w fun e w' => e = .returned (.bool (validB n d)) ∧ Below w.heap.size w w' := by
  have hb0 := (Below.refl w.heap.size w).alloc (Nat.le_refl _) (.cells #[.int .i64 n, .int .i64 d] 94)
  by_cases h1 : d < 1
  · have H := Lib.hid (validB_no1 (n := n) h1)
    have t1 : decide (1 ≤ d) = false := decide_eq_false (by omega)
    go_enter Tryz.func99, Tryz.ntmps99
    go_wp2
    go_quiet (fail)
    go_wp2
    go_ret
    exact ⟨ret_bool H.out.symm, below_drewN' hb0 _⟩
  · have t1 : decide (1 ≤ d) = true := decide_eq_true (by omega)
    by_cases h2 : 1000000000000000 < d
    · have H := Lib.hid (validB_no2 (n := n) h2)
      have t2 : decide (d ≤ 1000000000000000) = false := decide_eq_false (by omega)
      go_enter Tryz.func99, Tryz.ntmps99
      go_wp2
      go_quiet (fail)
      go_wp2
      go_ret
      exact ⟨ret_bool H.out.symm, below_drewN' hb0 _⟩
    · have t2 : decide (d ≤ 1000000000000000) = true := decide_eq_true (by omega)
      by_cases h3 : n < -1000000000000000
      · have H := Lib.hid (validB_no3 (d := d) (inB_false.2 (Or.inl h3)))
        have t3 : decide (-1000000000000000 ≤ n) = false := decide_eq_false (by omega)
        go_enter Tryz.func99, Tryz.ntmps99
        go_wp2
        go_quiet (fail)
        go_wp2
        go_ret
        exact ⟨ret_bool H.out.symm, below_drewN' hb0 _⟩
      · have t3 : decide (-1000000000000000 ≤ n) = true := decide_eq_true (by omega)
        by_cases h4 : 1000000000000000 < n
        · have H := Lib.hid (validB_no3 (d := d) (inB_false.2 (Or.inr h4)))
          have t4 : decide (n ≤ 1000000000000000) = false := decide_eq_false (by omega)
          go_enter Tryz.func99, Tryz.ntmps99
          go_wp2
          go_quiet (fail)
          go_wp2
          go_ret
          exact ⟨ret_bool H.out.symm, below_drewN' hb0 _⟩
        · have t4 : decide (n ≤ 1000000000000000) = true := decide_eq_true (by omega)
          have H := Lib.hid (validB_gcd (n := n) (d := d) (by omega) (by omega) (inB_true.2 (by omega)))
          have hc := cgcd_abs n d
          go_enter Tryz.func99, Tryz.ntmps99
          go_wp2
          go_quiet (((first | (go_at_call 103; exact Calls.quiet_of_same ((r3_size _ _ (by omega) (by omega)).mono fun e w' h => ⟨h.1, h.2.symm⟩)) | (go_at_call 116; exact Calls.quiet_of ((r3_gcd _ _ _ ⟨by omega, by omega⟩ ⟨by omega, by omega⟩))))))
          go_wp2
          all_goals go_ret
          all_goals exact ⟨ret_bool (by rw [← H.out]), below_drewN' hb0 _⟩
end Go.Proofs.YtbjddimafilflaaGreatDoor

/- THE WALKS over cmp.Compare and cmp.Or. -/
namespace Go.Proofs.YtbjddimafilflaaGreatDoor
open Go.RowKit
theorem ret_i64 {a b : Int} (h : a = b) : Ending.returned (.int .i64 a) = .returned (.int .i64 b) := by rw [h]
theorem size_beq (s : ByteArray) : (s.toList == ([] : List UInt8)) = decide (s.size = 0) := by
  rw [ByteArray.toList_eq]
  by_cases h : s.size = 0
  · have e : s.data.toList = [] := by rw [size_nil h]; rfl
    rw [decide_eq_true h, e]; rfl
  · rw [decide_eq_false h]
    cases hl : s.data.toList with
    | nil => exact absurd (by have := congrArg List.length hl; simpa using this) h
    | cons a r => rfl
theorem nil_iff (s : ByteArray) : (s.toList = []) = (s.size = 0) := propext ⟨fun h => by have := size_beq s; rw [h] at this; simpa using this, fun h => by have := size_beq s; rw [decide_eq_true h] at this; simpa using this⟩
theorem c_nan_int (x : Int) (w : World) : Calls Tryz.prog 108 #[.int .i64 x] w fun e w' => e = .returned (.bool false) ∧ w' = w := by
  go_enter Tryz.func108, Tryz.ntmps108
  go_wp2
  all_goals
    go_ret
    exact ⟨ret_bool (by simp), rfl⟩
theorem c_nan_str (x : ByteArray) (w : World) : Calls Tryz.prog 109 #[.string x] w fun e w' => e = .returned (.bool false) ∧ w' = w := by
  go_enter Tryz.func109, Tryz.ntmps109
  go_wp2
  all_goals
    go_ret
    exact ⟨ret_bool (by simp), rfl⟩
theorem c_cmp_int (x y : Int) (w : World) : Calls Tryz.prog 92 #[.int .i64 x, .int .i64 y] w fun e w' => e = .returned (.int .i64 (Lib.compareInt x y)) ∧ w' = w := by
  rcases Int.lt_trichotomy x y with h | h | h
  · have HV := Lib.hid (show Lib.compareInt x y = -1 by unfold Lib.compareInt; rw [if_pos h])
    go_enter Tryz.func92, Tryz.ntmps92
    go_wp2_with (go_at_call 108; refine (c_nan_int _ _).mono ?_; rintro e w' ⟨rfl, rfl⟩)
    go_ret
    exact ⟨ret_i64 HV.out.symm, rfl⟩
  · have HV := Lib.hid (show Lib.compareInt x y = 0 by unfold Lib.compareInt; rw [if_neg (by omega), if_neg (by omega)])
    have h1 : ¬ x < y := by omega
    have h2 : ¬ y < x := by omega
    clear h
    go_enter Tryz.func92, Tryz.ntmps92
    go_wp2_with (go_at_call 108; refine (c_nan_int _ _).mono ?_; rintro e w' ⟨rfl, rfl⟩)
    go_ret
    exact ⟨ret_i64 HV.out.symm, rfl⟩
  · have HV := Lib.hid (show Lib.compareInt x y = 1 by unfold Lib.compareInt; rw [if_neg (by omega), if_pos h])
    have h1 : ¬ x < y := by omega
    go_enter Tryz.func92, Tryz.ntmps92
    go_wp2_with (go_at_call 108; refine (c_nan_int _ _).mono ?_; rintro e w' ⟨rfl, rfl⟩)
    go_ret
    exact ⟨ret_i64 HV.out.symm, rfl⟩
theorem c_cmp_str (a b : ByteArray) (w : World) : Calls Tryz.prog 93 #[.string a, .string b] w fun e w' => e = .returned (.int .i64 (cmpT a b)) ∧ w' = w := by
  cases h1 : Op.bytesLess a.toList b.toList
  · cases h2 : (a.toList == b.toList)
    · have HV := Lib.hid (show cmpT a b = 1 by unfold cmpT; rw [h1, h2]; rfl)
      go_enter Tryz.func93, Tryz.ntmps93
      go_wp2_with (go_at_call 109; refine (c_nan_str _ _).mono ?_; rintro e w' ⟨rfl, rfl⟩)
      go_ret
      exact ⟨ret_i64 HV.out.symm, rfl⟩
    · have HV := Lib.hid (show cmpT a b = 0 by unfold cmpT; rw [h1, h2]; rfl)
      go_enter Tryz.func93, Tryz.ntmps93
      go_wp2_with (go_at_call 109; refine (c_nan_str _ _).mono ?_; rintro e w' ⟨rfl, rfl⟩)
      go_ret
      exact ⟨ret_i64 HV.out.symm, rfl⟩
  · have HV := Lib.hid (show cmpT a b = -1 by unfold cmpT; rw [h1]; rfl)
    go_enter Tryz.func93, Tryz.ntmps93
    go_wp2_with (go_at_call 109; refine (c_nan_str _ _).mono ?_; rintro e w' ⟨rfl, rfl⟩)
    go_ret
    exact ⟨ret_i64 HV.out.symm, rfl⟩
/-- the first of a row that is not zero -/
def orL : List Int → Int
  | [] => 0
  | x :: r => thenC x (orL r)
theorem thenC_0 (x : Int) : thenC x 0 = x := by unfold thenC; split <;> omega
theorem orL_drop (l : List Int) (k : Nat) (h : k < l.length) : orL (l.drop k) = thenC l[k] (orL (l.drop (k + 1))) := by
  rw [List.drop_eq_getElem_cons h]; rfl
set_option maxHeartbeats 800000 in
theorem c_or_int (g : Nat) (l : List Int) (w : World) (hl : l.length ≤ 1000) (hc : ∀ j (h : j < l.length), w.cell? ⟨g, j, none⟩ = some (.int .i64 l[j])) :
    Calls Tryz.prog 91 #[.slice (some ⟨g, 0, none⟩) l.length l.length] w fun e w' => e = .returned (.int .i64 (orL l)) ∧ w' = w := by
  have HC := Lib.hid hc
  clear hc
  go_enter Tryz.func91, Tryz.ntmps91
  go_wp2
  go_loop [8] (fun u => ∃ k : Nat, u = .int .i64 k ∧ k ≤ l.length ∧ Hid (orL l = orL (l.drop k))) (fun u => l.length - (intOf u).toNat)
  case atStart => exact ⟨0, rfl, Nat.zero_le _, Lib.hid rfl⟩
  case round =>
    obtain ⟨k, rfl, hk, hA⟩ := hrel
    by_cases hlt : k < l.length
    · have cell := HC.out k hlt
      have HD := Lib.hid (orL_drop l k hlt)
      generalize l[k] = x at cell HD
      by_cases hx : x = 0
      · subst hx
        have HS := Lib.hid (show orL l = orL (l.drop (k + 1)) by rw [hA.out, HD.out]; rfl)
        go_wp2
        go_round
        case rel => exact ⟨k + 1, by go_num, by omega, HS⟩
        case measure => simp [intOf]; omega
      · have hx' : (x != 0) = true := by simpa using hx
        have HS := Lib.hid (show orL l = x by rw [hA.out, HD.out]; unfold thenC; rw [if_neg hx])
        go_wp2
        go_ret
        exact ⟨ret_i64 HS.out.symm, rfl⟩
    · have hk' : k = l.length := by omega
      have HS := Lib.hid (show orL l = 0 by rw [hA.out, hk', List.drop_length]; rfl)
      go_wp2
      go_ret
      exact ⟨ret_i64 HS.out.symm, rfl⟩
set_option maxHeartbeats 800000 in
theorem c_or_errno (g : Nat) (l : List Int) (w : World) (hl : l.length ≤ 1000) (hc : ∀ j (h : j < l.length), w.cell? ⟨g, j, none⟩ = some (.int .i64 l[j])) :
    Calls Tryz.prog 49 #[.slice (some ⟨g, 0, none⟩) l.length l.length] w fun e w' => e = .returned (.int .i64 (orL l)) ∧ w' = w := by
  have HC := Lib.hid hc
  clear hc
  go_enter Tryz.func49, Tryz.ntmps49
  go_wp2
  go_loop [8] (fun u => ∃ k : Nat, u = .int .i64 k ∧ k ≤ l.length ∧ Hid (orL l = orL (l.drop k))) (fun u => l.length - (intOf u).toNat)
  case atStart => exact ⟨0, rfl, Nat.zero_le _, Lib.hid rfl⟩
  case round =>
    obtain ⟨k, rfl, hk, hA⟩ := hrel
    by_cases hlt : k < l.length
    · have cell := HC.out k hlt
      have HD := Lib.hid (orL_drop l k hlt)
      generalize l[k] = x at cell HD
      by_cases hx : x = 0
      · subst hx
        have HS := Lib.hid (show orL l = orL (l.drop (k + 1)) by rw [hA.out, HD.out]; rfl)
        go_wp2
        go_round
        case rel => exact ⟨k + 1, by go_num, by omega, HS⟩
        case measure => simp [intOf]; omega
      · have hx' : (x != 0) = true := by simpa using hx
        have HS := Lib.hid (show orL l = x by rw [hA.out, HD.out]; unfold thenC; rw [if_neg hx])
        go_wp2
        go_ret
        exact ⟨ret_i64 HS.out.symm, rfl⟩
    · have hk' : k = l.length := by omega
      have HS := Lib.hid (show orL l = 0 by rw [hA.out, hk', List.drop_length]; rfl)
      go_wp2
      go_ret
      exact ⟨ret_i64 HS.out.symm, rfl⟩
end Go.Proofs.YtbjddimafilflaaGreatDoor
