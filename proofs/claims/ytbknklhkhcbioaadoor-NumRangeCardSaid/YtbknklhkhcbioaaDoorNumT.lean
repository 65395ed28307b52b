/- THE WALKS over the two Texts and the two Parses. -/
import Derived.Test.YtbknklhkhcbioaaDoorNumC
import Derived.Test.YtbknklhkhcbioaaDoorShelf
import Derived.Lib.AtoiErrMem
import Derived.Lib.AppendIntMem
namespace Go.Proofs.YtbknklhkhcbioaaDoor
open Go.RowKit

/-- WHAT THE PACKAGE VARIABLES OF THE LIBRARY HOLD. -/
structure LaidW (w : World) : Prop where
  tab : Lib.TabIs Tryd.prog w "internal/strconv.uint64pow10" .u64 Lib.pow10Tab
  bad : ∃ tp p, w.var? Tryd.prog "strconv.ErrSyntax" = some #[.iface tp p]
  far : ∃ tp p, w.var? Tryd.prog "strconv.ErrRange" = some #[.iface tp p]
theorem var_stays {w w' : World} {n : String} {cs : Array Value} (hb : Below w.heap.size w w') (h : w.var? Tryd.prog n = some cs) : w'.var? Tryd.prog n = some cs := by
  unfold World.var? at h ⊢
  obtain ⟨g, hg, h⟩ := Option.bind_eq_some_iff.1 h
  rw [hg]
  have hlt : g < w.heap.size := by
    rcases Nat.lt_or_ge g w.heap.size with k | k
    · exact k
    · rw [Array.getElem?_eq_none k] at h; cases h
  show (match w'.heap[g]? with | some (.cells cs _ _) => some cs | _ => none) = some cs
  rw [hb.block g hlt]; exact h
theorem LaidW.below {w w' : World} (h : LaidW w) (hb : Below w.heap.size w w') : LaidW w' := by
  obtain ⟨h1, ⟨a, b, h2⟩, ⟨c, d, h3⟩⟩ := h
  exact ⟨var_stays hb h1, ⟨a, b, var_stays hb h2⟩, ⟨c, d, var_stays hb h3⟩⟩
theorem LaidW.drewN {w : World} (h : LaidW w) (n : Nat) : LaidW (w.drewN n) := ⟨h.tab, h.bad, h.far⟩

theorem byte_cell (m : Nat) : (Value.int .u8 (48 + ((m % 10 : Nat) : Int))) = Value.int .u8 ((digB m).toNat : Int) := by
  rw [digB_toNat]; congr 1
theorem ret_str {a b : List UInt8} (h : a = b) : Ending.returned (.string ⟨a.toArray⟩) = .returned (.string ⟨b.toArray⟩) := by rw [h]
theorem run_byte_string (w : World) (x : Int) (m : Nat) (hx : x = 48 + ((m % 10 : Nat) : Int)) :
    (convert 38 9 (.slice (some ⟨w.heap.size, 0, none⟩) 1 1)).run Tryd.prog (w.alloc (.cells #[.int .u8 x] 5)) = .ok (.string ⟨#[digB m]⟩) (w.alloc (.cells #[.int .u8 x] 5)) := by
  subst hx
  rw [byte_cell m]
  refine run_convert_bytes_back (P := Tryd.prog) _ 38 9 5 _ 1 [digB m] Tryd.underlying38 Tryd.underlying5 Tryd.underlying9 ?_
  intro j hj
  obtain rfl : j = 0 := by simpa using hj
  exact World.cell?_alloc_mark _ _ _ _ 0
theorem str_cons (c : UInt8) (l : List UInt8) : Value.string (⟨#[c]⟩ ++ ⟨l.toArray⟩) = .string ⟨(c :: l).toArray⟩ := by
  congr 1

set_option maxHeartbeats 800000 in
theorem ref_Text_pos (n : Nat) (w : World) (h1 : 1 ≤ n) (h2 : (n : Int) ≤ 9223372036854775807) :
    Calls Tryd.prog 13 #[.int .i64 ((n : Int))] w fun e w' => e = .returned (.string ⟨(Lib.itoa ((n : Int))).toArray⟩) ∧ Below w.heap.size w w' := by
  have h0 : (((n : Int)) == 0) = false := by rw [beq_eq_false_iff_ne]; omega
  have HL := Lib.hid (digs_length (n := n) (by omega))
  have HZ : Hid (digs n = Lib.itoa ((n : Int))) := by unfold digs Lib.itoa; rw [if_neg (by omega), if_neg (by omega)]; rfl
  go_enter Tryd.func13, Tryd.ntmps13
  go_wp2
  go_loopw [3, 4, 5] (fun u v _ wr => ∃ (m : Nat) (l : List UInt8), u = .string ⟨l.toArray⟩ ∧ v = .int .i64 ((m : Int)) ∧ m ≤ n ∧ Hid (digs m ++ l = digs n) ∧ Below w.heap.size w wr) (fun _ v _ _ => (intOf v).natAbs)
  case atStart => exact ⟨n, [], rfl, rfl, Nat.le_refl _, Lib.hid (by simp), Below.refl _ _⟩
  case round =>
    obtain ⟨m, l, rfl, rfl, hm, hd, hb⟩ := hrel
    have hl : l.length ≤ 20 := by have h := hd.out; have g := congrArg List.length h; have k := HL.out; rw [List.length_append] at g; omega
    by_cases hm0 : m = 0
    · subst hm0
      go_wp2
      go_ret
      exact ⟨ret_str (by have := hd.out; rw [digs_zero, List.nil_append] at this; rw [this, HZ.out]), hb⟩
    · have hne : (((m : Int)) != 0) = true := by rw [bne_iff_ne]; omega
      have hne2 : (((m : Int)) == 0) = false := by rw [beq_eq_false_iff_ne]; omega
      have HC := run_byte_string wr (48 + (m : Int) % 10) m (by omega)
      go_wp2
      go_roundw
      case rel => exact ⟨m / 10, digB m :: l, by rw [str_cons], by go_num, by omega, Lib.hid (digs_step hm0 hd.out), hb.alloc hb.size _⟩
      case measure => simp [intOf]; omega
set_option maxHeartbeats 800000 in
theorem ref_Text_neg (n : Nat) (w : World) (h1 : 1 ≤ n) (h2 : (n : Int) ≤ 9223372036854775808) :
    Calls Tryd.prog 13 #[.int .i64 (-(n : Int))] w fun e w' => e = .returned (.string ⟨(Lib.itoa (-(n : Int))).toArray⟩) ∧ Below w.heap.size w w' := by
  have h0 : ((-(n : Int)) == 0) = false := by rw [beq_eq_false_iff_ne]; omega
  have HL := Lib.hid (digs_length (n := n) (by omega))
  have HZ : Hid (45 :: digs n = Lib.itoa (-(n : Int))) := by unfold digs Lib.itoa; rw [if_neg (by omega), if_pos (by omega)]; congr 2; omega
  go_enter Tryd.func13, Tryd.ntmps13
  go_wp2
  go_loopw [3, 4, 5] (fun u v _ wr => ∃ (m : Nat) (l : List UInt8), u = .string ⟨l.toArray⟩ ∧ v = .int .i64 (-(m : Int)) ∧ m ≤ n ∧ Hid (digs m ++ l = digs n) ∧ Below w.heap.size w wr) (fun _ v _ _ => (intOf v).natAbs)
  case atStart => exact ⟨n, [], rfl, rfl, Nat.le_refl _, Lib.hid (by simp), Below.refl _ _⟩
  case round =>
    obtain ⟨m, l, rfl, rfl, hm, hd, hb⟩ := hrel
    have hl : l.length ≤ 20 := by have h := hd.out; have g := congrArg List.length h; have k := HL.out; rw [List.length_append] at g; omega
    by_cases hm0 : m = 0
    · subst hm0
      go_wp2
      go_ret
      exact ⟨(by rw [str_cons]; exact ret_str (by have := hd.out; rw [digs_zero, List.nil_append] at this; rw [this, HZ.out])), hb⟩
    · have hne : ((-(m : Int)) != 0) = true := by rw [bne_iff_ne]; omega
      have hne2 : ((-(m : Int)) == 0) = false := by rw [beq_eq_false_iff_ne]; omega
      have hq : (-(m : Int)).tdiv 10 = -((m / 10 : Nat) : Int) := by rw [Int.neg_tdiv, Int.tdiv_eq_ediv_of_nonneg (by omega)]; omega
      have hr : (-(m : Int)).tmod 10 = -((m % 10 : Nat) : Int) := by rw [Int.neg_tmod, Int.tmod_eq_emod_of_nonneg (by omega)]; omega
      by_cases hz : (m : Int) % 10 = 0
      · have HC := run_byte_string wr 48 m (by omega)
        go_wp2
        go_roundw
        case rel => exact ⟨m / 10, digB m :: l, by rw [str_cons], by go_num, by omega, Lib.hid (digs_step hm0 hd.out), hb.alloc hb.size _⟩
        case measure => simp [intOf]; omega
      · have hz' : 0 < (m : Int) % 10 := by omega
        have HC := run_byte_string wr (48 + (m : Int) % 10) m (by omega)
        go_wp2
        go_roundw
        case rel => exact ⟨m / 10, digB m :: l, by rw [str_cons], by go_num, by omega, Lib.hid (digs_step hm0 hd.out), hb.alloc hb.size _⟩
        case measure => simp [intOf]; omega

set_option maxHeartbeats 400000 in
theorem ref_Text_zero (w : World) :
    Calls Tryd.prog 13 #[.int .i64 0] w fun e w' => e = .returned (.string ⟨(Lib.itoa 0).toArray⟩) ∧ Below w.heap.size w w' := by
  have HZ : Hid (Lib.itoa 0 = [48]) := by rw [Lib.itoa, if_neg (by omega), decDigits_rec]; rfl
  go_enter Tryd.func13, Tryd.ntmps13
  go_wp2
  go_ret
  exact ⟨by rw [HZ.out]; rfl, Below.refl _ _⟩

theorem ref_Text (n : Int) (w : World) (h1 : -9223372036854775808 ≤ n) (h2 : n ≤ 9223372036854775807) :
    Calls Tryd.prog 13 #[.int .i64 n] w fun e w' => e = .returned (.string ⟨(Lib.itoa n).toArray⟩) ∧ Below w.heap.size w w' := by
  by_cases h0 : n = 0
  · subst h0; exact ref_Text_zero w
  · by_cases hp : 0 < n
    · have h := ref_Text_pos n.toNat w (by omega) (by omega)
      rw [show ((n.toNat : Nat) : Int) = n from by omega] at h; exact h
    · have h := ref_Text_neg n.natAbs w (by omega) (by omega)
      rw [show (-((n.natAbs : Nat) : Int)) = n from by omega] at h; exact h

set_option maxHeartbeats 400000 in
theorem num_Text (n : Int) (w : World) (hw : LaidW w) (h1 : -9223372036854775808 ≤ n) (h2 : n ≤ 9223372036854775807) :
    Calls Tryd.prog 12 #[.int .i64 n] w fun e w' => e = .returned (.string ⟨(Lib.itoa n).toArray⟩) ∧ Below w.heap.size w w' := by
  go_enter Tryd.func12, Tryd.ntmps12
  go_wp2_with fail
  refine (Tryd.strconv_Itoa n h1 h2 _ hw.tab).mono ?_
  rintro e w' ⟨rfl, k, os, rfl⟩
  have hb := Lib.below_grow w.heap.size w (Nat.le_refl _) k os
  generalize Sort.grow (w.drewN k) os = w1 at hb ⊢
  go_wp2
  go_ret
  exact ⟨rfl, hb⟩
end Go.Proofs.YtbknklhkhcbioaaDoor
