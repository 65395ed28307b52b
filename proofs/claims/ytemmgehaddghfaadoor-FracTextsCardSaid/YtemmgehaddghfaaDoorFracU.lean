/- THE WALKS over the reference's texts: digits, Text, number. -/
import Derived.Test.YtemmgehaddghfaaDoorFracY
import Derived.Test.YtemmgehaddghfaaDoorPlainQ
namespace Go.Proofs.YtemmgehaddghfaaDoor
open Go.RowKit

set_option maxRecDepth 100000 in
set_option maxHeartbeats 1600000 in
theorem r3_digits_pos (n : Nat) (w : World) (h2 : n ≤ 1000000000000000) :
    Calls Tryd.prog 52 #[.int .i64 ((n : Int))] w fun e w' => e = .returned (.string ⟨(Lib.decDigits n).toArray⟩) ∧ Below w.heap.size w w' := by
  have HL : Hid ((Lib.decDigits n).length ≤ 17) := Lib.hid (by have := decDigits_length 16 n (by omega); exact this)
  have HLast := Lib.hid (decDigits_last n)
  have hneg : decide ((n : Int) < 0) = false := decide_eq_false (by omega)
  go_enter Tryd.func52, Tryd.ntmps52
  have HC := run_byte_string w (48 + (n : Int) % 10) n (by omega)
  go_wp2_with fail
  have hb0 := (Below.refl w.heap.size w).alloc (Nat.le_refl _) (.cells #[.int .u8 (48 + (n : Int) % 10)] 5)
  refine forget_world (fun W => Below w.heap.size w W) hb0 ?_
  clear hb0 HC
  rintro W hbW
  go_loopw [0, 3] (fun v u wr => ∃ (m : Nat) (l : List UInt8), u = .string ⟨l.toArray⟩ ∧ v = .int .i64 ((m : Int)) ∧ m ≤ n ∧ Hid (digs m ++ l = Lib.decDigits n) ∧ Below w.heap.size w wr) (fun v _ _ => (intOf v).natAbs)
  case atStart => exact ⟨n / 10, [digB n], rfl, by go_num, by omega, Lib.hid HLast.out.symm, hbW⟩
  case round =>
    obtain ⟨m, l, rfl, rfl, hm, hd, hb⟩ := hrel
    clear hbW
    have hl : l.length ≤ 17 := by have h := hd.out; have g := congrArg List.length h; have k := HL.out; rw [List.length_append] at g; omega
    have hl2 : ¬ 9223372036854775807 < 1 + l.length := by omega
    by_cases hm0 : m = 0
    · subst hm0
      go_wp2
      go_ret
      exact ⟨ret_str (by have := hd.out; rw [digs_zero, List.nil_append] at this; exact this), hb⟩
    · have hne : decide (0 < (m : Int)) = true := decide_eq_true (by omega)
      have HC := run_byte_string wr (48 + (m : Int) % 10) m (by omega)
      go_wp2
      go_roundw
      case rel => exact ⟨m / 10, digB m :: l, by rw [str_cons], by go_num, by omega, Lib.hid (by have h := hd.out; rw [digs_pos hm0, List.append_assoc] at h; exact h), hb.alloc hb.size _⟩
      case measure => simp [intOf]; omega

theorem str_minus (l : List UInt8) : (⟨#[45]⟩ ++ ⟨l.toArray⟩ : ByteArray) = ⟨(45 :: l).toArray⟩ := by
  apply ByteArray.ext
  apply Array.toList_inj.1
  simp

set_option maxHeartbeats 1600000 in
theorem r3_digits (n : Int) (w : World) (h1 : -1000000000000000 ≤ n) (h2 : n ≤ 1000000000000000) :
    Calls Tryd.prog 52 #[.int .i64 n] w fun e w' => e = .returned (.string ⟨(Lib.itoa n).toArray⟩) ∧ Below w.heap.size w w' := by
  by_cases h : n < 0
  · have HI : Hid (Lib.itoa n = 45 :: Lib.decDigits n.natAbs) := by show _ = _; unfold Lib.itoa; rw [if_pos h]
    have HC := Lib.hid (fun w => r3_digits_pos n.natAbs w (by omega))
    rw [show ((n.natAbs : Nat) : Int) = -n from by omega] at HC
    have hl : ¬ 9223372036854775807 < 1 + (Lib.decDigits n.natAbs).length := by have := decDigits_length 16 n.natAbs (by omega); omega
    go_enter Tryd.func52, Tryd.ntmps52
    go_wp2_with fail
    refine (HC.out _).mono ?_
    rintro e w1 ⟨rfl, hb⟩
    go_wp2_with fail
    go_ret
    exact ⟨(congrArg (fun z => Ending.returned (.string z)) (str_minus _)).trans (by rw [HI.out]), hb⟩
  · have hk := r3_digits_pos n.toNat w (by omega)
    rw [show ((n.toNat : Nat) : Int) = n from by omega] at hk
    have e : Lib.itoa n = Lib.decDigits n.toNat := by unfold Lib.itoa; rw [if_neg h]
    rw [e]; exact hk

/-- what the frame of the reference's Text holds -/
def RTextSt (w : World) (n d : Int) (V : World) : Prop := Below w.heap.size w V ∧ w.heap.size < V.heap.size ∧ V.cell? ⟨w.heap.size, 0, none⟩ = some (.int .i64 n) ∧ V.cell? ⟨w.heap.size, 1, none⟩ = some (.int .i64 d)

theorem RTextSt.step {w : World} {n d : Int} {V V' : World} (q : RTextSt w n d V) (hb : Below V.heap.size V V') : RTextSt w n d V' := by
  obtain ⟨q0, q1, q2, q3⟩ := q
  obtain ⟨hc, hf⟩ := bcell hb
  have hs := hb.size
  exact ⟨below_step q0 hb, by omega, (hc _ _ (by omega)).trans q2, (hc _ _ (by omega)).trans q3⟩

theorem RTextSt.conj {w : World} {n d : Int} {V : World} (q : RTextSt w n d V) : V.cell? ⟨w.heap.size, 0, none⟩ = some (.int .i64 n) ∧ V.cell? ⟨w.heap.size, 1, none⟩ = some (.int .i64 d) ∧ RTextSt w n d V := ⟨q.2.2.1, q.2.2.2, q⟩

theorem RTextSt.drew {w : World} {n d : Int} {V : World} (q : RTextSt w n d V) : RTextSt w n d V.drew := q.step (below_drew' (Below.refl _ _))

set_option maxHeartbeats 1600000 in
theorem r3_Text (n d : Int) (w : World) :
    Calls Tryd.prog 27 #[.agg #[.int .i64 n, .int .i64 d]] w fun e w' => e = .returned (.string ⟨(textS n d).toArray⟩) ∧ Below w.heap.size w w' := by
  cases hv : validB n d
  · have HR : Hid (textS n d = []) := by show textS n d = []; unfold textS; rw [hv]; rfl
    go_enter Tryd.func27, Tryd.ntmps27
    go_wp2_with fail
    refine (r3_Valid _ _ _).mono ?_
    rintro e w' ⟨rfl, hbb⟩
    have hb1 : Below w.heap.size w w' := Below.trans (b := _) (by repeat (first | with_reducible exact Below.refl _ _ | with_reducible assumption | with_reducible refine below_drewN' ?_ _ | (with_reducible refine Below.setCell ?_ (by first | (simp; done) | (simp; omega)) _) | (with_reducible refine Below.alloc ?_ (by first | exact Nat.le_refl _ | (simp; done) | (simp; omega)) _))) (hbb.mono (by simp))
    go_wp2_with fail
    go_ret
    exact ⟨by rw [HR.out]; rfl, hb1⟩
  · obtain ⟨h1, h2, ⟨h3, h4⟩, -⟩ := validB_iff.1 hv
    by_cases hd : d = 1
    · have HR : Hid (textS n d = Lib.itoa n) := by show textS n d = _; unfold textS; rw [hv, if_pos rfl, if_pos hd]
      have hd1 : (d == 1) = true := beq_iff_eq.2 hd
      clear hd
      go_enter Tryd.func27, Tryd.ntmps27
      go_wp2_with fail
      refine (r3_Valid _ _ _).mono ?_
      rintro e w' ⟨rfl, hbb⟩
      have hb1 : Below w.heap.size w w' := Below.trans (b := _) (by repeat (first | with_reducible exact Below.refl _ _ | with_reducible assumption | with_reducible refine below_drewN' ?_ _ | (with_reducible refine Below.setCell ?_ (by first | (simp; done) | (simp; omega)) _) | (with_reducible refine Below.alloc ?_ (by first | exact Nat.le_refl _ | (simp; done) | (simp; omega)) _))) (hbb.mono (by simp))
      obtain ⟨hc, hf⟩ := bcell hbb
      have c0 : w'.cell? ⟨w.heap.size, 0, none⟩ = some (.int .i64 n) := (hc _ _ (by simp)).trans (by go_simp)
      have c1 : w'.cell? ⟨w.heap.size, 1, none⟩ = some (.int .i64 d) := (hc _ _ (by simp)).trans (by go_simp)
      clear hc hf hbb
      go_wp2_with fail
      refine (r3_digits _ _ (by omega) (by omega)).mono ?_
      rintro e w2 ⟨rfl, hb2⟩
      go_wp2_with fail
      go_ret
      exact ⟨by rw [HR.out]; rfl, below_step hb1 hb2⟩
    · have HR : Hid (textS n d = Lib.itoa n ++ 47 :: Lib.itoa d) := by show textS n d = _; unfold textS; rw [hv, if_pos rfl, if_neg hd]
      have hd1 : (d == 1) = false := beq_eq_false_iff_ne.2 hd
      clear hd
      go_enter Tryd.func27, Tryd.ntmps27
      go_wp2_with fail
      refine (r3_Valid _ _ _).mono ?_
      rintro e w' ⟨rfl, hbb⟩
      have hb1 : Below w.heap.size w w' := Below.trans (b := _) (by repeat (first | with_reducible exact Below.refl _ _ | with_reducible assumption | with_reducible refine below_drewN' ?_ _ | (with_reducible refine Below.setCell ?_ (by first | (simp; done) | (simp; omega)) _) | (with_reducible refine Below.alloc ?_ (by first | exact Nat.le_refl _ | (simp; done) | (simp; omega)) _))) (hbb.mono (by simp))
      obtain ⟨hc, hf⟩ := bcell hbb
      have c0 : w'.cell? ⟨w.heap.size, 0, none⟩ = some (.int .i64 n) := (hc _ _ (by simp)).trans (by go_simp)
      have c1 : w'.cell? ⟨w.heap.size, 1, none⟩ = some (.int .i64 d) := (hc _ _ (by simp)).trans (by go_simp)
      clear hc hf
      go_wp2_with fail
      have L1 := itoa_len h3 h4
      have L2 := itoa_len (n := d) (by omega) (by omega)
      have L3 : ¬ 9223372036854775807 < (Lib.itoa n).length + 1 := by omega
      have L4 : ¬ 9223372036854775807 < (Lib.itoa n).length + 1 + (Lib.itoa d).length := by omega
      clear L1 L2
      have st : RTextSt w n d w' := ⟨hb1, by have := hbb.size; simp at this; omega, c0, c1⟩
      clear c0 c1 hb1
      go_region_held3 (fun V => V.cell? ⟨w.heap.size, 0, none⟩ = some (.int .i64 n) ∧ V.cell? ⟨w.heap.size, 1, none⟩ = some (.int .i64 d) ∧ RTextSt w n d V) (first | exact (RTextSt.drew st).conj | exact RTextSt.conj (by assumption)) ((go_at_call 52; refine (r3_digits _ _ (by omega) (by omega)).mono ?_; rintro e w3 ⟨rfl, hb3⟩; have hst := RTextSt.step (‹_ ∧ _ ∧ RTextSt _ _ _ _›.2.2) hb3))
      all_goals go_wp2_with fail
      all_goals go_ret
      all_goals exact ⟨(congrArg (fun z => Ending.returned (.string z)) (str_join _ _)).trans (by rw [HR.out]), (‹_ ∧ _ ∧ RTextSt _ _ _ _›.2.2).1⟩


set_option maxHeartbeats 1600000 in
theorem r3_number (s : ByteArray) (k0 : Nat) (w : World) (hk0 : k0 ≤ s.size) (hs : s.size ≤ 281474976710656) :
    Calls Tryd.prog 50 #[.string s, .int .i64 k0] w fun e w' => e = .returned (.tuple #[.int .i64 (((numF 0 (s.data.toList.drop k0)).1 : Nat) : Int), .int .i64 ((k0 + (numF 0 (s.data.toList.drop k0)).2 : Nat) : Int)]) ∧ Below w.heap.size w w' := by
  obtain ⟨N, hN⟩ : ∃ N, Hid (numF 0 (s.data.toList.drop k0) = N) := ⟨_, rfl⟩
  rw [hN.out]
  have HBE0 := Lib.hid (Below.refl w.heap.size w)
  go_enter Tryd.func50, Tryd.ntmps50
  go_wp2
  go_loop [1, 6] (fun v u => ∃ (k n : Nat), v = .int .i64 k ∧ u = .int .i64 n ∧ k ≤ s.size ∧ n ≤ 10000000000000009 ∧ Hid (k0 ≤ k ∧ (numF n (s.data.toList.drop k)).1 = N.1 ∧ k + (numF n (s.data.toList.drop k)).2 = k0 + N.2)) (fun v _ => s.size - (intOf v).toNat)
  case atStart => exact ⟨k0, 0, rfl, rfl, hk0, by omega, Lib.hid ⟨Nat.le_refl _, by rw [hN.out], by rw [hN.out]⟩⟩
  case round =>
    obtain ⟨k, n, rfl, rfl, hk, hn, hI⟩ := hrel
    by_cases hlt : k < s.size
    · have hdr : Hid (s.data.toList.drop k = s[k] :: s.data.toList.drop (k + 1)) := Lib.hid (by rw [List.drop_eq_getElem_cons (by simpa using hlt)]; rfl)
      by_cases hgo : 48 ≤ s[k].toNat ∧ s[k].toNat ≤ 57 ∧ n ≤ 1000000000000000
      · obtain ⟨g1, g2, g3⟩ := hgo
        have hd : Hid (numF n (s.data.toList.drop k) = ((numF (n * 10 + (s[k].toNat - 48)) (s.data.toList.drop (k + 1))).1, (numF (n * 10 + (s[k].toNat - 48)) (s.data.toList.drop (k + 1))).2 + 1)) := Lib.hid (by
          rw [hdr.out]
          simp only [numF]
          rw [if_pos (by rw [Bool.and_eq_true]; exact ⟨by unfold isDig; rw [Bool.and_eq_true, decide_eq_true_iff, decide_eq_true_iff]; exact ⟨g1, g2⟩, decide_eq_true g3⟩)])
        go_wp2
        go_round
        case rel => exact ⟨k + 1, n * 10 + (s[k].toNat - 48), by go_num, by go_num, by omega, by omega, Lib.hid (by obtain ⟨i1, i2, i3⟩ := hI.out; rw [hd.out] at i2 i3; exact ⟨by omega, i2, by simp only at i3; omega⟩)⟩
        case measure => simp [intOf]; omega
      · have hd : Hid (numF n (s.data.toList.drop k) = (n, 0)) := Lib.hid (by
          rw [hdr.out]
          simp only [numF]
          rw [if_neg (by rw [Bool.and_eq_true]; rintro ⟨q1, q2⟩; unfold isDig at q1; rw [Bool.and_eq_true, decide_eq_true_iff, decide_eq_true_iff] at q1; exact hgo ⟨q1.1, q1.2, of_decide_eq_true q2⟩)])
        have HF : Hid (N.1 = n ∧ k0 + N.2 = k) := Lib.hid (by obtain ⟨i1, i2, i3⟩ := hI.out; rw [hd.out] at i2 i3; exact ⟨i2.symm, i3.symm⟩)
        have hgo' : s[k].toNat < 48 ∨ 57 < s[k].toNat ∨ 1000000000000000 < n := by omega
        clear hgo
        rcases hgo' with h | h | h
        all_goals
          go_wp2
          all_goals go_ret2
          all_goals exact ⟨by rw [HF.out.1, show (k0 : Int) + (N.2 : Int) = (k : Int) from by have := HF.out.2; omega]; rfl, HBE0.out⟩
    · have hd : Hid (numF n (s.data.toList.drop k) = (n, 0)) := Lib.hid (by
        rw [List.drop_eq_nil_of_le (by simp; omega)]; rfl)
      have HF : Hid (N.1 = n ∧ k0 + N.2 = k) := Lib.hid (by obtain ⟨i1, i2, i3⟩ := hI.out; rw [hd.out] at i2 i3; exact ⟨i2.symm, i3.symm⟩)
      go_wp2
      go_ret2
      exact ⟨by rw [HF.out.1, show (k0 : Int) + (N.2 : Int) = (k : Int) from by have := HF.out.2; omega]; rfl, HBE0.out⟩

end Go.Proofs.YtemmgehaddghfaaDoor
