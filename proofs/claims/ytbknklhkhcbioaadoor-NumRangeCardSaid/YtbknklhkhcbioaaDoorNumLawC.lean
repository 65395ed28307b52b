/- THE WALKS over the laws of chapter 1, third part. -/
import Derived.Test.YtbknklhkhcbioaaDoorNumLawB
namespace Go.Proofs.YtbknklhkhcbioaaDoor
open Go.RowKit

theorem itoa_small {n : Int} (h1 : -9223372036854775808 ≤ n) (h2 : n ≤ 9223372036854775807) : (⟨(Lib.itoa n).toArray⟩ : ByteArray).size ≤ 281474976710656 := by
  have : (Lib.itoa n).length ≤ 21 := by
    unfold Lib.itoa
    split
    · have := decDigits_length 18 n.natAbs (by omega)
      simp; omega
    · have := decDigits_length 18 n.toNat (by omega)
      omega
  show (Lib.itoa n).toArray.size ≤ _
  rw [List.size_toArray]; omega
theorem parse_itoa_yes {n : Int} (h : inB n = true) : parseB (Lib.itoa n) = true ∧ parseV (Lib.itoa n) = n := parse_yes h rfl
theorem parse_itoa_no {n : Int} (h : inB n = false) : parseB (Lib.itoa n) = false ∧ parseV (Lib.itoa n) = 0 := by
  have hb : parseB (Lib.itoa n) = false := by unfold parseB; rw [numOf_itoa, h]; rfl
  exact ⟨hb, by unfold parseV; rw [hb]; rfl⟩

set_option maxHeartbeats 1600000 in
theorem law_NumBack (n : Int) (s : ByteArray) (w : World) (hw : LaidW w) (h1 : -9223372036854775808 ≤ n) (h2 : n ≤ 9223372036854775807) (hs : s.size ≤ 9223372036854775807) :
    Calls Tryd.prog 4 #[.int .i64 n, .string s] w fun e w' => e = .returned (.bool true) ∧ Below w.heap.size w w' := by
  have hb0 := Below.refl w.heap.size w
  by_cases h100 : 100 < s.size
  · go_enter Tryd.func4, Tryd.ntmps4
    go_wp2_with fail
    refine (law_alive _ (hw.below hb0)).mono ?_
    rintro e wz ⟨rfl, hbz⟩
    go_wp2
    go_ret
    exact ⟨rfl, below_step hb0 hbz⟩
  · have hsm : s.size ≤ 281474976710656 := by omega
    rcases inB_cases n with ⟨hi, hi1, hi2⟩ | ⟨hi, hi1⟩
    · obtain ⟨q1, q2⟩ := parse_itoa_yes hi
      cases pb : parseB s.data.toList
      · have hbyt := ByteArray.toList_eq s
        go_enter Tryd.func4, Tryd.ntmps4
        go_wp2_with fail
        refine (num_Text n _ hw h1 h2).mono ?_
        rintro e wa ⟨rfl, ha⟩
        go_wp2_with fail
        refine (num_Parse ⟨(Lib.itoa n).toArray⟩ _ (hw.below ha) (itoa_small h1 h2)).mono ?_
        rintro e wb ⟨rfl, hb'⟩
        have hb := below_step ha hb'
        clear hb'
        go_wp2_with (go_at_call 15; refine (num_In _ _).mono ?_; rintro e w' ⟨rfl, rfl⟩)
        refine (num_Parse s _ (hw.below hb) hsm).mono ?_
        rintro e wc ⟨rfl, hc'⟩
        have hc := below_step hb hc'
        clear hc'
        go_wp2_with fail
        refine (law_alive _ (hw.below hc)).mono ?_
        rintro e wz ⟨rfl, hbz⟩
        go_wp2
        go_ret
        exact ⟨rfl, below_step hc hbz⟩
      · obtain ⟨p1, p2⟩ := parse_inv pb
        have ⟨p3', p4'⟩ := inB_true.1 p1
        have p3 : -9223372036854775808 ≤ parseV s.data.toList := by omega
        have p4 : parseV s.data.toList ≤ 9223372036854775807 := by omega
        have hbyt := ByteArray.toList_eq s
        go_enter Tryd.func4, Tryd.ntmps4
        go_wp2_with fail
        refine (num_Text n _ hw h1 h2).mono ?_
        rintro e wa ⟨rfl, ha⟩
        go_wp2_with fail
        refine (num_Parse ⟨(Lib.itoa n).toArray⟩ _ (hw.below ha) (itoa_small h1 h2)).mono ?_
        rintro e wb ⟨rfl, hb'⟩
        have hb := below_step ha hb'
        clear hb'
        go_wp2_with (go_at_call 15; refine (num_In _ _).mono ?_; rintro e w' ⟨rfl, rfl⟩)
        refine (num_Parse s _ (hw.below hb) hsm).mono ?_
        rintro e wc ⟨rfl, hc'⟩
        have hc := below_step hb hc'
        clear hc'
        go_wp2_with fail
        refine (num_Text _ _ (hw.below hc) p3 p4).mono ?_
        rintro e wd ⟨rfl, hd'⟩
        have hd := below_step hc hd'
        clear hd'
        go_wp2_with (go_at_call 15; refine (num_In _ _).mono ?_; rintro e w' ⟨rfl, rfl⟩)
        go_wp2_with fail
        refine (law_alive _ (hw.below hd)).mono ?_
        rintro e wz ⟨rfl, hbz⟩
        go_wp2
        go_ret
        exact ⟨rfl, below_step hd hbz⟩
    · obtain ⟨q1, q2⟩ := parse_itoa_no hi
      cases pb : parseB s.data.toList
      · have hbyt := ByteArray.toList_eq s
        go_enter Tryd.func4, Tryd.ntmps4
        go_wp2_with fail
        refine (num_Text n _ hw h1 h2).mono ?_
        rintro e wa ⟨rfl, ha⟩
        go_wp2_with fail
        refine (num_Parse ⟨(Lib.itoa n).toArray⟩ _ (hw.below ha) (itoa_small h1 h2)).mono ?_
        rintro e wb ⟨rfl, hb'⟩
        have hb := below_step ha hb'
        clear hb'
        go_wp2_with (go_at_call 15; refine (num_In _ _).mono ?_; rintro e w' ⟨rfl, rfl⟩)
        refine (num_Parse s _ (hw.below hb) hsm).mono ?_
        rintro e wc ⟨rfl, hc'⟩
        have hc := below_step hb hc'
        clear hc'
        go_wp2_with fail
        refine (law_alive _ (hw.below hc)).mono ?_
        rintro e wz ⟨rfl, hbz⟩
        go_wp2
        go_ret
        exact ⟨rfl, below_step hc hbz⟩
      · obtain ⟨p1, p2⟩ := parse_inv pb
        have ⟨p3', p4'⟩ := inB_true.1 p1
        have p3 : -9223372036854775808 ≤ parseV s.data.toList := by omega
        have p4 : parseV s.data.toList ≤ 9223372036854775807 := by omega
        have hbyt := ByteArray.toList_eq s
        go_enter Tryd.func4, Tryd.ntmps4
        go_wp2_with fail
        refine (num_Text n _ hw h1 h2).mono ?_
        rintro e wa ⟨rfl, ha⟩
        go_wp2_with fail
        refine (num_Parse ⟨(Lib.itoa n).toArray⟩ _ (hw.below ha) (itoa_small h1 h2)).mono ?_
        rintro e wb ⟨rfl, hb'⟩
        have hb := below_step ha hb'
        clear hb'
        go_wp2_with (go_at_call 15; refine (num_In _ _).mono ?_; rintro e w' ⟨rfl, rfl⟩)
        refine (num_Parse s _ (hw.below hb) hsm).mono ?_
        rintro e wc ⟨rfl, hc'⟩
        have hc := below_step hb hc'
        clear hc'
        go_wp2_with fail
        refine (num_Text _ _ (hw.below hc) p3 p4).mono ?_
        rintro e wd ⟨rfl, hd'⟩
        have hd := below_step hc hd'
        clear hd'
        go_wp2_with (go_at_call 15; refine (num_In _ _).mono ?_; rintro e w' ⟨rfl, rfl⟩)
        go_wp2_with fail
        refine (law_alive _ (hw.below hd)).mono ?_
        rintro e wz ⟨rfl, hbz⟩
        go_wp2
        go_ret
        exact ⟨rfl, below_step hd hbz⟩

theorem div_spec {a b : Int} (ha : inB a = true) (hb : inB b = true) (h0 : b ≠ 0) : divV a b * b + modV a b = a ∧ (-1000000000000000 ≤ divV a b * b ∧ divV a b * b ≤ 1000000000000000) ∧ (-1000000000000000 ≤ modV a b ∧ modV a b ≤ 1000000000000000) ∧ (0 ≤ a → 0 ≤ modV a b) ∧ (a < 0 → modV a b ≤ 0) ∧ modV a b < (b.natAbs : Int) ∧ -(b.natAbs : Int) < modV a b ∧ (0 < modV a b → 0 < a) ∧ (modV a b < 0 → a < 0) := by
  have ⟨a1, a2⟩ := inB_true.1 ha
  unfold divV modV
  rw [divB_yes ha hb h0, if_pos rfl, if_pos rfl]
  have e := Int.tdiv_mul_add_tmod a b
  have t := tmod_in (b := b) a1 a2
  have l : (a.tmod b).natAbs < b.natAbs := by rw [Int.natAbs_tmod]; exact Nat.mod_lt _ (by omega)
  have s1 : 0 ≤ a → 0 ≤ a.tmod b := fun h => Int.tmod_nonneg _ h
  have s2 : a < 0 → a.tmod b ≤ 0 := fun h => by
    have := Int.tmod_nonneg b (show 0 ≤ -a by omega)
    rw [Int.neg_tmod] at this; omega
  have hq : (a.tdiv b * b).natAbs ≤ a.natAbs := by
    rw [Int.natAbs_mul, Int.natAbs_tdiv]; exact Nat.div_mul_le_self _ _
  have lm : (a.tmod b).natAbs ≤ a.natAbs := by rw [Int.natAbs_tmod]; exact Nat.mod_le _ _
  refine ⟨e, ⟨by omega, by omega⟩, t, s1, s2, by omega, by omega, ?_, ?_⟩
  · intro h
    rcases Int.lt_trichotomy a 0 with g | g | g
    · have := s2 g; omega
    · omega
    · exact g
  · intro h
    rcases Int.lt_trichotomy a 0 with g | g | g
    · exact g
    · omega
    · have := s1 (by omega); omega
theorem gcd_facts {a b : Int} (ha : inB a = true) (hb : inB b = true) : 0 ≤ gcdV a b ∧ gcdV a b ≤ 1000000000000000 ∧ a.tmod (gcdV a b) = 0 ∧ b.tmod (gcdV a b) = 0 ∧ gcdV b a = gcdV a b ∧ (gcdV a b = 0 → a = 0 ∧ b = 0) ∧ (∀ k : Int, a.tmod k = 0 → b.tmod k = 0 → (gcdV a b).tmod k = 0) := by
  have ⟨a1, a2⟩ := inB_true.1 ha
  have ⟨b1, b2⟩ := inB_true.1 hb
  rw [gcdV_yes ha hb, gcdV_yes hb ha]
  have d1 := Nat.gcd_dvd_left a.natAbs b.natAbs
  have d2 := Nat.gcd_dvd_right a.natAbs b.natAbs
  refine ⟨by omega, ?_, ?_, ?_, by rw [Nat.gcd_comm], ?_, ?_⟩
  · rcases Nat.eq_zero_or_pos a.natAbs with h | h
    · rcases Nat.eq_zero_or_pos b.natAbs with g | g
      · rw [h, g]; decide
      · have := Nat.le_of_dvd g d2; omega
    · have := Nat.le_of_dvd h d1; omega
  · exact Int.tmod_eq_zero_of_dvd (Int.ofNat_dvd_left.2 d1)
  · exact Int.tmod_eq_zero_of_dvd (Int.ofNat_dvd_left.2 d2)
  · intro h
    have := Nat.eq_zero_of_gcd_eq_zero_left (m := a.natAbs) (n := b.natAbs) (by omega)
    have := Nat.eq_zero_of_gcd_eq_zero_right (m := a.natAbs) (n := b.natAbs) (by omega)
    omega
  · intro k h1 h2
    have e1 := Int.natAbs_dvd_natAbs.2 (Int.dvd_of_tmod_eq_zero h1)
    have e2 := Int.natAbs_dvd_natAbs.2 (Int.dvd_of_tmod_eq_zero h2)
    exact Int.tmod_eq_zero_of_dvd (Int.ofNat_dvd_right.2 (Nat.dvd_gcd e1 e2))
end Go.Proofs.YtbknklhkhcbioaaDoor
