/- THE WALK over the reference's sum of signed wide numbers. -/
import Derived.Test.YtemmgehaddghfaaDoorFracTa
namespace Go.Proofs.YtemmgehaddghfaaDoor
open Go.RowKit

/-- a sign and a wide magnitude -/
def SumIs (T : Int) (w : World) (e : Ending) (w' : World) : Prop := ∃ (g : Nat) (f : Nat → Nat), e = .returned (.tuple #[.int .i64 (sgn T), .slice (some ⟨g, 0, none⟩) 14 14]) ∧ RowW w' g f ∧ SmallW f ∧ valW f = T.natAbs ∧ Below w.heap.size w w'

/-- a sign of a magnitude -/
def SignOf (s : Int) (v : Nat) : Prop := (s = 0 ∧ v = 0) ∨ ((s = 1 ∨ s = -1) ∧ 0 < v)

theorem sgn_of {s : Int} {v : Nat} (h : SignOf s v) : sgn (s * v) = s ∧ (s * (v : Int)).natAbs = v := by
  rcases h with ⟨rfl, rfl⟩ | ⟨rfl | rfl, h⟩
  · exact ⟨rfl, rfl⟩
  · unfold sgn; rw [if_neg (by omega), if_pos (by omega)]; exact ⟨rfl, by omega⟩
  · unfold sgn; rw [if_pos (by omega)]; exact ⟨rfl, by omega⟩

theorem rows_two {V : World} : RowW ((V.alloc (.cells #[.int .i64 0, .int .i64 0, .int .i64 0, .int .i64 0, .int .i64 0, .int .i64 0, .int .i64 0, .int .i64 0, .int .i64 0, .int .i64 0, .int .i64 0, .int .i64 0, .int .i64 0, .int .i64 0] 3)).alloc (.cells #[.int .i64 0, .int .i64 0, .int .i64 0, .int .i64 0, .int .i64 0, .int .i64 0, .int .i64 0, .int .i64 0, .int .i64 0, .int .i64 0, .int .i64 0, .int .i64 0, .int .i64 0, .int .i64 0] 3)) V.heap.size (fun _ => 0) ∧
    RowW ((V.alloc (.cells #[.int .i64 0, .int .i64 0, .int .i64 0, .int .i64 0, .int .i64 0, .int .i64 0, .int .i64 0, .int .i64 0, .int .i64 0, .int .i64 0, .int .i64 0, .int .i64 0, .int .i64 0, .int .i64 0] 3)).alloc (.cells #[.int .i64 0, .int .i64 0, .int .i64 0, .int .i64 0, .int .i64 0, .int .i64 0, .int .i64 0, .int .i64 0, .int .i64 0, .int .i64 0, .int .i64 0, .int .i64 0, .int .i64 0, .int .i64 0] 3)) (V.heap.size + 1) (fun _ => 0) := by
  constructor
  · exact (RowW.new V 3).step ((Below.refl _ _).alloc (Nat.le_refl _) _)
  · have h := RowW.new (V.alloc (.cells #[.int .i64 0, .int .i64 0, .int .i64 0, .int .i64 0, .int .i64 0, .int .i64 0, .int .i64 0, .int .i64 0, .int .i64 0, .int .i64 0, .int .i64 0, .int .i64 0, .int .i64 0, .int .i64 0] 3)) 3
    rw [show (V.alloc (.cells #[.int .i64 0, .int .i64 0, .int .i64 0, .int .i64 0, .int .i64 0, .int .i64 0, .int .i64 0, .int .i64 0, .int .i64 0, .int .i64 0, .int .i64 0, .int .i64 0, .int .i64 0, .int .i64 0] 3)).heap.size = V.heap.size + 1 from by simp] at h
    exact h

theorem valW_zero : valW (fun _ => 0) = 0 := by
  obtain ⟨n, hn⟩ : ∃ n : Nat, n = 14 := ⟨_, rfl⟩
  rw [valW_def _ hn, valN_zero]

theorem small_zero : SmallW (fun _ => 0) := fun _ => by simp

set_option maxRecDepth 100000 in
set_option maxHeartbeats 3200000 in
theorem r3_sum (an bn : Int) (gx gy : Nat) (x y : Nat → Nat) (w : World) (hx : RowW w gx x) (hy : RowW w gy y) (sx : SmallW x) (sy : SmallW y) (sa : SignOf an (valW x)) (sb : SignOf bn (valW y)) (bx : valW x ≤ 1000000000000000000000000000000) (by' : valW y ≤ 1000000000000000000000000000000) :
    Calls Tryd.prog 43 #[.int .i64 an, .slice (some ⟨gx, 0, none⟩) 14 14, .int .i64 bn, .slice (some ⟨gy, 0, none⟩) 14 14] w (SumIs (an * valW x + bn * valW y) w) := by
  have HB := Lib.hid (And.intro bx by')
  have HX := Lib.hid (And.intro hx sx)
  have HY := Lib.hid (And.intro hy sy)
  have SA := Lib.hid sa
  have SB := Lib.hid sb
  have HP := Lib.hid (fun (_ : Unit) => r3_plus gx gy x y w hx hy sx sy (by have h1 := bx; have h2 := by'; omega))
  have HO := Lib.hid (r3_order gx gy x y w hx hy sx sy)
  clear hx hy sx sy bx by' sa sb
  by_cases hb0 : bn = 0
  · subst hb0
    have hT : Hid (sgn (an * (valW x : Int) + 0 * valW y) = an ∧ (an * (valW x : Int) + 0 * valW y).natAbs = valW x + valW y) := by
      have h1 := sgn_of SA.out
      have h2 : valW y = 0 := by rcases SB.out with h | h <;> omega
      rw [h2, Int.zero_mul, Int.add_zero, Nat.add_zero]; exact h1
    generalize an * (valW x : Int) + 0 * valW y = T at *
    generalize valW x + valW y = v at *
    cases hab : an == 0
    all_goals
      go_enter Tryd.func43, Tryd.ntmps43
      go_wp2_with fail
      refine (HP.out ()).mono ?_
      rintro e w1 ⟨g, f, rfl, hg, hrow, hsm, hval, hb1⟩
      have HV := Lib.hid hval
      clear hval
      go_wp2_with fail
      go_ret2
      refine ⟨g, f, ?_, hrow, hsm, HV.out.trans hT.out.2.symm, hb1⟩
      rw [hT.out.1]
      rfl
  · have b0 : (bn == 0) = false := beq_eq_false_iff_ne.2 hb0
    by_cases hab : an = bn
    · subst hab
      have hT : Hid (sgn (an * (valW x : Int) + an * valW y) = an ∧ (an * (valW x : Int) + an * valW y).natAbs = valW x + valW y) := by
        have h : SignOf an (valW x + valW y) := by
          rcases SA.out with ⟨h1, h2⟩ | ⟨h1, h2⟩
          · rcases SB.out with ⟨h3, h4⟩ | ⟨h3, h4⟩
            · exact .inl ⟨h1, by omega⟩
            · omega
          · exact .inr ⟨h1, by omega⟩
        have h1 := sgn_of h
        rw [← Int.mul_add, show (valW x : Int) + valW y = ((valW x + valW y : Nat) : Int) from by simp]; exact h1
      generalize an * (valW x : Int) + an * valW y = T at *
      generalize valW x + valW y = v at *
      clear hb0
      go_enter Tryd.func43, Tryd.ntmps43
      go_wp2_with fail
      refine (HP.out ()).mono ?_
      rintro e w1 ⟨g, f, rfl, hg, hrow, hsm, hval, hb1⟩
      have HV := Lib.hid hval
      clear hval
      go_wp2_with fail
      go_ret2
      refine ⟨g, f, ?_, hrow, hsm, HV.out.trans hT.out.2.symm, hb1⟩
      rw [hT.out.1]
      rfl
    · have ab : (an == bn) = false := beq_eq_false_iff_ne.2 hab
      by_cases ha0 : an = 0
      · subst ha0
        have hT : Hid (sgn (0 * (valW x : Int) + bn * valW y) = bn ∧ (0 * (valW x : Int) + bn * valW y).natAbs = valW y) := by
          have h1 := sgn_of SB.out
          rw [Int.zero_mul, Int.zero_add]; exact h1
        generalize 0 * (valW x : Int) + bn * valW y = T at *
        clear hb0 hab
        go_enter Tryd.func43, Tryd.ntmps43
        go_wp2_with fail
        go_ret2
        refine ⟨gy, y, ?_, HY.out.1, HY.out.2, hT.out.2.symm, Below.refl _ _⟩
        rw [hT.out.1]
        rfl
      · have a0 : (an == 0) = false := beq_eq_false_iff_ne.2 ha0
        have hbn : bn = -an := by
          rcases SA.out with ⟨h1, h2⟩ | ⟨h1, h2⟩ <;> rcases SB.out with ⟨h3, h4⟩ | ⟨h3, h4⟩ <;> omega
        have hTT : Hid (an * (valW x : Int) + bn * valW y = an * ((valW x : Int) - valW y)) := by show _ = _; rw [hbn]; grind
        rw [hTT.out]
        rcases Nat.lt_trichotomy (valW x) (valW y) with hlt | heq | hgt
        · have hc : sgn ((valW x : Int) - valW y) = -1 := by unfold sgn; rw [if_pos (by omega)]
          have HM := Lib.hid (fun (w1 : World) (hb : Below w.heap.size w w1) => r3_minus gy gx y x w1 (HY.out.1.old hb) (HX.out.1.old hb) HY.out.2 HX.out.2 (Nat.le_of_lt hlt))
          have hT : Hid (sgn (an * ((valW x : Int) - valW y)) = bn ∧ (an * ((valW x : Int) - valW y)).natAbs = valW y - valW x) := by
            have h : SignOf bn (valW y - valW x) := .inr ⟨by rcases SB.out with h | h <;> omega, by omega⟩
            have h1 := sgn_of h
            rw [show an * ((valW x : Int) - valW y) = bn * ((valW y - valW x : Nat) : Int) from by rw [hbn, show ((valW y - valW x : Nat) : Int) = (valW y : Int) - valW x from by omega]; grind]; exact h1
          rw [hc] at HO
          generalize an * ((valW x : Int) - valW y) = T at *
          generalize valW y - valW x = v at *
          clear hb0 hab ha0 hbn hlt hc
          go_enter Tryd.func43, Tryd.ntmps43
          go_wp2_with fail
          refine HO.out.mono ?_
          rintro e w1 ⟨rfl, hb1⟩
          go_wp2_with fail
          refine (HM.out _ hb1).mono ?_
          rintro e w2 ⟨g, f, rfl, hg, hrow, hsm, hval, hb2⟩
          have HV := Lib.hid hval
          clear hval
          go_wp2_with fail
          go_ret2
          refine ⟨g, f, ?_, hrow, hsm, HV.out.trans hT.out.2.symm, below_step hb1 hb2⟩
          rw [hT.out.1]
          rfl
        · have hc : sgn ((valW x : Int) - valW y) = 0 := by unfold sgn; rw [if_neg (by omega), if_neg (by omega)]
          have hT : Hid (an * ((valW x : Int) - valW y) = 0) := by show _ = _; rw [show (valW x : Int) - valW y = 0 from by omega]; simp
          rw [hc] at HO
          rw [hT.out]
          have hmk := run_make14
          clear hb0 hab ha0 hbn heq hc
          go_enter Tryd.func43, Tryd.ntmps43
          go_wp2_with fail
          refine HO.out.mono ?_
          rintro e w1 ⟨rfl, hb1⟩
          go_wp2_with fail
          go_region_with (go_at_call 60; refine Calls.mono (r3_plus _ _ (fun _ => 0) (fun _ => 0) _ ?ha ?hb small_zero small_zero (by rw [valW_zero]; decide)) ?_; (case ha => first | exact rows_two.1 | exact rows_two.2); (case hb => first | exact rows_two.1 | exact rows_two.2); rintro e w2 ⟨g, f, rfl, hg, hrow, hsm, hval, hb2⟩; have HV := Lib.hid hval; clear hval)
          all_goals go_wp2_with fail
          all_goals go_ret2
          all_goals refine ⟨_, _, rfl, by assumption, by assumption, (Hid.out ‹Hid (valW _ = valW (fun _ => 0) + valW (fun _ => 0))›).trans (by rw [valW_zero]; rfl), ?_⟩
          all_goals exact below_step (((hb1.trans (below_drewN' (Below.refl _ _) 1 |>.mono hb1.size)).alloc (by simp; have := hb1.size; omega) _).alloc (by simp; have := hb1.size; omega) _) (by assumption)
        · have hc : sgn ((valW x : Int) - valW y) = 1 := by unfold sgn; rw [if_neg (by omega), if_pos (by omega)]
          have HM := Lib.hid (fun (w1 : World) (hb : Below w.heap.size w w1) => r3_minus gx gy x y w1 (HX.out.1.old hb) (HY.out.1.old hb) HX.out.2 HY.out.2 (Nat.le_of_lt hgt))
          have hT : Hid (sgn (an * ((valW x : Int) - valW y)) = an ∧ (an * ((valW x : Int) - valW y)).natAbs = valW x - valW y) := by
            have h : SignOf an (valW x - valW y) := .inr ⟨by rcases SA.out with h | h <;> omega, by omega⟩
            have h1 := sgn_of h
            rw [show (valW x : Int) - valW y = ((valW x - valW y : Nat) : Int) from by omega]; exact h1
          rw [hc] at HO
          generalize an * ((valW x : Int) - valW y) = T at *
          generalize valW x - valW y = v at *
          clear hb0 hab ha0 hbn hgt hc
          go_enter Tryd.func43, Tryd.ntmps43
          go_wp2_with fail
          refine HO.out.mono ?_
          rintro e w1 ⟨rfl, hb1⟩
          go_wp2_with fail
          refine (HM.out _ hb1).mono ?_
          rintro e w2 ⟨g, f, rfl, hg, hrow, hsm, hval, hb2⟩
          have HV := Lib.hid hval
          clear hval
          go_wp2_with fail
          go_ret2
          refine ⟨g, f, ?_, hrow, hsm, HV.out.trans hT.out.2.symm, below_step hb1 hb2⟩
          rw [hT.out.1]
          rfl

end Go.Proofs.YtemmgehaddghfaaDoor
