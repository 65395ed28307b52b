/- PARTS OF THE WALKS, joined: FracTa, FracTb, FracP, FracQ, FracTc, FracTd. -/
import Derived.Test.YtlkpmbkmmfoakaaDoorU08
import Derived.Test.YtlkpmbkmmfoakaaDoorU04
/- THE WALKS over the reference's wide numbers: parts, narrow. -/
namespace Go.Proofs.YtlkpmbkmmfoakaaDoor
open Go.RowKit
theorem wrap_nat {t : Nat} (h : t < 1000) : IntKind.i64.wrap (t : Int) = t := IntWalk.i64_in _ ⟨by omega, by omega⟩
/-- a wide result and a number -/
def WideR2 (v : Nat) (r : Nat) (w : World) (e : Ending) (w' : World) : Prop := ∃ (g : Nat) (f : Nat → Nat), e = .returned (.tuple #[.slice (some ⟨g, 0, none⟩) 14 14, .int .i64 r]) ∧ w.heap.size ≤ g ∧ RowW w' g f ∧ SmallW f ∧ valW f = v ∧ Below w.heap.size w w'
set_option maxRecDepth 100000 in
set_option maxHeartbeats 1600000 in
theorem r3_parts (gx : Nat) (x : Nat → Nat) (d : Nat) (w : World) (hx : RowW w gx x) (sx : SmallW x) (hd1 : 1 ≤ d) (hd2 : d ≤ 1000000000000000) :
    Calls Tryd.prog 54 #[.slice (some ⟨gx, 0, none⟩) 14 14, .int .i64 d] w (WideR2 (valW x / d) (valW x % d) w) := by
  have hmk := run_make14
  have HX := Lib.hid (And.intro hx sx)
  clear hx sx
  have hd0 : ((d : Int) == 0) = false := beq_eq_false_iff_ne.2 (by omega)
  have hd00 : ¬ (d : Int) = 0 := by omega
  go_enter Tryd.func54, Tryd.ntmps54
  go_wp2_with fail
  have hrow := RowW.new w 3
  have hbe := (Below.refl w.heap.size w).alloc (Nat.le_refl _) (.cells #[.int .i64 0, .int .i64 0, .int .i64 0, .int .i64 0, .int .i64 0, .int .i64 0, .int .i64 0, .int .i64 0, .int .i64 0, .int .i64 0, .int .i64 0, .int .i64 0, .int .i64 0, .int .i64 0] 3)
  refine forget_world (fun W => RowW W w.heap.size (fun _ => 0) ∧ Below w.heap.size w W) ⟨hrow, hbe⟩ ?_
  clear hrow hbe hmk
  rintro W ⟨hrow, hbe⟩
  have HR0 := Lib.hid hrow
  have HBE0 := Lib.hid hbe
  clear hrow hbe
  go_loopw [7, 8] (fun u v wr => ∃ (r : Nat) (z : Int) (f : Nat → Nat), u = .int .i64 r ∧ v = .int .i64 z ∧ Hid (PartI x f d (z + 1).toNat r) ∧ r < d ∧ -1 ≤ z ∧ z ≤ 13 ∧ RowW wr w.heap.size f ∧ Below w.heap.size w wr) (fun _ v _ => (intOf v + 1).toNat)
  case atStart => exact ⟨0, 13, _, rfl, rfl, Lib.hid (PartI.start x (by omega)), by omega, by omega, by omega, HR0.out, HBE0.out⟩
  case round =>
    obtain ⟨r, z, f, rfl, rfl, hI, hr, hz1, hz2, hrf, hbf⟩ := hrel
    by_cases hz : 0 ≤ z
    · obtain ⟨k, rfl⟩ := Int.eq_ofNat_of_zero_le hz
      have hk : k < 14 := by omega
      rw [show ((k : Int) + 1).toNat = k + 1 from by omega] at hI
      obtain ⟨p, hp⟩ : ∃ p, Hid (x k = p) := ⟨_, rfl⟩
      have p1 : p ≤ 999 := by have h1 := HX.out.2 k; have h2 := hp.out; omega
      have cx := ((HX.out.1.old hbf).2 k hk).1
      rw [hp.out] at cx
      have hS := Lib.hid (hI.out.step HX.out.2 hk)
      rw [hp.out] at hS
      have hfro := (hrf.2 k hk).2
      have hcel := (hrf.2 k hk).1
      have HRF := Lib.hid hrf
      have HBF := Lib.hid hbf
      have k1 : (0 : Int) ≤ (k : Int) := by omega
      have k2 : (k : Int) < 14 := by omega
      have t1 : ((r : Int) * 1000 + p).tdiv d = (((r * 1000 + p) / d : Nat) : Int) := by rw [Int.tdiv_eq_ediv_of_nonneg (by omega)]; simp
      have t2 : ((r : Int) * 1000 + p).tmod d = (((r * 1000 + p) % d : Nat) : Int) := by rw [Int.tmod_eq_emod_of_nonneg (by omega)]; simp
      have hv : (r * 1000 + p) / d < 1000 := by have h := hS.out.small k; rw [updW_at] at h; exact h
      have J1 : IntKind.i64.wrap (((r : Int) * 1000 + p) / d) = (((r * 1000 + p) / d : Nat) : Int) := by rw [show ((r : Int) * 1000 + p) / d = (((r * 1000 + p) / d : Nat) : Int) from by simp]; exact wrap_nat hv
      have hl : (r * 1000 + p) % d < d := Nat.mod_lt _ (by omega)
      have hrs := HRF.out.set hk ((r * 1000 + p) / d)
      have hbs := HBF.out.setCell (p := ⟨w.heap.size, k, none⟩) (Nat.le_refl _) (.int .i64 (((r * 1000 + p) / d : Nat) : Int))
      have HRS := Lib.hid hrs
      have HBS := Lib.hid hbs
      clear hrs hbs hrf hbf hz hz1 hz2
      go_wp2_with fail
      go_roundw
      case rel => exact ⟨(r * 1000 + p) % d, (k : Int) - 1, _, by first | rfl | simp, rfl, by rw [show ((k : Int) - 1 + 1).toNat = k from by omega]; exact hS, hl, by omega, by omega, HRS.out, HBS.out⟩
      case measure => simp [intOf]
    · obtain rfl : z = -1 := by omega
      have HD := Lib.hid (PartI.done hI.out)
      obtain rfl : r = valW x % d := HD.out.2
      go_wp2_with fail
      go_ret2
      exact ⟨_, f, rfl, Nat.le_refl _, hrf, hI.out.small, HD.out.1, hbf⟩
/-- a number in range, or nothing -/
def narB (v : Nat) : Bool := decide (v ≤ 1000000000000000)
def narV (v : Nat) : Nat := if narB v then v else 0
set_option maxRecDepth 100000 in
set_option maxHeartbeats 1600000 in
theorem r3_narrow (gx : Nat) (x : Nat → Nat) (w : World) (hx : RowW w gx x) (sx : SmallW x) :
    Calls Tryd.prog 55 #[.slice (some ⟨gx, 0, none⟩) 14 14] w fun e w' => e = .returned (.tuple #[.int .i64 (narV (valW x)), .bool (narB (valW x))]) ∧ Below w.heap.size w w' := by
  have HX := Lib.hid (And.intro hx sx)
  clear hx sx
  have HBE0 := Lib.hid (Below.refl w.heap.size w)
  obtain ⟨vv, hvv⟩ : ∃ v, Hid (narV (valW x) = v) := ⟨_, rfl⟩
  obtain ⟨bb, hbb⟩ : ∃ b, Hid (narB (valW x) = b) := ⟨_, rfl⟩
  rw [hvv.out, hbb.out]
  go_enter Tryd.func55, Tryd.ntmps55
  go_wp2_with fail
  go_loopw [4, 5] (fun u v wr => ∃ (n : Nat) (z : Int), u = .int .i64 n ∧ v = .int .i64 z ∧ Hid (n = hiW x (z + 1).toNat) ∧ n ≤ 1000000000000999 ∧ -1 ≤ z ∧ z ≤ 13 ∧ Below w.heap.size w wr) (fun _ v _ => (intOf v + 1).toNat)
  case atStart => exact ⟨0, 13, rfl, rfl, Lib.hid (hiW_end x).symm, by omega, by omega, by omega, HBE0.out⟩
  case round =>
    obtain ⟨n, z, rfl, rfl, hI, hn, hz1, hz2, hbf⟩ := hrel
    by_cases hz : 0 ≤ z
    · obtain ⟨k, rfl⟩ := Int.eq_ofNat_of_zero_le hz
      have hk : k < 14 := by omega
      rw [show ((k : Int) + 1).toNat = k + 1 from by omega] at hI
      by_cases hbig : 1000000000000 < n
      · have HR : Hid (bb = false ∧ vv = 0) := by
          have h := narrow_big hk (by rw [← hI.out]; exact hbig)
          have h1 : narB (valW x) = false := decide_eq_false (by omega)
          have h2 := hbb.out
          have h3 := hvv.out
          refine ⟨h2.symm.trans h1, h3.symm.trans ?_⟩
          unfold narV; rw [h1]; rfl
        go_wp2_with fail
        go_ret2
        refine ⟨?_, hbf⟩
        rw [HR.out.1, HR.out.2]
        rfl
      · obtain ⟨p, hp⟩ : ∃ p, Hid (x k = p) := ⟨_, rfl⟩
        have p1 : p ≤ 999 := by have h1 := HX.out.2 k; have h2 := hp.out; omega
        have cx := ((HX.out.1.old hbf).2 k hk).1
        rw [hp.out] at cx
        have hS : Hid (n * 1000 + p = hiW x k) := by
          have h1 := hI.out; have h2 := hp.out
          show _ = _
          rw [hiW_step x hk, ← h1, h2]; omega
        have k1 : (0 : Int) ≤ (k : Int) := by omega
        have k2 : (k : Int) < 14 := by omega
        go_wp2_with fail
        go_roundw
        case rel => exact ⟨n * 1000 + p, (k : Int) - 1, by go_num, rfl, by rw [show ((k : Int) - 1 + 1).toNat = k from by omega]; exact hS, by omega, by omega, by omega, hbf⟩
        case measure => simp [intOf]
    · obtain rfl : z = -1 := by omega
      have HV : Hid (valW x = n) := Lib.hid (by have h := hI.out; rw [h]; exact (hiW_zero x).symm)
      by_cases hbig : 1000000000000000 < n
      · have HR : Hid (bb = false ∧ vv = 0) := by
          have h1 : narB (valW x) = false := decide_eq_false (by have := HV.out; omega)
          have h2 := hbb.out
          have h3 := hvv.out
          refine ⟨h2.symm.trans h1, h3.symm.trans ?_⟩
          unfold narV; rw [h1]; rfl
        go_wp2_with fail
        go_ret2
        refine ⟨?_, hbf⟩
        rw [HR.out.1, HR.out.2]
        rfl
      · have HR : Hid (bb = true ∧ vv = n) := by
          have h1 : narB (valW x) = true := decide_eq_true (by have := HV.out; omega)
          have h2 := hbb.out
          have h3 := hvv.out
          have h4 := HV.out
          refine ⟨h2.symm.trans h1, h3.symm.trans ?_⟩
          unfold narV; rw [h1, h4]; rfl
        go_wp2_with fail
        go_ret2
        refine ⟨?_, hbf⟩
        rw [HR.out.1, HR.out.2]
        rfl
end Go.Proofs.YtlkpmbkmmfoakaaDoor

/- THE WALK over the reference's sum of signed wide numbers. -/
namespace Go.Proofs.YtlkpmbkmmfoakaaDoor
open Go.RowKit
/-- a sign and a wide magnitude -/
def SumIs (T : Int) (w : World) (e : Ending) (w' : World) : Prop := ∃ (g : Nat) (f : Nat → Nat), e = .returned (.tuple #[.int .i64 (sgn T), .slice (some ⟨g, 0, none⟩) 14 14]) ∧ RowW w' g f ∧ SmallW f ∧ valW f = T.natAbs ∧ Below w.heap.size w w'
/-- a sign of a magnitude -/
def SignOf (s : Int) (v : Nat) : Prop := (s = 0 ∧ v = 0) ∨ ((s = 1 ∨ s = -1) ∧ 0 < v)
theorem sgn_of {s : Int} {v : Nat} (h : SignOf s v) : sgn (s * v) = s ∧ (s * (v : Int)).natAbs = v := by
  rcases h with ⟨rfl, rfl⟩ | ⟨rfl | rfl, h⟩
  · exact ⟨rfl, rfl⟩
  · unfold sgn; rw [if_neg (by omega), if_pos (by omega)]; exact ⟨rfl, by omega⟩
  · unfold sgn; rw [if_pos (by omega)]; exact ⟨rfl, by omega⟩
theorem rows_two {V : World} : RowW ((V.alloc (.cells #[.int .i64 0, .int .i64 0, .int .i64 0, .int .i64 0, .int .i64 0, .int .i64 0, .int .i64 0, .int .i64 0, .int .i64 0, .int .i64 0, .int .i64 0, .int .i64 0, .int .i64 0, .int .i64 0] 3)).alloc (.cells #[.int .i64 0, .int .i64 0, .int .i64 0, .int .i64 0, .int .i64 0, .int .i64 0, .int .i64 0, .int .i64 0, .int .i64 0, .int .i64 0, .int .i64 0, .int .i64 0, .int .i64 0, .int .i64 0] 3)) V.heap.size (fun _ => 0) ∧
    RowW ((V.alloc (.cells #[.int .i64 0, .int .i64 0, .int .i64 0, .int .i64 0, .int .i64 0, .int .i64 0, .int .i64 0, .int .i64 0, .int .i64 0, .int .i64 0, .int .i64 0, .int .i64 0, .int .i64 0, .int .i64 0] 3)).alloc (.cells #[.int .i64 0, .int .i64 0, .int .i64 0, .int .i64 0, .int .i64 0, .int .i64 0, .int .i64 0, .int .i64 0, .int .i64 0, .int .i64 0, .int .i64 0, .int .i64 0, .int .i64 0, .int .i64 0] 3)) (V.heap.size + 1) (fun _ => 0) := by
  constructor
  · exact (RowW.new V 3).step ((Below.refl _ _).alloc (Nat.le_refl _) _)
  · have h := RowW.new (V.alloc (.cells #[.int .i64 0, .int .i64 0, .int .i64 0, .int .i64 0, .int .i64 0, .int .i64 0, .int .i64 0, .int .i64 0, .int .i64 0, .int .i64 0, .int .i64 0, .int .i64 0, .int .i64 0, .int .i64 0] 3)) 3
    rw [show (V.alloc (.cells #[.int .i64 0, .int .i64 0, .int .i64 0, .int .i64 0, .int .i64 0, .int .i64 0, .int .i64 0, .int .i64 0, .int .i64 0, .int .i64 0, .int .i64 0, .int .i64 0, .int .i64 0, .int .i64 0] 3)).heap.size = V.heap.size + 1 from by simp] at h
    exact h
theorem valW_zero : valW (fun _ => 0) = 0 := by
  obtain ⟨n, hn⟩ : ∃ n : Nat, n = 14 := ⟨_, rfl⟩
  rw [valW_def _ hn, valN_zero]
theorem small_zero : SmallW (fun _ => 0) := fun _ => by simp
set_option maxRecDepth 100000 in
set_option maxHeartbeats 3200000 in
theorem r3_sum (an bn : Int) (gx gy : Nat) (x y : Nat → Nat) (w : World) (hx : RowW w gx x) (hy : RowW w gy y) (sx : SmallW x) (sy : SmallW y) (sa : SignOf an (valW x)) (sb : SignOf bn (valW y)) (bx : valW x ≤ 1000000000000000000000000000000) (by' : valW y ≤ 1000000000000000000000000000000) :
    Calls Tryd.prog 39 #[.int .i64 an, .slice (some ⟨gx, 0, none⟩) 14 14, .int .i64 bn, .slice (some ⟨gy, 0, none⟩) 14 14] w (SumIs (an * valW x + bn * valW y) w) := by
  have HB := Lib.hid (And.intro bx by')
  have HX := Lib.hid (And.intro hx sx)
  have HY := Lib.hid (And.intro hy sy)
  have SA := Lib.hid sa
  have SB := Lib.hid sb
  have HP := Lib.hid (fun (_ : Unit) => r3_plus gx gy x y w hx hy sx sy (by have h1 := bx; have h2 := by'; omega))
  have HO := Lib.hid (r3_order gx gy x y w hx hy sx sy)
  clear hx hy sx sy bx by' sa sb
  by_cases hb0 : bn = 0
  · subst hb0
    have hT : Hid (sgn (an * (valW x : Int) + 0 * valW y) = an ∧ (an * (valW x : Int) + 0 * valW y).natAbs = valW x + valW y) := by
      have h1 := sgn_of SA.out
      have h2 : valW y = 0 := by rcases SB.out with h | h <;> omega
      rw [h2, Int.zero_mul, Int.add_zero, Nat.add_zero]; exact h1
    generalize an * (valW x : Int) + 0 * valW y = T at *
    generalize valW x + valW y = v at *
    cases hab : an == 0
    all_goals
      go_enter Tryd.func39, Tryd.ntmps39
      go_wp2_with fail
      refine (HP.out ()).mono ?_
      rintro e w1 ⟨g, f, rfl, hg, hrow, hsm, hval, hb1⟩
      have HV := Lib.hid hval
      clear hval
      go_wp2_with fail
      go_ret2
      refine ⟨g, f, ?_, hrow, hsm, HV.out.trans hT.out.2.symm, hb1⟩
      rw [hT.out.1]
      rfl
  · have b0 : (bn == 0) = false := beq_eq_false_iff_ne.2 hb0
    by_cases hab : an = bn
    · subst hab
      have hT : Hid (sgn (an * (valW x : Int) + an * valW y) = an ∧ (an * (valW x : Int) + an * valW y).natAbs = valW x + valW y) := by
        have h : SignOf an (valW x + valW y) := by
          rcases SA.out with ⟨h1, h2⟩ | ⟨h1, h2⟩
          · rcases SB.out with ⟨h3, h4⟩ | ⟨h3, h4⟩
            · exact .inl ⟨h1, by omega⟩
            · omega
          · exact .inr ⟨h1, by omega⟩
        have h1 := sgn_of h
        rw [← Int.mul_add, show (valW x : Int) + valW y = ((valW x + valW y : Nat) : Int) from by simp]; exact h1
      generalize an * (valW x : Int) + an * valW y = T at *
      generalize valW x + valW y = v at *
      clear hb0
      go_enter Tryd.func39, Tryd.ntmps39
      go_wp2_with fail
      refine (HP.out ()).mono ?_
      rintro e w1 ⟨g, f, rfl, hg, hrow, hsm, hval, hb1⟩
      have HV := Lib.hid hval
      clear hval
      go_wp2_with fail
      go_ret2
      refine ⟨g, f, ?_, hrow, hsm, HV.out.trans hT.out.2.symm, hb1⟩
      rw [hT.out.1]
      rfl
    · have ab : (an == bn) = false := beq_eq_false_iff_ne.2 hab
      by_cases ha0 : an = 0
      · subst ha0
        have hT : Hid (sgn (0 * (valW x : Int) + bn * valW y) = bn ∧ (0 * (valW x : Int) + bn * valW y).natAbs = valW y) := by
          have h1 := sgn_of SB.out
          rw [Int.zero_mul, Int.zero_add]; exact h1
        generalize 0 * (valW x : Int) + bn * valW y = T at *
        clear hb0 hab
        go_enter Tryd.func39, Tryd.ntmps39
        go_wp2_with fail
        go_ret2
        refine ⟨gy, y, ?_, HY.out.1, HY.out.2, hT.out.2.symm, Below.refl _ _⟩
        rw [hT.out.1]
        rfl
      · have a0 : (an == 0) = false := beq_eq_false_iff_ne.2 ha0
        have hbn : bn = -an := by
          rcases SA.out with ⟨h1, h2⟩ | ⟨h1, h2⟩ <;> rcases SB.out with ⟨h3, h4⟩ | ⟨h3, h4⟩ <;> omega
        have hTT : Hid (an * (valW x : Int) + bn * valW y = an * ((valW x : Int) - valW y)) := by show _ = _; rw [hbn]; grind
        rw [hTT.out]
        rcases Nat.lt_trichotomy (valW x) (valW y) with hlt | heq | hgt
        · have hc : sgn ((valW x : Int) - valW y) = -1 := by unfold sgn; rw [if_pos (by omega)]
          have HM := Lib.hid (fun (w1 : World) (hb : Below w.heap.size w w1) => r3_minus gy gx y x w1 (HY.out.1.old hb) (HX.out.1.old hb) HY.out.2 HX.out.2 (Nat.le_of_lt hlt))
          have hT : Hid (sgn (an * ((valW x : Int) - valW y)) = bn ∧ (an * ((valW x : Int) - valW y)).natAbs = valW y - valW x) := by
            have h : SignOf bn (valW y - valW x) := .inr ⟨by rcases SB.out with h | h <;> omega, by omega⟩
            have h1 := sgn_of h
            rw [show an * ((valW x : Int) - valW y) = bn * ((valW y - valW x : Nat) : Int) from by rw [hbn, show ((valW y - valW x : Nat) : Int) = (valW y : Int) - valW x from by omega]; grind]; exact h1
          rw [hc] at HO
          generalize an * ((valW x : Int) - valW y) = T at *
          generalize valW y - valW x = v at *
          clear hb0 hab ha0 hbn hlt hc
          go_enter Tryd.func39, Tryd.ntmps39
          go_wp2_with fail
          refine HO.out.mono ?_
          rintro e w1 ⟨rfl, hb1⟩
          go_wp2_with fail
          refine (HM.out _ hb1).mono ?_
          rintro e w2 ⟨g, f, rfl, hg, hrow, hsm, hval, hb2⟩
          have HV := Lib.hid hval
          clear hval
          go_wp2_with fail
          go_ret2
          refine ⟨g, f, ?_, hrow, hsm, HV.out.trans hT.out.2.symm, below_step hb1 hb2⟩
          rw [hT.out.1]
          rfl
        · have hc : sgn ((valW x : Int) - valW y) = 0 := by unfold sgn; rw [if_neg (by omega), if_neg (by omega)]
          have hT : Hid (an * ((valW x : Int) - valW y) = 0) := by show _ = _; rw [show (valW x : Int) - valW y = 0 from by omega]; simp
          rw [hc] at HO
          rw [hT.out]
          have hmk := run_make14
          clear hb0 hab ha0 hbn heq hc
          go_enter Tryd.func39, Tryd.ntmps39
          go_wp2_with fail
          refine HO.out.mono ?_
          rintro e w1 ⟨rfl, hb1⟩
          go_wp2_with fail
          go_region_with (go_at_call 61; refine Calls.mono (r3_plus _ _ (fun _ => 0) (fun _ => 0) _ ?ha ?hb small_zero small_zero (by rw [valW_zero]; decide)) ?_; (case ha => first | exact rows_two.1 | exact rows_two.2); (case hb => first | exact rows_two.1 | exact rows_two.2); rintro e w2 ⟨g, f, rfl, hg, hrow, hsm, hval, hb2⟩; have HV := Lib.hid hval; clear hval)
          all_goals go_wp2_with fail
          all_goals go_ret2
          all_goals refine ⟨_, _, rfl, by assumption, by assumption, (Hid.out ‹Hid (valW _ = valW (fun _ => 0) + valW (fun _ => 0))›).trans (by rw [valW_zero]; rfl), ?_⟩
          all_goals exact below_step (((hb1.trans (below_drewN' (Below.refl _ _) 1 |>.mono hb1.size)).alloc (by simp; have := hb1.size; omega) _).alloc (by simp; have := hb1.size; omega) _) (by assumption)
        · have hc : sgn ((valW x : Int) - valW y) = 1 := by unfold sgn; rw [if_neg (by omega), if_pos (by omega)]
          have HM := Lib.hid (fun (w1 : World) (hb : Below w.heap.size w w1) => r3_minus gx gy x y w1 (HX.out.1.old hb) (HY.out.1.old hb) HX.out.2 HY.out.2 (Nat.le_of_lt hgt))
          have hT : Hid (sgn (an * ((valW x : Int) - valW y)) = an ∧ (an * ((valW x : Int) - valW y)).natAbs = valW x - valW y) := by
            have h : SignOf an (valW x - valW y) := .inr ⟨by rcases SA.out with h | h <;> omega, by omega⟩
            have h1 := sgn_of h
            rw [show (valW x : Int) - valW y = ((valW x - valW y : Nat) : Int) from by omega]; exact h1
          rw [hc] at HO
          generalize an * ((valW x : Int) - valW y) = T at *
          generalize valW x - valW y = v at *
          clear hb0 hab ha0 hbn hgt hc
          go_enter Tryd.func39, Tryd.ntmps39
          go_wp2_with fail
          refine HO.out.mono ?_
          rintro e w1 ⟨rfl, hb1⟩
          go_wp2_with fail
          refine (HM.out _ hb1).mono ?_
          rintro e w2 ⟨g, f, rfl, hg, hrow, hsm, hval, hb2⟩
          have HV := Lib.hid hval
          clear hval
          go_wp2_with fail
          go_ret2
          refine ⟨g, f, ?_, hrow, hsm, HV.out.trans hT.out.2.symm, below_step hb1 hb2⟩
          rw [hT.out.1]
          rfl
end Go.Proofs.YtlkpmbkmmfoakaaDoor

/- PLAIN LAWS: the field and the order. -/
namespace Go.Proofs.YtlkpmbkmmfoakaaDoor
theorem addS_ok {an ad bn bd x y : Int} (h : addS an ad bn bd = (x, y, true)) : validB an ad = true ∧ validB bn bd = true ∧ validB x y = true ∧ x * (ad * bd) = (an * bd + bn * ad) * y := by
  cases ha : validB an ad
  · unfold addS at h; rw [ha] at h; cases h
  · cases hb : validB bn bd
    · unfold addS at h; rw [ha, hb] at h; cases h
    · rw [addS_valid ha hb] at h
      have := redS_ok (pos_mul (low_of_valid ha).1 (low_of_valid hb).1) h
      exact ⟨rfl, rfl, this.1, this.2⟩
theorem valid_pos {n d : Int} (h : validB n d = true) : 1 ≤ d := (validB_iff.1 h).1
/-- (a + b) + c = a + (b + c) -/
theorem add_assoc {an ad bn bd cn cd x y u v : Int} (h : addS an ad bn bd = (x, y, true)) (k : addS bn bd cn cd = (u, v, true)) : addS x y cn cd = addS an ad u v := by
  obtain ⟨ha, hb, hx, e⟩ := addS_ok h
  obtain ⟨-, hc, hu, f⟩ := addS_ok k
  rw [addS_valid hx hc, addS_valid ha hu]
  refine redS_congr (pos_mul (valid_pos hx) (valid_pos hc)) (pos_mul (valid_pos ha) (valid_pos hu)) ?_
  have b0 : bd ≠ 0 := by have := valid_pos hb; omega
  refine Int.eq_of_mul_eq_mul_right b0 ?_
  grind
end Go.Proofs.YtlkpmbkmmfoakaaDoor

/- PLAIN LAWS: the order, the floor. -/
namespace Go.Proofs.YtlkpmbkmmfoakaaDoor
theorem sgn_neg (x : Int) : sgn (-x) = -sgn x := by unfold sgn; split <;> split <;> (try split) <;> omega
theorem sgn_le {x : Int} : sgn x ≤ 0 ↔ x ≤ 0 := by unfold sgn; split <;> (try split) <;> omega
theorem sgn_lt {x : Int} : sgn x < 0 ↔ x < 0 := by unfold sgn; split <;> (try split) <;> omega
theorem sgn_eq {x : Int} : sgn x = 0 ↔ x = 0 := by unfold sgn; split <;> (try split) <;> omega
theorem sgn_scale {P Q p q : Int} (hp : 0 < p) (hq : 0 < q) (e : P * p = Q * q) : sgn P = sgn Q := by
  rcases Int.lt_trichotomy P 0 with h | h | h
  · have h1 : P * p < 0 := Int.mul_neg_of_neg_of_pos h hp
    have h2 : Q < 0 := by
      rcases (show Q < 0 ∨ 0 ≤ Q by omega) with k | k
      · exact k
      · have := Int.mul_nonneg k (show 0 ≤ q by omega); omega
    unfold sgn; rw [if_pos h, if_pos h2]
  · subst h
    have h2 : Q = 0 := by
      rw [Int.zero_mul] at e
      rcases Int.mul_eq_zero.1 e.symm with k | k <;> omega
    rw [h2]
  · have h1 : 0 < P * p := Int.mul_pos h hp
    have h2 : 0 < Q := by
      rcases (show 0 < Q ∨ Q ≤ 0 by omega) with k | k
      · exact k
      · have := Int.mul_nonneg (show 0 ≤ -Q by omega) (show 0 ≤ q by omega); rw [Int.neg_mul] at this; omega
    unfold sgn; rw [if_neg (by omega), if_pos h, if_neg (by omega), if_pos h2]
theorem fixD_pos (n d : Int) : 1 ≤ fixD n d := by
  unfold fixD
  cases h : validB n d
  · simp
  · exact valid_pos h
theorem cmp_anti (an ad bn bd : Int) : cmpS an ad bn bd = -cmpS bn bd an ad := by
  unfold cmpS; rw [← sgn_neg]; congr 1; omega
theorem cmp_le {an ad bn bd : Int} : cmpS an ad bn bd ≤ 0 ↔ fixN an ad * fixD bn bd ≤ fixN bn bd * fixD an ad := by
  unfold cmpS; rw [sgn_le]; omega
theorem cmp_trans {an ad bn bd cn cd : Int} (h : cmpS an ad bn bd ≤ 0) (k : cmpS bn bd cn cd ≤ 0) : cmpS an ad cn cd ≤ 0 := by
  rw [cmp_le] at *
  have p1 := fixD_pos an ad
  have p2 := fixD_pos bn bd
  have p3 := fixD_pos cn cd
  generalize fixN an ad = A at *
  generalize fixD an ad = B at *
  generalize fixN bn bd = C at *
  generalize fixD bn bd = D at *
  generalize fixN cn cd = E at *
  generalize fixD cn cd = F at *
  have h1 := Int.mul_le_mul_of_nonneg_right h (show 0 ≤ F by omega)
  have h2 := Int.mul_le_mul_of_nonneg_right k (show 0 ≤ B by omega)
  have e1 : C * B * F = C * F * B := by grind
  have h3 : (A * F) * D ≤ (E * B) * D := by
    have e2 : A * F * D = A * D * F := by grind
    have e3 : E * B * D = E * D * B := by grind
    omega
  exact Int.le_of_mul_le_mul_right h3 (by omega)
theorem cmp_valid {an ad bn bd : Int} (ha : validB an ad = true) (hb : validB bn bd = true) : cmpS an ad bn bd = sgn (an * bd - bn * ad) := by
  unfold cmpS
  rw [(fix_yes ha).1, (fix_yes ha).2, (fix_yes hb).1, (fix_yes hb).2]
end Go.Proofs.YtlkpmbkmmfoakaaDoor

/- THE WALK over the reference's Add. -/
namespace Go.Proofs.YtlkpmbkmmfoakaaDoor
open Go.RowKit
theorem r3_times_i (a b : Int) (w : World) (ha : 0 ≤ a ∧ a ≤ 1000000000000000) (hb : 0 ≤ b ∧ b ≤ 1000000000000000) :
    Calls Tryd.prog 40 #[.int .i64 a, .int .i64 b] w (WideR (a.natAbs * b.natAbs) w) := by
  have h := r3_times a.toNat b.toNat w (by omega) (by omega)
  rw [show ((a.toNat : Nat) : Int) = a from by omega, show ((b.toNat : Nat) : Int) = b from by omega, show a.toNat = a.natAbs from by omega, show b.toNat = b.natAbs from by omega] at h
  exact h
theorem r3_parts_i (gx : Nat) (x : Nat → Nat) (d : Int) (w : World) (hx : RowW w gx x) (sx : SmallW x) (hd1 : 1 ≤ d) (hd2 : d ≤ 1000000000000000) :
    Calls Tryd.prog 54 #[.slice (some ⟨gx, 0, none⟩) 14 14, .int .i64 d] w (WideR2 (valW x / d.toNat) (valW x % d.toNat) w) := by
  have h := r3_parts gx x d.toNat w hx sx (by omega) (by omega)
  rw [show ((d.toNat : Nat) : Int) = d from by omega] at h
  exact h
theorem r3_gcd_below (a b : Int) (w : World) (ha : 0 ≤ a ∧ a ≤ 1000000000000000) (hb : 0 ≤ b ∧ b ≤ 1000000000000000) :
    Calls Tryd.prog 43 #[.int .i64 a, .int .i64 b] w fun e w' => e = .returned (.int .i64 (cgcd a b)) ∧ Below w.heap.size w w' :=
  (r3_gcd a b w ha hb).mono fun e w' ⟨h, n, hn⟩ => ⟨h, by rw [hn]; exact below_drewN' (Below.refl _ _) n⟩
theorem sgn_abs (n : Int) : sgn n * (n.natAbs : Int) = n := by
  unfold sgn; split
  · omega
  · split <;> omega
theorem signOf_sgn (n : Int) {v : Nat} (D : Int) (hD : 1 ≤ D) (hv : v = n.natAbs * D.natAbs) : SignOf (sgn n) v := by
  rcases Int.lt_trichotomy n 0 with h | h | h
  · exact .inr ⟨.inr (if_pos h), by rw [hv]; exact Nat.mul_pos (by omega) (by omega)⟩
  · exact .inl ⟨by unfold sgn; rw [if_neg (by omega), if_neg (by omega)], by rw [hv, h]; simp⟩
  · exact .inr ⟨.inl (by unfold sgn; rw [if_neg (by omega), if_pos h]), by rw [hv]; exact Nat.mul_pos (by omega) (by omega)⟩
theorem r3_sum_of (an bn D C : Int) (gx gy : Nat) (x y : Nat → Nat) (w : World) (hx : RowW w gx x) (hy : RowW w gy y) (sx : SmallW x) (sy : SmallW y) (vx : Hid (valW x = an.natAbs * D.natAbs)) (vy : Hid (valW y = bn.natAbs * C.natAbs))
    (ha : -1000000000000000 ≤ an ∧ an ≤ 1000000000000000) (hb : -1000000000000000 ≤ bn ∧ bn ≤ 1000000000000000) (hD : 1 ≤ D ∧ D ≤ 1000000000000000) (hC : 1 ≤ C ∧ C ≤ 1000000000000000) :
    Calls Tryd.prog 39 #[.int .i64 (sgn an), .slice (some ⟨gx, 0, none⟩) 14 14, .int .i64 (sgn bn), .slice (some ⟨gy, 0, none⟩) 14 14] w (SumIs (an * D + bn * C) w) := by
  have b1 := mul_lt_wide (a := an) (b := D) ha ⟨by omega, hD.2⟩
  have b2 := mul_lt_wide (a := bn) (b := C) hb ⟨by omega, hC.2⟩
  have h := r3_sum (sgn an) (sgn bn) gx gy x y w hx hy sx sy (signOf_sgn an D hD.1 vx.out) (signOf_sgn bn C hC.1 vy.out) (by rw [vx.out]; exact b1) (by rw [vy.out]; exact b2)
  have e1 : sgn an * (valW x : Int) = an * D := by
    rw [vx.out, Int.natCast_mul, ← Int.mul_assoc, sgn_abs, show ((D.natAbs : Nat) : Int) = D from by omega]
  have e2 : sgn bn * (valW y : Int) = bn * C := by
    rw [vy.out, Int.natCast_mul, ← Int.mul_assoc, sgn_abs, show ((C.natAbs : Nat) : Int) = C from by omega]
  rw [e1, e2] at h
  exact h
theorem inB_sgn {s : Int} (h : s = 1 ∨ s = -1) (u : Nat) : inB (s * (u : Int)) = narB u := by
  unfold inB narB
  rcases h with rfl | rfl <;> rw [← Bool.decide_and] <;> exact decide_eq_decide.2 (by omega)
theorem inB_mul {C E : Int} (hC : 0 ≤ C) (hE : 0 ≤ E) : inB (C * E) = narB (C.natAbs * E.natAbs) ∧ C * E = ((C.natAbs * E.natAbs : Nat) : Int) := by
  have e : C * E = ((C.natAbs * E.natAbs : Nat) : Int) := by
    rw [Int.natCast_mul, show ((C.natAbs : Nat) : Int) = C from by omega, show ((E.natAbs : Nat) : Int) = E from by omega]
  refine ⟨?_, e⟩
  rw [e]
  have := inB_sgn (s := 1) (.inl rfl) (C.natAbs * E.natAbs)
  rw [Int.one_mul] at this; exact this
theorem narV_true {u : Nat} (h : narB u = true) : narV u = u := if_pos h
theorem narV_le (u : Nat) : narV u ≤ 1000000000000000 := by
  unfold narV; split
  · rename_i h; unfold narB at h; exact of_decide_eq_true h
  · omega
theorem cutS_nar {s C E : Int} {u : Nat} (h : s = 1 ∨ s = -1) (hC : 0 ≤ C) (hE : 0 ≤ E) :
    cutS (s * (u : Int)) (C * E) = if narB u && narB (C.natAbs * E.natAbs) then (s * (narV u : Int), ((narV (C.natAbs * E.natAbs) : Nat) : Int), true) else (0, 0, false) := by
  unfold cutS
  rw [inB_sgn h, (inB_mul hC hE).1]
  cases h1 : narB u
  · rfl
  · cases h2 : narB (C.natAbs * E.natAbs)
    · rfl
    · rw [narV_true h1, narV_true h2, ← (inB_mul hC hE).2]
theorem wrap_sgn {s : Int} (h : s = 1 ∨ s = -1) {n : Nat} (hn : n ≤ 1000000000000000) : IntKind.i64.wrap (s * (n : Int)) = s * n := by
  rcases h with rfl | rfl <;> exact IntWalk.i64_in _ ⟨by omega, by omega⟩
/-- what the frame of the reference's Add holds -/
def RAddSt (w : World) (an ad bn bd : Int) (V : World) : Prop :=
  Below w.heap.size w V ∧ w.heap.size + 1 + 1 < V.heap.size ∧ V.cell? ⟨w.heap.size, 0, none⟩ = some (.int .i64 an) ∧ V.cell? ⟨w.heap.size, 1, none⟩ = some (.int .i64 ad) ∧ V.cell? ⟨w.heap.size + 1, 0, none⟩ = some (.int .i64 bn) ∧ V.cell? ⟨w.heap.size + 1, 1, none⟩ = some (.int .i64 bd) ∧
  (V.cell? ⟨w.heap.size + 1 + 1, 0, none⟩ = some (.int .i64 0) ∧ V.frozen? ⟨w.heap.size + 1 + 1, 0, none⟩ = false) ∧ (V.cell? ⟨w.heap.size + 1 + 1, 1, none⟩ = some (.int .i64 0) ∧ V.frozen? ⟨w.heap.size + 1 + 1, 1, none⟩ = false)
theorem RAddSt.step {w : World} {an ad bn bd : Int} {V V' : World} (q : RAddSt w an ad bn bd V) (hb : Below V.heap.size V V') : RAddSt w an ad bn bd V' := by
  obtain ⟨q0, q1, q2, q3, q4, q5, ⟨q6, q7⟩, q8, q9⟩ := q
  obtain ⟨hc, hf⟩ := bcell hb
  have hs := hb.size
  exact ⟨below_step q0 hb, by omega, (hc _ _ (by omega)).trans q2, (hc _ _ (by omega)).trans q3, (hc _ _ (by omega)).trans q4, (hc _ _ (by omega)).trans q5, ⟨(hc _ _ (by omega)).trans q6, (hf _ _ (by omega)).trans q7⟩, (hc _ _ (by omega)).trans q8, (hf _ _ (by omega)).trans q9⟩
theorem RAddSt.drew {w : World} {an ad bn bd : Int} {V : World} (q : RAddSt w an ad bn bd V) : RAddSt w an ad bn bd V.drew := q.step (below_drew' (Below.refl _ _))
theorem RAddSt.conj {w : World} {an ad bn bd : Int} {V : World} (q : RAddSt w an ad bn bd V) : V.cell? ⟨w.heap.size, 0, none⟩ = some (.int .i64 an) ∧ V.cell? ⟨w.heap.size, 1, none⟩ = some (.int .i64 ad) ∧ V.cell? ⟨w.heap.size + 1, 0, none⟩ = some (.int .i64 bn) ∧ V.cell? ⟨w.heap.size + 1, 1, none⟩ = some (.int .i64 bd) ∧ RAddSt w an ad bn bd V :=
  ⟨q.2.2.1, q.2.2.2.1, q.2.2.2.2.1, q.2.2.2.2.2.1, q⟩
theorem RAddSt.start {w : World} {an ad bn bd : Int} : RAddSt w an ad bn bd (((w.alloc (.cells #[.int .i64 an, .int .i64 ad] 25)).alloc (.cells #[.int .i64 bn, .int .i64 bd] 25)).alloc (.cells #[.int .i64 0, .int .i64 0] 25)) :=
  ⟨(by repeat (first | with_reducible exact Below.refl _ _ | with_reducible assumption | with_reducible refine below_drewN' ?_ _ | (with_reducible refine Below.setCell ?_ (by first | (simp; done) | (simp; omega)) _) | (with_reducible refine Below.alloc ?_ (by first | exact Nat.le_refl _ | (simp; done) | (simp; omega)) _))), by simp, by go_simp, by go_simp, by go_simp, by go_simp, ⟨by go_simp, by go_simp⟩, by go_simp, by go_simp⟩
set_option maxRecDepth 100000 in
set_option maxHeartbeats 3200000 in
theorem r3_Add_yes (an ad bn bd : Int) (w : World) (ha : validB an ad = true) (hb : validB bn bd = true) :
    Calls Tryd.prog 26 #[.agg #[.int .i64 an, .int .i64 ad], .agg #[.int .i64 bn, .int .i64 bd]] w (FracIs (addS an ad bn bd) w) := by
  obtain ⟨a1, a2, ⟨a3, a4⟩, -⟩ := validB_iff.1 ha
  obtain ⟨b1, b2, ⟨b3, b4⟩, -⟩ := validB_iff.1 hb
  have HGD : Hid (cgcd ad bd ∣ bd) := cgcd_right ad bd
  have hO := Lib.hid (addS_formula ha hb)
  have hZ := Lib.hid (addS_zero ha hb)
  obtain ⟨e1, e2⟩ := cgcd_bounds (n := ad) (show bd ≠ 0 by omega) ⟨by omega, by omega⟩
  obtain ⟨q1, -, -, q4, q5⟩ := quo_facts e1 (cgcd_left ad bd) ⟨by omega, by omega⟩
  obtain ⟨p1, -, -, p4, p5⟩ := quo_facts e1 (cgcd_right ad bd) ⟨by omega, by omega⟩
  have c1 : 1 ≤ ad / cgcd ad bd := by have h := (low_red (N := bd) (D := ad) a1).1; rw [cgcd_comm] at h; exact h
  have d1 : 1 ≤ bd / cgcd ad bd := (low_red (N := ad) (D := bd) b1).1
  generalize hgg : cgcd ad bd = g at *
  generalize ad / g = C at *
  generalize bd / g = D at *
  have J1 : IntKind.i64.wrap D = D := IntWalk.i64_in _ ⟨by omega, by omega⟩
  have J2 : IntKind.i64.wrap C = C := IntWalk.i64_in _ ⟨by omega, by omega⟩
  have hg00 : ¬ g = 0 := by omega
  have hg0 : (g == 0) = false := beq_eq_false_iff_ne.2 (by omega)
  have st0 := Lib.hid (RAddSt.start (w := w) (an := an) (ad := ad) (bn := bn) (bd := bd))
  go_enter Tryd.func26, Tryd.ntmps26
  go_wp2_with fail
  refine (r3_Valid _ _ _).mono ?_
  rintro e w1 ⟨rfl, hb1⟩
  have st1 := Lib.hid (st0.out.step hb1)
  clear hb1
  obtain ⟨z1, z2, z3, z4, -⟩ := st1.out.conj
  go_wp2_with fail
  refine (r3_Valid _ _ _).mono ?_
  rintro e w2 ⟨rfl, hb2⟩
  have st2 := Lib.hid (st1.out.step hb2)
  clear hb2 z1 z2 z3 z4
  obtain ⟨z1, z2, z3, z4, -⟩ := st2.out.conj
  go_wp2_with fail
  refine (r3_gcd_below _ _ _ ⟨by omega, by omega⟩ ⟨by omega, by omega⟩).mono ?_
  rintro e w3 ⟨rfl, hb3⟩
  have st3 := st2.out.step hb3
  rw [hgg]
  clear hb3 z1 z2 z3 z4
  go_wp2_with fail
  go_region_held3 (fun V => V.cell? ⟨w.heap.size, 0, none⟩ = some (.int .i64 an) ∧ V.cell? ⟨w.heap.size, 1, none⟩ = some (.int .i64 ad) ∧ V.cell? ⟨w.heap.size + 1, 0, none⟩ = some (.int .i64 bn) ∧ V.cell? ⟨w.heap.size + 1, 1, none⟩ = some (.int .i64 bd) ∧ RAddSt w an ad bn bd V) (first | exact (RAddSt.drew st3).conj | exact RAddSt.conj (by assumption)) (first | (go_at_call 37; refine (r3_sign _ _).mono ?_; rintro e w' ⟨rfl, rfl⟩; have hst := ‹_ ∧ _ ∧ _ ∧ _ ∧ RAddSt _ _ _ _ _ _›.2.2.2.2) | (go_at_call 38; refine (r3_size _ _ (by omega) (by omega)).mono ?_; rintro e w' ⟨rfl, rfl⟩; have hst := ‹_ ∧ _ ∧ _ ∧ _ ∧ RAddSt _ _ _ _ _ _›.2.2.2.2) | (go_at_call 40; refine (r3_times_i _ _ _ ⟨by omega, by omega⟩ ⟨by omega, by omega⟩).mono ?_; rintro e w' ⟨gg, ff, rfl, hlt, hrow, hsm, hval, hbb⟩; have hst := RAddSt.step (‹_ ∧ _ ∧ _ ∧ _ ∧ RAddSt _ _ _ _ _ _›.2.2.2.2) hbb; have HVAL := Lib.hid hval; clear hval) | (go_at_call 39; refine Calls.mono (r3_sum_of an bn D C _ _ ?fx ?fy _ ?hx ?hy ?sx ?sy ?vx ?vy ⟨a3, a4⟩ ⟨b3, b4⟩ ⟨d1, p5⟩ ⟨c1, q5⟩) ?_; (case hx => first | assumption | exact RowW.step (by assumption) (by assumption)); (case hy => first | assumption | exact RowW.step (by assumption) (by assumption)); (case sx => assumption); (case sy => assumption); (case vx => assumption); (case vy => assumption); rintro e w' ⟨gg, ff, rfl, hrow, hsm, hval, hbb⟩; have hst := RAddSt.step (‹_ ∧ _ ∧ _ ∧ _ ∧ RAddSt _ _ _ _ _ _›.2.2.2.2) hbb; have HVAL := Lib.hid hval; clear hval))
  have ST : Hid (RAddSt w an ad bn bd w') := Lib.hid (‹_ ∧ _ ∧ _ ∧ _ ∧ RAddSt _ _ _ _ _ _›.2.2.2.2)
  have HR := Lib.hid (And.intro hrow hsm)
  clear st3
  obtain ⟨T, hTT⟩ : ∃ T, Hid (an * D + bn * C = T) := ⟨_, rfl⟩
  rw [hTT.out] at HVAL hO hZ
  rw [hTT.out]
  by_cases hT0 : T = 0
  · have hs0 : (sgn T == 0) = true := by rw [hT0]; decide
    have HO : Hid (addS an ad bn bd = (0, 1, true)) := hZ.out hT0
    obtain ⟨-, -, -, -, -, -, ⟨z6, z7⟩, z8, z9⟩ := ST.out
    clear hT0
    go_wp2_with fail
    refine bodyPost_ret (v := .tuple #[.agg #[.int .i64 0, .int .i64 1], .bool true]) (by simp [results, Tryd.results26, go_sem, z6, z8]) rfl ?_
    rw [HO.out]
    have hbb := ST.out.1
    exact ⟨rfl, (by repeat (first | with_reducible exact Below.refl _ _ | with_reducible assumption | with_reducible refine below_drewN' ?_ _ | (with_reducible refine Below.setCell ?_ (by first | (simp; done) | (simp; omega)) _) | (with_reducible refine Below.alloc ?_ (by first | exact Nat.le_refl _ | (simp; done) | (simp; omega)) _)))⟩
  · have HS1 : Hid (sgn T = 1 ∨ sgn T = -1) := by
      show _ ∨ _
      unfold sgn; split
      · exact .inr rfl
      · rw [if_pos (by omega)]; exact .inl rfl
    have hs0 : (sgn T == 0) = false := beq_eq_false_iff_ne.2 (fun h => hT0 (by unfold sgn at h; split at h <;> (try split at h) <;> omega))
    clear hT0
    go_wp2_with fail
    refine (r3_parts_i _ _ _ _ HR.out.1 HR.out.2 e1 e2).mono ?_
    rintro e w4 ⟨g1, f1, rfl, hg1, hr1, hs1, hv1, hb4⟩
    have ST4 := Lib.hid (ST.out.step hb4)
    have HR4 := Lib.hid (And.intro (HR.out.1.step hb4) HR.out.2)
    clear hb4 hr1 hs1 hv1 hg1
    rw [HVAL.out]
    have hrr : ((T.natAbs % g.toNat : Nat) : Int) ≤ 1000000000000000 := by have := Nat.mod_lt T.natAbs (show 0 < g.toNat by omega); omega
    obtain ⟨r, hr⟩ : ∃ r : Int, Hid (((T.natAbs % g.toNat : Nat) : Int) = r) := ⟨_, rfl⟩
    have hr0 : 0 ≤ r := by rw [← hr.out]; exact Int.natCast_nonneg _
    rw [hr.out] at hrr
    rw [hr.out]
    have HK : Hid (cgcd g r = cgcd T g) := by show _ = _; rw [cgcd_comm, ← hr.out]; exact cgcd_mod _ T g rfl e1
    go_wp2_with fail
    refine (r3_gcd_below _ _ _ ⟨by omega, e2⟩ ⟨hr0, hrr⟩).mono ?_
    rintro e w5 ⟨rfl, hb5⟩
    have ST5 := Lib.hid (ST4.out.step hb5)
    have HR5 := Lib.hid (And.intro (HR4.out.1.step hb5) HR4.out.2)
    clear hb5
    have HHO : Hid (addS an ad bn bd = cutS (T / cgcd g r) (C * (bd / cgcd g r))) := by have h1 := hO.out; have h2 := HK.out; show _ = _; rw [h2]; exact h1
    have HKB : Hid (cgcd g r ∣ bd) := Int.dvd_trans (cgcd_left g r) HGD.out
    have HKT : Hid (cgcd g r ∣ T) := by have h2 := HK.out; show _ ∣ _; rw [h2]; exact cgcd_left _ _
    have k1 : 1 ≤ cgcd g r := by rw [cgcd_comm]; exact cgcd_pos e1
    have k2 : cgcd g r ≤ 1000000000000000 := by have := Int.le_of_dvd (by omega) (cgcd_left g r); omega
    generalize cgcd g r = k at *
    obtain ⟨t1, -, -, t4, t5⟩ := quo_facts k1 HKB.out ⟨by omega, by omega⟩
    have tp : 0 ≤ bd / k := Int.ediv_nonneg (by omega) (by omega)
    generalize bd / k = E at *
    have hk0 : (k == 0) = false := beq_eq_false_iff_ne.2 (by omega)
    have hk00 : ¬ k = 0 := by omega
    go_wp2_with fail
    refine (r3_parts_i _ _ _ _ HR5.out.1 HR5.out.2 k1 k2).mono ?_
    rintro e w6 ⟨g2, f2, rfl, hg2, hr2, hs2, hv2, hb6⟩
    have ST6 := Lib.hid (ST5.out.step hb6)
    have HV2 : Hid (valW f2 = T.natAbs / k.toNat) := by have h1 := HVAL.out; show _ = _; rw [hv2, h1]
    clear hb6 hv2 hg2
    have HN := Lib.hid (fun (_ : Unit) => r3_narrow g2 f2 w6 hr2 hs2)
    clear hr2 hs2
    rw [HV2.out] at HN
    go_wp2_with fail
    refine (HN.out ()).mono ?_
    rintro e w7 ⟨rfl, hb7⟩
    have st7 := ST6.out.step hb7
    clear hb7
    have HTN : Hid (T / k = sgn T * ((T.natAbs / k.toNat : Nat) : Int)) := by
      obtain ⟨c, hc⟩ := HKT.out
      show _ = _
      have hkk : k.natAbs = k.toNat := by omega
      rw [hc, Int.mul_ediv_cancel_left _ (by omega), Int.natAbs_mul, hkk, Nat.mul_div_cancel_left _ (by omega)]
      have e3 : sgn (k * c) = sgn c := sgn_scale (p := 1) (q := k) (by omega) (by omega) (by grind)
      rw [e3, sgn_abs]
    generalize T.natAbs / k.toNat = u at *
    have HO2 : Hid (addS an ad bn bd = if narB u && narB (C.natAbs * E.natAbs) then (sgn T * (narV u : Int), ((narV (C.natAbs * E.natAbs) : Nat) : Int), true) else (0, 0, false)) := by
      have h1 := HHO.out; have h2 := HTN.out
      show _ = _
      rw [h1, h2]; exact cutS_nar HS1.out (by omega) tp
    have J4 := wrap_sgn HS1.out (narV_le u)
    have J3 : IntKind.i64.wrap E = E := IntWalk.i64_in _ ⟨by omega, by omega⟩
    obtain ⟨nv, hnv⟩ : ∃ nv, Hid (narV u = nv) := ⟨_, rfl⟩
    obtain ⟨nb, hnb⟩ : ∃ nb, Hid (narB u = nb) := ⟨_, rfl⟩
    rw [hnv.out] at J4
    rw [hnv.out, hnb.out] at HO2
    rw [hnv.out, hnb.out]
    go_wp2_with fail
    go_region_held3 (fun V => V.cell? ⟨w.heap.size, 0, none⟩ = some (.int .i64 an) ∧ V.cell? ⟨w.heap.size, 1, none⟩ = some (.int .i64 ad) ∧ V.cell? ⟨w.heap.size + 1, 0, none⟩ = some (.int .i64 bn) ∧ V.cell? ⟨w.heap.size + 1, 1, none⟩ = some (.int .i64 bd) ∧ RAddSt w an ad bn bd V) (first | exact (RAddSt.drew st7).conj | exact RAddSt.conj (by assumption)) (first | (go_at_call 40; refine (r3_times_i _ _ _ ⟨by omega, by omega⟩ ⟨by omega, by omega⟩).mono ?_; rintro e w' ⟨g3, f3, rfl, hlt, hrow3, hsm3, hval, hbb⟩; have hst := RAddSt.step (‹_ ∧ _ ∧ _ ∧ _ ∧ RAddSt _ _ _ _ _ _›.2.2.2.2) hbb; have HVAL3 := Lib.hid hval; clear hval) | (go_at_call 55; refine (r3_narrow _ _ _ hrow3 hsm3).mono ?_; rw [HVAL3.out]; rintro e w' ⟨rfl, hbb⟩; have hst := RAddSt.step (‹_ ∧ _ ∧ _ ∧ _ ∧ RAddSt _ _ _ _ _ _›.2.2.2.2) hbb))
    have ST8 : Hid (RAddSt w an ad bn bd w') := Lib.hid (‹_ ∧ _ ∧ _ ∧ _ ∧ RAddSt _ _ _ _ _ _›.2.2.2.2)
    clear st7
    obtain ⟨-, -, -, -, -, -, ⟨z6, z7⟩, z8, z9⟩ := ST8.out
    obtain ⟨mv, hmv⟩ : ∃ mv, Hid (narV (C.natAbs * E.natAbs) = mv) := ⟨_, rfl⟩
    obtain ⟨mb, hmb⟩ : ∃ mb, Hid (narB (C.natAbs * E.natAbs) = mb) := ⟨_, rfl⟩
    rw [hmv.out, hmb.out] at HO2
    rw [hmv.out, hmb.out]
    cases nb <;> cases mb
    · go_wp2_with fail
      refine bodyPost_ret (v := .tuple #[.agg #[.int .i64 0, .int .i64 0], .bool false]) (by simp [results, Tryd.results26, go_sem, z6, z8]) rfl ?_
      rw [HO2.out]
      have hbb := ST8.out.1
      exact ⟨rfl, (by repeat (first | with_reducible exact Below.refl _ _ | with_reducible assumption | with_reducible refine below_drewN' ?_ _ | (with_reducible refine Below.setCell ?_ (by first | (simp; done) | (simp; omega)) _) | (with_reducible refine Below.alloc ?_ (by first | exact Nat.le_refl _ | (simp; done) | (simp; omega)) _)))⟩
    · go_wp2_with fail
      refine bodyPost_ret (v := .tuple #[.agg #[.int .i64 0, .int .i64 0], .bool false]) (by simp [results, Tryd.results26, go_sem, z6, z8]) rfl ?_
      rw [HO2.out]
      have hbb := ST8.out.1
      exact ⟨rfl, (by repeat (first | with_reducible exact Below.refl _ _ | with_reducible assumption | with_reducible refine below_drewN' ?_ _ | (with_reducible refine Below.setCell ?_ (by first | (simp; done) | (simp; omega)) _) | (with_reducible refine Below.alloc ?_ (by first | exact Nat.le_refl _ | (simp; done) | (simp; omega)) _)))⟩
    · go_wp2_with fail
      refine bodyPost_ret (v := .tuple #[.agg #[.int .i64 0, .int .i64 0], .bool false]) (by simp [results, Tryd.results26, go_sem, z6, z8]) rfl ?_
      rw [HO2.out]
      have hbb := ST8.out.1
      exact ⟨rfl, (by repeat (first | with_reducible exact Below.refl _ _ | with_reducible assumption | with_reducible refine below_drewN' ?_ _ | (with_reducible refine Below.setCell ?_ (by first | (simp; done) | (simp; omega)) _) | (with_reducible refine Below.alloc ?_ (by first | exact Nat.le_refl _ | (simp; done) | (simp; omega)) _)))⟩
    · go_wp2_with fail
      refine bodyPost_ret (v := .tuple #[.agg #[.int .i64 (sgn T * (nv : Int)), .int .i64 (mv : Int)], .bool true]) (by simp [results, Tryd.results26, go_sem, z6, z8]) rfl ?_
      rw [HO2.out]
      have hbb := ST8.out.1
      exact ⟨rfl, (by repeat (first | with_reducible exact Below.refl _ _ | with_reducible assumption | with_reducible refine below_drewN' ?_ _ | (with_reducible refine Below.setCell ?_ (by first | (simp; done) | (simp; omega)) _) | (with_reducible refine Below.alloc ?_ (by first | exact Nat.le_refl _ | (simp; done) | (simp; omega)) _)))⟩
set_option maxHeartbeats 1600000 in
theorem r3_Add_no (an ad bn bd : Int) (w : World) (h : validB an ad = false ∨ validB an ad = true ∧ validB bn bd = false) :
    Calls Tryd.prog 26 #[.agg #[.int .i64 an, .int .i64 ad], .agg #[.int .i64 bn, .int .i64 bd]] w (FracIs (addS an ad bn bd) w) := by
  have HO : Hid (addS an ad bn bd = (0, 0, false)) := by
    unfold addS
    rcases h with h | ⟨h, h'⟩
    · rw [h]; rfl
    · rw [h, h']; rfl
  rcases h with ha | ⟨ha, hb⟩
  all_goals
    go_enter Tryd.func26, Tryd.ntmps26
    go_wp2_with (go_at_call 18; refine (r3_Valid _ _ _).mono ?_; rintro e w' ⟨rfl, hbb⟩; obtain ⟨hc, hf⟩ := bcell hbb; have c0 : w'.cell? ⟨w.heap.size, 0, none⟩ = some (.int .i64 an) := (hc _ _ (by first | omega | (simp; done) | (simp; omega))).trans (by go_simp); have f0 : w'.frozen? ⟨w.heap.size, 0, none⟩ = false := (hf _ _ (by first | omega | (simp; done) | (simp; omega))).trans (by go_simp); have c1 : w'.cell? ⟨w.heap.size, 1, none⟩ = some (.int .i64 ad) := (hc _ _ (by first | omega | (simp; done) | (simp; omega))).trans (by go_simp); have f1 : w'.frozen? ⟨w.heap.size, 1, none⟩ = false := (hf _ _ (by first | omega | (simp; done) | (simp; omega))).trans (by go_simp); have c2 : w'.cell? ⟨w.heap.size + 1, 0, none⟩ = some (.int .i64 bn) := (hc _ _ (by first | omega | (simp; done) | (simp; omega))).trans (by go_simp); have f2 : w'.frozen? ⟨w.heap.size + 1, 0, none⟩ = false := (hf _ _ (by first | omega | (simp; done) | (simp; omega))).trans (by go_simp); have c3 : w'.cell? ⟨w.heap.size + 1, 1, none⟩ = some (.int .i64 bd) := (hc _ _ (by first | omega | (simp; done) | (simp; omega))).trans (by go_simp); have f3 : w'.frozen? ⟨w.heap.size + 1, 1, none⟩ = false := (hf _ _ (by first | omega | (simp; done) | (simp; omega))).trans (by go_simp); have c4 : w'.cell? ⟨w.heap.size + 1 + 1, 0, none⟩ = some (.int .i64 0) := (hc _ _ (by first | omega | (simp; done) | (simp; omega))).trans (by go_simp); have f4 : w'.frozen? ⟨w.heap.size + 1 + 1, 0, none⟩ = false := (hf _ _ (by first | omega | (simp; done) | (simp; omega))).trans (by go_simp); have c5 : w'.cell? ⟨w.heap.size + 1 + 1, 1, none⟩ = some (.int .i64 0) := (hc _ _ (by first | omega | (simp; done) | (simp; omega))).trans (by go_simp); have f5 : w'.frozen? ⟨w.heap.size + 1 + 1, 1, none⟩ = false := (hf _ _ (by first | omega | (simp; done) | (simp; omega))).trans (by go_simp); have hz : w.heap.size + 1 + 1 < w'.heap.size := (by have hs := hbb.size; first | omega | (simp at hs; done) | (simp at hs; omega)); have hbA : Below w.heap.size w w' := Below.trans (b := _) (by repeat (first | with_reducible exact Below.refl _ _ | with_reducible assumption | with_reducible refine below_drewN' ?_ _ | (with_reducible refine Below.setCell ?_ (by first | (simp; done) | (simp; omega)) _) | (with_reducible refine Below.alloc ?_ (by first | exact Nat.le_refl _ | (simp; done) | (simp; omega)) _))) (hbb.mono (by first | omega | (simp; done) | (simp; omega))); clear hc hf hbb)
    refine bodyPost_ret (v := .tuple #[.agg #[.int .i64 0, .int .i64 0], .bool false]) (by simp [results, Tryd.results26, go_sem, c4, c5]) rfl ?_
    rw [HO.out]
    exact ⟨rfl, (by repeat (first | with_reducible exact Below.refl _ _ | with_reducible assumption | with_reducible refine below_drewN' ?_ _ | (with_reducible refine Below.setCell ?_ (by first | (simp; done) | (simp; omega)) _) | (with_reducible refine Below.alloc ?_ (by first | exact Nat.le_refl _ | (simp; done) | (simp; omega)) _)))⟩
theorem r3_Add (an ad bn bd : Int) (w : World) :
    Calls Tryd.prog 26 #[.agg #[.int .i64 an, .int .i64 ad], .agg #[.int .i64 bn, .int .i64 bd]] w (FracIs (addS an ad bn bd) w) := by
  cases ha : validB an ad
  · exact r3_Add_no _ _ _ _ w (.inl ha)
  · cases hb : validB bn bd
    · exact r3_Add_no _ _ _ _ w (.inr ⟨ha, hb⟩)
    · exact r3_Add_yes _ _ _ _ w ha hb
end Go.Proofs.YtlkpmbkmmfoakaaDoor

/- THE WALKS over the reference's Sub, Mul. -/
namespace Go.Proofs.YtlkpmbkmmfoakaaDoor
open Go.RowKit
theorem sgn_casesT (x : Int) : sgn x = -1 ∨ sgn x = 0 ∨ sgn x = 1 := by
  unfold sgn; split <;> (try split) <;> omega
theorem sgn_negT (x : Int) : sgn (-x) = -sgn x := by
  unfold sgn; split <;> split <;> (try split) <;> omega
theorem valid_negT {n d : Int} (h : validB n d = true) : validB (-n) d = true := by
  obtain ⟨h1, h2, h3, h4⟩ := validB_iff.1 h
  exact validB_iff.2 ⟨h1, h2, ⟨by omega, by omega⟩, by unfold cgcd at h4 ⊢; rw [Int.natAbs_neg]; exact h4⟩
theorem valid_neg_iff (n d : Int) : validB (-n) d = validB n d := by
  cases h : validB n d
  · cases h2 : validB (-n) d
    · rfl
    · have := valid_negT h2; rw [Int.neg_neg, h] at this; cases this
  · exact valid_negT h
set_option maxHeartbeats 1600000 in
theorem r3_Sub (an ad bn bd : Int) (w : World) :
    Calls Tryd.prog 14 #[.agg #[.int .i64 an, .int .i64 ad], .agg #[.int .i64 bn, .int .i64 bd]] w (FracIs (subS an ad bn bd) w) := by
  have st0 := Lib.hid (RAddSt.start (w := w) (an := an) (ad := ad) (bn := bn) (bd := bd))
  cases hb : validB bn bd
  · have HO : Hid (subS an ad bn bd = (0, 0, false)) := by
      show _ = _
      unfold subS addS; rw [valid_neg_iff, hb, Bool.and_false]; rfl
    go_enter Tryd.func14, Tryd.ntmps14
    go_wp2_with fail
    refine (r3_Valid _ _ _).mono ?_
    rintro e w1 ⟨rfl, hb1⟩
    have st1 := Lib.hid (st0.out.step hb1)
    clear hb1
    obtain ⟨-, -, -, -, -, -, ⟨z6, z7⟩, z8, z9⟩ := st1.out
    go_wp2_with fail
    refine bodyPost_ret (v := .tuple #[.agg #[.int .i64 0, .int .i64 0], .bool false]) (by simp [results, Tryd.results14, go_sem, z6, z8]) rfl ?_
    rw [HO.out]
    have hbb := st1.out.1
    exact ⟨rfl, (by repeat (first | with_reducible exact Below.refl _ _ | with_reducible assumption | with_reducible refine below_drewN' ?_ _ | (with_reducible refine Below.setCell ?_ (by first | (simp; done) | (simp; omega)) _) | (with_reducible refine Below.alloc ?_ (by first | exact Nat.le_refl _ | (simp; done) | (simp; omega)) _)))⟩
  · obtain ⟨b1, b2, ⟨b3, b4⟩, -⟩ := validB_iff.1 hb
    have HO : Hid (subS an ad bn bd = addS an ad (-bn) bd) := Lib.hid rfl
    generalize subS an ad bn bd = R at *
    go_enter Tryd.func14, Tryd.ntmps14
    go_wp2_with fail
    refine (r3_Valid _ _ _).mono ?_
    rintro e w1 ⟨rfl, hb1⟩
    have st1 := Lib.hid (st0.out.step hb1)
    clear hb1
    obtain ⟨-, -, z2, z3, z4, z5, -⟩ := st1.out
    go_wp2_with fail
    refine (r3_Add _ _ _ _ _).mono ?_
    rintro e w2 ⟨rfl, hb2⟩
    have st2 := Lib.hid (st1.out.step hb2)
    clear hb2 z2 z3 z4 z5
    obtain ⟨-, -, -, -, -, -, ⟨z6, z7⟩, z8, z9⟩ := st2.out
    go_wp2_with fail
    refine bodyPost_ret (v := .tuple #[.agg #[.int .i64 (addS an ad (-bn) bd).1, .int .i64 (addS an ad (-bn) bd).2.1], .bool (addS an ad (-bn) bd).2.2]) (by simp [results, Tryd.results14, go_sem, z6, z8]) rfl ?_
    rw [HO.out]
    have hbb := st2.out.1
    exact ⟨rfl, (by repeat (first | with_reducible exact Below.refl _ _ | with_reducible assumption | with_reducible refine below_drewN' ?_ _ | (with_reducible refine Below.setCell ?_ (by first | (simp; done) | (simp; omega)) _) | (with_reducible refine Below.alloc ?_ (by first | exact Nat.le_refl _ | (simp; done) | (simp; omega)) _)))⟩
theorem cutS_nar2 {s C E : Int} {u : Nat} (h : (s = 1 ∨ s = -1) ∨ (s = 0 ∧ u = 0)) (hC : 0 ≤ C) (hE : 0 ≤ E) :
    cutS (s * (u : Int)) (C * E) = if narB u && narB (C.natAbs * E.natAbs) then (s * (narV u : Int), ((narV (C.natAbs * E.natAbs) : Nat) : Int), true) else (0, 0, false) := by
  rcases h with h | ⟨rfl, rfl⟩
  · exact cutS_nar h hC hE
  · unfold cutS
    rw [Int.zero_mul, show inB 0 = narB 0 from by decide, (inB_mul hC hE).1]
    cases h2 : narB (C.natAbs * E.natAbs)
    · simp
    · rw [narV_true h2, ← (inB_mul hC hE).2, show narB 0 = true from by decide, Int.zero_mul]
theorem sgn_two (a b : Int) : (sgn a * sgn b = 1 ∨ sgn a * sgn b = -1) ∨ (sgn a * sgn b = 0 ∧ (a = 0 ∨ b = 0)) := by
  rcases sgn_casesT a with h1 | h1 | h1 <;> rcases sgn_casesT b with h2 | h2 | h2 <;> rw [h1, h2]
  · exact .inl (.inl rfl)
  · exact .inr ⟨rfl, .inr (sgn_eq.1 h2)⟩
  · exact .inl (.inr rfl)
  · exact .inr ⟨rfl, .inl (sgn_eq.1 h1)⟩
  · exact .inr ⟨rfl, .inl (sgn_eq.1 h1)⟩
  · exact .inr ⟨rfl, .inl (sgn_eq.1 h1)⟩
  · exact .inl (.inr rfl)
  · exact .inr ⟨rfl, .inr (sgn_eq.1 h2)⟩
  · exact .inl (.inl rfl)
theorem sgn_quo {n g : Int} (hg : 1 ≤ g) (h : g ∣ n) : n / g = sgn n * ((n.natAbs / g.natAbs : Nat) : Int) ∧ ((n.natAbs : Int)).tdiv g = ((n.natAbs / g.natAbs : Nat) : Int) := by
  obtain ⟨c, hc⟩ := h
  have e1 : n.natAbs / g.natAbs = c.natAbs := by rw [hc, Int.natAbs_mul, Nat.mul_div_cancel_left _ (by omega)]
  have e2 : sgn n = sgn c := sgn_scale (p := 1) (q := g) (by omega) (by omega) (by rw [hc]; grind)
  refine ⟨?_, ?_⟩
  · rw [e1, e2, sgn_abs, hc, Int.mul_ediv_cancel_left _ (by omega)]
  · rw [Int.tdiv_eq_ediv_of_nonneg (by omega), e1, hc, Int.natAbs_mul, Int.natCast_mul, show ((g.natAbs : Nat) : Int) = g from by omega, Int.mul_ediv_cancel_left _ (by omega)]
theorem wrap_sgn2 (a b : Int) : IntKind.i64.wrap (sgn a * sgn b) = sgn a * sgn b := by
  rcases sgn_casesT a with h1 | h1 | h1 <;> rcases sgn_casesT b with h2 | h2 | h2 <;> rw [h1, h2] <;> decide
theorem wrap_sgn3 (a b : Int) {n : Nat} (hn : n ≤ 1000000000000000) : IntKind.i64.wrap (sgn a * sgn b * (n : Int)) = sgn a * sgn b * n := by
  rcases sgn_two a b with h | ⟨h, -⟩
  · exact wrap_sgn h hn
  · rw [h, Int.zero_mul]; decide
set_option maxRecDepth 100000 in
set_option maxHeartbeats 3200000 in
theorem r3_Mul_yes (an ad bn bd : Int) (w : World) (ha : validB an ad = true) (hb : validB bn bd = true) :
    Calls Tryd.prog 36 #[.agg #[.int .i64 an, .int .i64 ad], .agg #[.int .i64 bn, .int .i64 bd]] w (FracIs (mulS an ad bn bd) w) := by
  obtain ⟨a1, a2, ⟨a3, a4⟩, -⟩ := validB_iff.1 ha
  obtain ⟨b1, b2, ⟨b3, b4⟩, -⟩ := validB_iff.1 hb
  have hO : mulS an ad bn bd = _ := mulS_formula ha hb
  obtain ⟨g1, g2⟩ := cgcd_bounds (n := an) (show bd ≠ 0 by omega) ⟨by omega, by omega⟩
  obtain ⟨k1, k2⟩ := cgcd_bounds (n := bn) (show ad ≠ 0 by omega) ⟨by omega, by omega⟩
  obtain ⟨s1, s2⟩ := sgn_quo g1 (cgcd_left an bd)
  obtain ⟨s3, s4⟩ := sgn_quo k1 (cgcd_left bn ad)
  obtain ⟨p1, -, -, p4, p5⟩ := quo_facts g1 (cgcd_right an bd) ⟨by omega, by omega⟩
  obtain ⟨r1, -, -, r4, r5⟩ := quo_facts k1 (cgcd_right bn ad) ⟨by omega, by omega⟩
  have p0 : 0 ≤ bd / cgcd an bd := Int.ediv_nonneg (by omega) (by omega)
  have r0 : 0 ≤ ad / cgcd bn ad := Int.ediv_nonneg (by omega) (by omega)
  have u1 : an.natAbs / (cgcd an bd).natAbs ≤ 1000000000000000 := Nat.le_trans (Nat.div_le_self _ _) (by omega)
  have v1 : bn.natAbs / (cgcd bn ad).natAbs ≤ 1000000000000000 := Nat.le_trans (Nat.div_le_self _ _) (by omega)
  have HZ1 : Hid (an = 0 → an.natAbs / (cgcd an bd).natAbs = 0) := Lib.hid (fun h => by rw [h]; simp)
  have HZ2 : Hid (bn = 0 → bn.natAbs / (cgcd bn ad).natAbs = 0) := Lib.hid (fun h => by rw [h]; simp)
  rw [s1, s3] at hO
  have HG := Lib.hid (cgcd_abs an bd)
  have HK := Lib.hid (cgcd_abs bn ad)
  clear s1 s3
  generalize hgg : cgcd an bd = g at *
  generalize hkk : cgcd bn ad = k at *
  clear hgg hkk
  generalize an.natAbs / g.natAbs = A at *
  generalize bd / g = D at *
  generalize bn.natAbs / k.natAbs = B at *
  generalize ad / k = C at *
  have HO2 : Hid (mulS an ad bn bd = if narB (A * B) && narB (C.natAbs * D.natAbs) then (sgn an * sgn bn * (narV (A * B) : Int), ((narV (C.natAbs * D.natAbs) : Nat) : Int), true) else (0, 0, false)) := by
    show _ = _
    rw [hO, show sgn an * (A : Int) * (sgn bn * (B : Int)) = sgn an * sgn bn * ((A * B : Nat) : Int) from by rw [Int.natCast_mul]; grind]
    refine cutS_nar2 ?_ r0 p0
    rcases sgn_two an bn with h | ⟨h, h2⟩
    · exact .inl h
    · refine .inr ⟨h, ?_⟩
      rcases h2 with h2 | h2
      · rw [HZ1.out h2, Nat.zero_mul]
      · rw [HZ2.out h2, Nat.mul_zero]
  clear hO
  have hg0 : (g == 0) = false := beq_eq_false_iff_ne.2 (by omega)
  have hk0 : (k == 0) = false := beq_eq_false_iff_ne.2 (by omega)
  have hg00 : ¬ g = 0 := by omega
  have hk00 : ¬ k = 0 := by omega
  have J1 : IntKind.i64.wrap D = D := IntWalk.i64_in _ ⟨by omega, by omega⟩
  have J2 : IntKind.i64.wrap C = C := IntWalk.i64_in _ ⟨by omega, by omega⟩
  have J3 : IntKind.i64.wrap (A : Int) = A := IntWalk.i64_in _ ⟨by omega, by omega⟩
  have J4 : IntKind.i64.wrap (B : Int) = B := IntWalk.i64_in _ ⟨by omega, by omega⟩
  have J5 := wrap_sgn2 an bn
  have J6 := wrap_sgn3 an bn (narV_le (A * B))
  obtain ⟨nv, hnv⟩ : ∃ nv, Hid (narV (A * B) = nv) := ⟨_, rfl⟩
  obtain ⟨nb, hnb⟩ : ∃ nb, Hid (narB (A * B) = nb) := ⟨_, rfl⟩
  obtain ⟨mv, hmv⟩ : ∃ mv, Hid (narV (C.natAbs * D.natAbs) = mv) := ⟨_, rfl⟩
  obtain ⟨mb, hmb⟩ : ∃ mb, Hid (narB (C.natAbs * D.natAbs) = mb) := ⟨_, rfl⟩
  rw [hnv.out] at J6
  rw [hnv.out, hnb.out, hmv.out, hmb.out] at HO2
  have st0 := Lib.hid (RAddSt.start (w := w) (an := an) (ad := ad) (bn := bn) (bd := bd))
  go_enter Tryd.func36, Tryd.ntmps36
  go_wp2_with fail
  refine (r3_Valid _ _ _).mono ?_
  rintro e w1 ⟨rfl, hb1⟩
  have st1 := Lib.hid (st0.out.step hb1)
  clear hb1
  obtain ⟨z1, z2, z3, z4, -⟩ := st1.out.conj
  go_wp2_with fail
  refine (r3_Valid _ _ _).mono ?_
  rintro e w2 ⟨rfl, hb2⟩
  have st2 := st1.out.step hb2
  clear hb2 z1 z2 z3 z4
  go_wp2_with fail
  go_region_held3 (fun V => V.cell? ⟨w.heap.size, 0, none⟩ = some (.int .i64 an) ∧ V.cell? ⟨w.heap.size, 1, none⟩ = some (.int .i64 ad) ∧ V.cell? ⟨w.heap.size + 1, 0, none⟩ = some (.int .i64 bn) ∧ V.cell? ⟨w.heap.size + 1, 1, none⟩ = some (.int .i64 bd) ∧ RAddSt w an ad bn bd V) (first | exact (RAddSt.drew st2).conj | exact RAddSt.conj (by assumption)) (first | (go_at_call 38; refine (r3_size _ _ (by omega) (by omega)).mono ?_; rintro e w' ⟨rfl, rfl⟩; have hst := ‹_ ∧ _ ∧ _ ∧ _ ∧ RAddSt _ _ _ _ _ _›.2.2.2.2) | (go_at_call 43; refine (r3_gcd_below _ _ _ ⟨by omega, by omega⟩ ⟨by omega, by omega⟩).mono ?_; rw [HG.out]; rintro e w' ⟨rfl, hbb⟩; have hst := RAddSt.step (‹_ ∧ _ ∧ _ ∧ _ ∧ RAddSt _ _ _ _ _ _›.2.2.2.2) hbb))
  have st3 := ‹_ ∧ _ ∧ _ ∧ _ ∧ RAddSt _ _ _ _ _ _›.2.2.2.2
  clear st2
  go_wp2_with fail
  go_region_held3 (fun V => V.cell? ⟨w.heap.size, 0, none⟩ = some (.int .i64 an) ∧ V.cell? ⟨w.heap.size, 1, none⟩ = some (.int .i64 ad) ∧ V.cell? ⟨w.heap.size + 1, 0, none⟩ = some (.int .i64 bn) ∧ V.cell? ⟨w.heap.size + 1, 1, none⟩ = some (.int .i64 bd) ∧ RAddSt w an ad bn bd V) (first | exact (RAddSt.drew st3).conj | exact RAddSt.conj (by assumption)) (first | (go_at_call 38; refine (r3_size _ _ (by omega) (by omega)).mono ?_; rintro e w' ⟨rfl, rfl⟩; have hst := ‹_ ∧ _ ∧ _ ∧ _ ∧ RAddSt _ _ _ _ _ _›.2.2.2.2) | (go_at_call 43; refine (r3_gcd_below _ _ _ ⟨by omega, by omega⟩ ⟨by omega, by omega⟩).mono ?_; rw [HK.out]; rintro e w' ⟨rfl, hbb⟩; have hst := RAddSt.step (‹_ ∧ _ ∧ _ ∧ _ ∧ RAddSt _ _ _ _ _ _›.2.2.2.2) hbb))
  have st4 := ‹_ ∧ _ ∧ _ ∧ _ ∧ RAddSt _ _ _ _ _ _›.2.2.2.2
  clear st3
  go_wp2_with fail
  go_region_held3 (fun V => V.cell? ⟨w.heap.size, 0, none⟩ = some (.int .i64 an) ∧ V.cell? ⟨w.heap.size, 1, none⟩ = some (.int .i64 ad) ∧ V.cell? ⟨w.heap.size + 1, 0, none⟩ = some (.int .i64 bn) ∧ V.cell? ⟨w.heap.size + 1, 1, none⟩ = some (.int .i64 bd) ∧ RAddSt w an ad bn bd V) (first | exact (RAddSt.drew st4).conj | exact RAddSt.conj (by assumption)) (first | (go_at_call 38; refine (r3_size _ _ (by omega) (by omega)).mono ?_; rintro e w' ⟨rfl, rfl⟩; have hst := ‹_ ∧ _ ∧ _ ∧ _ ∧ RAddSt _ _ _ _ _ _›.2.2.2.2) | (go_at_call 40; refine (r3_times_i _ _ _ ⟨by omega, by omega⟩ ⟨by omega, by omega⟩).mono ?_; rintro e w' ⟨gg, ff, rfl, hlt, hrow, hsm, hval, hbb⟩; have hst := RAddSt.step (‹_ ∧ _ ∧ _ ∧ _ ∧ RAddSt _ _ _ _ _ _›.2.2.2.2) hbb; have HVAL := Lib.hid hval; clear hval) | (go_at_call 55; refine (r3_narrow _ _ _ hrow hsm).mono ?_; rw [HVAL.out]; rintro e w' ⟨rfl, hbb⟩; have hst := RAddSt.step (‹_ ∧ _ ∧ _ ∧ _ ∧ RAddSt _ _ _ _ _ _›.2.2.2.2) hbb))
  have st5 := ‹_ ∧ _ ∧ _ ∧ _ ∧ RAddSt _ _ _ _ _ _›.2.2.2.2
  clear st4
  rw [hnv.out, hnb.out]
  go_wp2_with fail
  go_region_held3 (fun V => V.cell? ⟨w.heap.size, 0, none⟩ = some (.int .i64 an) ∧ V.cell? ⟨w.heap.size, 1, none⟩ = some (.int .i64 ad) ∧ V.cell? ⟨w.heap.size + 1, 0, none⟩ = some (.int .i64 bn) ∧ V.cell? ⟨w.heap.size + 1, 1, none⟩ = some (.int .i64 bd) ∧ RAddSt w an ad bn bd V) (first | exact (RAddSt.drew st5).conj | exact RAddSt.conj (by assumption)) (first | (go_at_call 40; refine (r3_times_i _ _ _ ⟨by omega, by omega⟩ ⟨by omega, by omega⟩).mono ?_; rintro e w' ⟨gg2, ff2, rfl, hlt, hrow2, hsm2, hval, hbb⟩; have hst := RAddSt.step (‹_ ∧ _ ∧ _ ∧ _ ∧ RAddSt _ _ _ _ _ _›.2.2.2.2) hbb; have HVAL2 := Lib.hid hval; clear hval) | (go_at_call 55; refine (r3_narrow _ _ _ hrow2 hsm2).mono ?_; rw [HVAL2.out]; rintro e w' ⟨rfl, hbb⟩; have hst := RAddSt.step (‹_ ∧ _ ∧ _ ∧ _ ∧ RAddSt _ _ _ _ _ _›.2.2.2.2) hbb))
  have ST6 : Hid (RAddSt w an ad bn bd w') := Lib.hid (‹_ ∧ _ ∧ _ ∧ _ ∧ RAddSt _ _ _ _ _ _›.2.2.2.2)
  clear st5
  obtain ⟨-, -, z2, z3, z4, z5, ⟨z6, z7⟩, z8, z9⟩ := ST6.out
  rw [hmv.out, hmb.out]
  cases nb <;> cases mb
  · go_wp2_with fail
    refine bodyPost_ret (v := .tuple #[.agg #[.int .i64 0, .int .i64 0], .bool false]) (by simp [results, Tryd.results36, go_sem, z6, z8]) rfl ?_
    rw [HO2.out]
    have hbb := ST6.out.1
    exact ⟨rfl, (by repeat (first | with_reducible exact Below.refl _ _ | with_reducible assumption | with_reducible refine below_drewN' ?_ _ | (with_reducible refine Below.setCell ?_ (by first | (simp; done) | (simp; omega)) _) | (with_reducible refine Below.alloc ?_ (by first | exact Nat.le_refl _ | (simp; done) | (simp; omega)) _)))⟩
  · go_wp2_with fail
    refine bodyPost_ret (v := .tuple #[.agg #[.int .i64 0, .int .i64 0], .bool false]) (by simp [results, Tryd.results36, go_sem, z6, z8]) rfl ?_
    rw [HO2.out]
    have hbb := ST6.out.1
    exact ⟨rfl, (by repeat (first | with_reducible exact Below.refl _ _ | with_reducible assumption | with_reducible refine below_drewN' ?_ _ | (with_reducible refine Below.setCell ?_ (by first | (simp; done) | (simp; omega)) _) | (with_reducible refine Below.alloc ?_ (by first | exact Nat.le_refl _ | (simp; done) | (simp; omega)) _)))⟩
  · go_wp2_with fail
    refine bodyPost_ret (v := .tuple #[.agg #[.int .i64 0, .int .i64 0], .bool false]) (by simp [results, Tryd.results36, go_sem, z6, z8]) rfl ?_
    rw [HO2.out]
    have hbb := ST6.out.1
    exact ⟨rfl, (by repeat (first | with_reducible exact Below.refl _ _ | with_reducible assumption | with_reducible refine below_drewN' ?_ _ | (with_reducible refine Below.setCell ?_ (by first | (simp; done) | (simp; omega)) _) | (with_reducible refine Below.alloc ?_ (by first | exact Nat.le_refl _ | (simp; done) | (simp; omega)) _)))⟩
  · go_wp2_with fail
    go_region_held3 (fun V => V.cell? ⟨w.heap.size, 0, none⟩ = some (.int .i64 an) ∧ V.cell? ⟨w.heap.size + 1, 0, none⟩ = some (.int .i64 bn)) (go_simp) ((go_at_call 37; refine (r3_sign _ _).mono ?_; rintro e w' ⟨rfl, rfl⟩))
    all_goals go_wp2_with fail
    all_goals refine bodyPost_ret (v := .tuple #[.agg #[.int .i64 (sgn an * sgn bn * (nv : Int)), .int .i64 (mv : Int)], .bool true]) (by simp [results, Tryd.results36, go_sem, z6, z8]) rfl ?_
    all_goals rw [HO2.out]
    all_goals have hbb := ST6.out.1
    all_goals exact ⟨rfl, below_drew' (by repeat (first | with_reducible exact Below.refl _ _ | with_reducible assumption | with_reducible refine below_drewN' ?_ _ | (with_reducible refine Below.setCell ?_ (by first | (simp; done) | (simp; omega)) _) | (with_reducible refine Below.alloc ?_ (by first | exact Nat.le_refl _ | (simp; done) | (simp; omega)) _)))⟩
set_option maxHeartbeats 1600000 in
theorem r3_Mul_no (an ad bn bd : Int) (w : World) (h : validB an ad = false ∨ validB an ad = true ∧ validB bn bd = false) :
    Calls Tryd.prog 36 #[.agg #[.int .i64 an, .int .i64 ad], .agg #[.int .i64 bn, .int .i64 bd]] w (FracIs (mulS an ad bn bd) w) := by
  have HO : Hid (mulS an ad bn bd = (0, 0, false)) := by
    unfold mulS
    rcases h with h | ⟨h, h'⟩
    · rw [h]; rfl
    · rw [h, h']; rfl
  rcases h with ha | ⟨ha, hb⟩
  all_goals
    go_enter Tryd.func36, Tryd.ntmps36
    go_wp2_with (go_at_call 18; refine (r3_Valid _ _ _).mono ?_; rintro e w' ⟨rfl, hbb⟩; obtain ⟨hc, hf⟩ := bcell hbb; have c0 : w'.cell? ⟨w.heap.size, 0, none⟩ = some (.int .i64 an) := (hc _ _ (by first | omega | (simp; done) | (simp; omega))).trans (by go_simp); have f0 : w'.frozen? ⟨w.heap.size, 0, none⟩ = false := (hf _ _ (by first | omega | (simp; done) | (simp; omega))).trans (by go_simp); have c1 : w'.cell? ⟨w.heap.size, 1, none⟩ = some (.int .i64 ad) := (hc _ _ (by first | omega | (simp; done) | (simp; omega))).trans (by go_simp); have f1 : w'.frozen? ⟨w.heap.size, 1, none⟩ = false := (hf _ _ (by first | omega | (simp; done) | (simp; omega))).trans (by go_simp); have c2 : w'.cell? ⟨w.heap.size + 1, 0, none⟩ = some (.int .i64 bn) := (hc _ _ (by first | omega | (simp; done) | (simp; omega))).trans (by go_simp); have f2 : w'.frozen? ⟨w.heap.size + 1, 0, none⟩ = false := (hf _ _ (by first | omega | (simp; done) | (simp; omega))).trans (by go_simp); have c3 : w'.cell? ⟨w.heap.size + 1, 1, none⟩ = some (.int .i64 bd) := (hc _ _ (by first | omega | (simp; done) | (simp; omega))).trans (by go_simp); have f3 : w'.frozen? ⟨w.heap.size + 1, 1, none⟩ = false := (hf _ _ (by first | omega | (simp; done) | (simp; omega))).trans (by go_simp); have c4 : w'.cell? ⟨w.heap.size + 1 + 1, 0, none⟩ = some (.int .i64 0) := (hc _ _ (by first | omega | (simp; done) | (simp; omega))).trans (by go_simp); have f4 : w'.frozen? ⟨w.heap.size + 1 + 1, 0, none⟩ = false := (hf _ _ (by first | omega | (simp; done) | (simp; omega))).trans (by go_simp); have c5 : w'.cell? ⟨w.heap.size + 1 + 1, 1, none⟩ = some (.int .i64 0) := (hc _ _ (by first | omega | (simp; done) | (simp; omega))).trans (by go_simp); have f5 : w'.frozen? ⟨w.heap.size + 1 + 1, 1, none⟩ = false := (hf _ _ (by first | omega | (simp; done) | (simp; omega))).trans (by go_simp); have hz : w.heap.size + 1 + 1 < w'.heap.size := (by have hs := hbb.size; first | omega | (simp at hs; done) | (simp at hs; omega)); have hbA : Below w.heap.size w w' := Below.trans (b := _) (by repeat (first | with_reducible exact Below.refl _ _ | with_reducible assumption | with_reducible refine below_drewN' ?_ _ | (with_reducible refine Below.setCell ?_ (by first | (simp; done) | (simp; omega)) _) | (with_reducible refine Below.alloc ?_ (by first | exact Nat.le_refl _ | (simp; done) | (simp; omega)) _))) (hbb.mono (by first | omega | (simp; done) | (simp; omega))); clear hc hf hbb)
    refine bodyPost_ret (v := .tuple #[.agg #[.int .i64 0, .int .i64 0], .bool false]) (by simp [results, Tryd.results36, go_sem, c4, c5]) rfl ?_
    rw [HO.out]
    exact ⟨rfl, (by repeat (first | with_reducible exact Below.refl _ _ | with_reducible assumption | with_reducible refine below_drewN' ?_ _ | (with_reducible refine Below.setCell ?_ (by first | (simp; done) | (simp; omega)) _) | (with_reducible refine Below.alloc ?_ (by first | exact Nat.le_refl _ | (simp; done) | (simp; omega)) _)))⟩
theorem r3_Mul (an ad bn bd : Int) (w : World) :
    Calls Tryd.prog 36 #[.agg #[.int .i64 an, .int .i64 ad], .agg #[.int .i64 bn, .int .i64 bd]] w (FracIs (mulS an ad bn bd) w) := by
  cases ha : validB an ad
  · exact r3_Mul_no _ _ _ _ w (.inl ha)
  · cases hb : validB bn bd
    · exact r3_Mul_no _ _ _ _ w (.inr ⟨ha, hb⟩)
    · exact r3_Mul_yes _ _ _ _ w ha hb
end Go.Proofs.YtlkpmbkmmfoakaaDoor
