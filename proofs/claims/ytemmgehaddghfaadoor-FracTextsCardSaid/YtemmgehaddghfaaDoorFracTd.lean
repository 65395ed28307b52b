/- THE WALKS over the reference's Sub, Mul. -/
import Derived.Test.YtemmgehaddghfaaDoorFracTc
namespace Go.Proofs.YtemmgehaddghfaaDoor
open Go.RowKit

theorem valid_neg_iff (n d : Int) : validB (-n) d = validB n d := by
  cases h : validB n d
  · cases h2 : validB (-n) d
    · rfl
    · have := valid_neg h2; rw [Int.neg_neg, h] at this; cases this
  · exact valid_neg h

set_option maxHeartbeats 1600000 in
theorem r3_Sub (an ad bn bd : Int) (w : World) :
    Calls Tryd.prog 17 #[.agg #[.int .i64 an, .int .i64 ad], .agg #[.int .i64 bn, .int .i64 bd]] w (FracIs (subS an ad bn bd) w) := by
  have st0 := Lib.hid (RAddSt.start (w := w) (an := an) (ad := ad) (bn := bn) (bd := bd))
  cases hb : validB bn bd
  · have HO : Hid (subS an ad bn bd = (0, 0, false)) := by
      show _ = _
      unfold subS addS; rw [valid_neg_iff, hb, Bool.and_false]; rfl
    go_enter Tryd.func17, Tryd.ntmps17
    go_wp2_with fail
    refine (r3_Valid _ _ _).mono ?_
    rintro e w1 ⟨rfl, hb1⟩
    have st1 := Lib.hid (st0.out.step hb1)
    clear hb1
    obtain ⟨-, -, -, -, -, -, ⟨z6, z7⟩, z8, z9⟩ := st1.out
    go_wp2_with fail
    refine bodyPost_ret (v := .tuple #[.agg #[.int .i64 0, .int .i64 0], .bool false]) (by simp [results, Tryd.results17, go_sem, z6, z8]) rfl ?_
    rw [HO.out]
    have hbb := st1.out.1
    exact ⟨rfl, (by repeat (first | with_reducible exact Below.refl _ _ | with_reducible assumption | with_reducible refine below_drewN' ?_ _ | (with_reducible refine Below.setCell ?_ (by first | (simp; done) | (simp; omega)) _) | (with_reducible refine Below.alloc ?_ (by first | exact Nat.le_refl _ | (simp; done) | (simp; omega)) _)))⟩
  · obtain ⟨b1, b2, ⟨b3, b4⟩, -⟩ := validB_iff.1 hb
    have HO : Hid (subS an ad bn bd = addS an ad (-bn) bd) := Lib.hid rfl
    generalize subS an ad bn bd = R at *
    go_enter Tryd.func17, Tryd.ntmps17
    go_wp2_with fail
    refine (r3_Valid _ _ _).mono ?_
    rintro e w1 ⟨rfl, hb1⟩
    have st1 := Lib.hid (st0.out.step hb1)
    clear hb1
    obtain ⟨-, -, z2, z3, z4, z5, -⟩ := st1.out
    go_wp2_with fail
    refine (r3_Add _ _ _ _ _).mono ?_
    rintro e w2 ⟨rfl, hb2⟩
    have st2 := Lib.hid (st1.out.step hb2)
    clear hb2 z2 z3 z4 z5
    obtain ⟨-, -, -, -, -, -, ⟨z6, z7⟩, z8, z9⟩ := st2.out
    go_wp2_with fail
    refine bodyPost_ret (v := .tuple #[.agg #[.int .i64 (addS an ad (-bn) bd).1, .int .i64 (addS an ad (-bn) bd).2.1], .bool (addS an ad (-bn) bd).2.2]) (by simp [results, Tryd.results17, go_sem, z6, z8]) rfl ?_
    rw [HO.out]
    have hbb := st2.out.1
    exact ⟨rfl, (by repeat (first | with_reducible exact Below.refl _ _ | with_reducible assumption | with_reducible refine below_drewN' ?_ _ | (with_reducible refine Below.setCell ?_ (by first | (simp; done) | (simp; omega)) _) | (with_reducible refine Below.alloc ?_ (by first | exact Nat.le_refl _ | (simp; done) | (simp; omega)) _)))⟩

theorem cutS_nar2 {s C E : Int} {u : Nat} (h : (s = 1 ∨ s = -1) ∨ (s = 0 ∧ u = 0)) (hC : 0 ≤ C) (hE : 0 ≤ E) :
    cutS (s * (u : Int)) (C * E) = if narB u && narB (C.natAbs * E.natAbs) then (s * (narV u : Int), ((narV (C.natAbs * E.natAbs) : Nat) : Int), true) else (0, 0, false) := by
  rcases h with h | ⟨rfl, rfl⟩
  · exact cutS_nar h hC hE
  · unfold cutS
    rw [Int.zero_mul, show inB 0 = narB 0 from by decide, (inB_mul hC hE).1]
    cases h2 : narB (C.natAbs * E.natAbs)
    · simp
    · rw [narV_true h2, ← (inB_mul hC hE).2, show narB 0 = true from by decide, Int.zero_mul]

theorem sgn_two (a b : Int) : (sgn a * sgn b = 1 ∨ sgn a * sgn b = -1) ∨ (sgn a * sgn b = 0 ∧ (a = 0 ∨ b = 0)) := by
  rcases sgn_cases a with h1 | h1 | h1 <;> rcases sgn_cases b with h2 | h2 | h2 <;> rw [h1, h2]
  · exact .inl (.inl rfl)
  · exact .inr ⟨rfl, .inr (sgn_eq.1 h2)⟩
  · exact .inl (.inr rfl)
  · exact .inr ⟨rfl, .inl (sgn_eq.1 h1)⟩
  · exact .inr ⟨rfl, .inl (sgn_eq.1 h1)⟩
  · exact .inr ⟨rfl, .inl (sgn_eq.1 h1)⟩
  · exact .inl (.inr rfl)
  · exact .inr ⟨rfl, .inr (sgn_eq.1 h2)⟩
  · exact .inl (.inl rfl)

theorem sgn_quo {n g : Int} (hg : 1 ≤ g) (h : g ∣ n) : n / g = sgn n * ((n.natAbs / g.natAbs : Nat) : Int) ∧ ((n.natAbs : Int)).tdiv g = ((n.natAbs / g.natAbs : Nat) : Int) := by
  obtain ⟨c, hc⟩ := h
  have e1 : n.natAbs / g.natAbs = c.natAbs := by rw [hc, Int.natAbs_mul, Nat.mul_div_cancel_left _ (by omega)]
  have e2 : sgn n = sgn c := sgn_scale (p := 1) (q := g) (by omega) (by omega) (by rw [hc]; grind)
  refine ⟨?_, ?_⟩
  · rw [e1, e2, sgn_abs, hc, Int.mul_ediv_cancel_left _ (by omega)]
  · rw [Int.tdiv_eq_ediv_of_nonneg (by omega), e1, hc, Int.natAbs_mul, Int.natCast_mul, show ((g.natAbs : Nat) : Int) = g from by omega, Int.mul_ediv_cancel_left _ (by omega)]

theorem wrap_sgn2 (a b : Int) : IntKind.i64.wrap (sgn a * sgn b) = sgn a * sgn b := by
  rcases sgn_cases a with h1 | h1 | h1 <;> rcases sgn_cases b with h2 | h2 | h2 <;> rw [h1, h2] <;> decide

theorem wrap_sgn3 (a b : Int) {n : Nat} (hn : n ≤ 1000000000000000) : IntKind.i64.wrap (sgn a * sgn b * (n : Int)) = sgn a * sgn b * n := by
  rcases sgn_two a b with h | ⟨h, -⟩
  · exact wrap_sgn h hn
  · rw [h, Int.zero_mul]; decide

set_option maxRecDepth 100000 in
set_option maxHeartbeats 3200000 in
theorem r3_Mul_yes (an ad bn bd : Int) (w : World) (ha : validB an ad = true) (hb : validB bn bd = true) :
    Calls Tryd.prog 19 #[.agg #[.int .i64 an, .int .i64 ad], .agg #[.int .i64 bn, .int .i64 bd]] w (FracIs (mulS an ad bn bd) w) := by
  obtain ⟨a1, a2, ⟨a3, a4⟩, -⟩ := validB_iff.1 ha
  obtain ⟨b1, b2, ⟨b3, b4⟩, -⟩ := validB_iff.1 hb
  have hO : mulS an ad bn bd = _ := mulS_formula ha hb
  obtain ⟨g1, g2⟩ := cgcd_bounds (n := an) (show bd ≠ 0 by omega) ⟨by omega, by omega⟩
  obtain ⟨k1, k2⟩ := cgcd_bounds (n := bn) (show ad ≠ 0 by omega) ⟨by omega, by omega⟩
  obtain ⟨s1, s2⟩ := sgn_quo g1 (cgcd_left an bd)
  obtain ⟨s3, s4⟩ := sgn_quo k1 (cgcd_left bn ad)
  obtain ⟨p1, -, -, p4, p5⟩ := quo_facts g1 (cgcd_right an bd) ⟨by omega, by omega⟩
  obtain ⟨r1, -, -, r4, r5⟩ := quo_facts k1 (cgcd_right bn ad) ⟨by omega, by omega⟩
  have p0 : 0 ≤ bd / cgcd an bd := Int.ediv_nonneg (by omega) (by omega)
  have r0 : 0 ≤ ad / cgcd bn ad := Int.ediv_nonneg (by omega) (by omega)
  have u1 : an.natAbs / (cgcd an bd).natAbs ≤ 1000000000000000 := Nat.le_trans (Nat.div_le_self _ _) (by omega)
  have v1 : bn.natAbs / (cgcd bn ad).natAbs ≤ 1000000000000000 := Nat.le_trans (Nat.div_le_self _ _) (by omega)
  have HZ1 : Hid (an = 0 → an.natAbs / (cgcd an bd).natAbs = 0) := Lib.hid (fun h => by rw [h]; simp)
  have HZ2 : Hid (bn = 0 → bn.natAbs / (cgcd bn ad).natAbs = 0) := Lib.hid (fun h => by rw [h]; simp)
  rw [s1, s3] at hO
  have HG := Lib.hid (cgcd_abs an bd)
  have HK := Lib.hid (cgcd_abs bn ad)
  clear s1 s3
  generalize hgg : cgcd an bd = g at *
  generalize hkk : cgcd bn ad = k at *
  clear hgg hkk
  generalize an.natAbs / g.natAbs = A at *
  generalize bd / g = D at *
  generalize bn.natAbs / k.natAbs = B at *
  generalize ad / k = C at *
  have HO2 : Hid (mulS an ad bn bd = if narB (A * B) && narB (C.natAbs * D.natAbs) then (sgn an * sgn bn * (narV (A * B) : Int), ((narV (C.natAbs * D.natAbs) : Nat) : Int), true) else (0, 0, false)) := by
    show _ = _
    rw [hO, show sgn an * (A : Int) * (sgn bn * (B : Int)) = sgn an * sgn bn * ((A * B : Nat) : Int) from by rw [Int.natCast_mul]; grind]
    refine cutS_nar2 ?_ r0 p0
    rcases sgn_two an bn with h | ⟨h, h2⟩
    · exact .inl h
    · refine .inr ⟨h, ?_⟩
      rcases h2 with h2 | h2
      · rw [HZ1.out h2, Nat.zero_mul]
      · rw [HZ2.out h2, Nat.mul_zero]
  clear hO
  have hg0 : (g == 0) = false := beq_eq_false_iff_ne.2 (by omega)
  have hk0 : (k == 0) = false := beq_eq_false_iff_ne.2 (by omega)
  have hg00 : ¬ g = 0 := by omega
  have hk00 : ¬ k = 0 := by omega
  have J1 : IntKind.i64.wrap D = D := IntWalk.i64_in _ ⟨by omega, by omega⟩
  have J2 : IntKind.i64.wrap C = C := IntWalk.i64_in _ ⟨by omega, by omega⟩
  have J3 : IntKind.i64.wrap (A : Int) = A := IntWalk.i64_in _ ⟨by omega, by omega⟩
  have J4 : IntKind.i64.wrap (B : Int) = B := IntWalk.i64_in _ ⟨by omega, by omega⟩
  have J5 := wrap_sgn2 an bn
  have J6 := wrap_sgn3 an bn (narV_le (A * B))
  obtain ⟨nv, hnv⟩ : ∃ nv, Hid (narV (A * B) = nv) := ⟨_, rfl⟩
  obtain ⟨nb, hnb⟩ : ∃ nb, Hid (narB (A * B) = nb) := ⟨_, rfl⟩
  obtain ⟨mv, hmv⟩ : ∃ mv, Hid (narV (C.natAbs * D.natAbs) = mv) := ⟨_, rfl⟩
  obtain ⟨mb, hmb⟩ : ∃ mb, Hid (narB (C.natAbs * D.natAbs) = mb) := ⟨_, rfl⟩
  rw [hnv.out] at J6
  rw [hnv.out, hnb.out, hmv.out, hmb.out] at HO2
  have st0 := Lib.hid (RAddSt.start (w := w) (an := an) (ad := ad) (bn := bn) (bd := bd))
  go_enter Tryd.func19, Tryd.ntmps19
  go_wp2_with fail
  refine (r3_Valid _ _ _).mono ?_
  rintro e w1 ⟨rfl, hb1⟩
  have st1 := Lib.hid (st0.out.step hb1)
  clear hb1
  obtain ⟨z1, z2, z3, z4, -⟩ := st1.out.conj
  go_wp2_with fail
  refine (r3_Valid _ _ _).mono ?_
  rintro e w2 ⟨rfl, hb2⟩
  have st2 := st1.out.step hb2
  clear hb2 z1 z2 z3 z4
  go_wp2_with fail
  go_region_held3 (fun V => V.cell? ⟨w.heap.size, 0, none⟩ = some (.int .i64 an) ∧ V.cell? ⟨w.heap.size, 1, none⟩ = some (.int .i64 ad) ∧ V.cell? ⟨w.heap.size + 1, 0, none⟩ = some (.int .i64 bn) ∧ V.cell? ⟨w.heap.size + 1, 1, none⟩ = some (.int .i64 bd) ∧ RAddSt w an ad bn bd V) (first | exact (RAddSt.drew st2).conj | exact RAddSt.conj (by assumption)) (first | (go_at_call 36; refine (r3_size _ _ (by omega) (by omega)).mono ?_; rintro e w' ⟨rfl, rfl⟩; have hst := ‹_ ∧ _ ∧ _ ∧ _ ∧ RAddSt _ _ _ _ _ _›.2.2.2.2) | (go_at_call 35; refine (r3_gcd_below _ _ _ ⟨by omega, by omega⟩ ⟨by omega, by omega⟩).mono ?_; rw [HG.out]; rintro e w' ⟨rfl, hbb⟩; have hst := RAddSt.step (‹_ ∧ _ ∧ _ ∧ _ ∧ RAddSt _ _ _ _ _ _›.2.2.2.2) hbb))
  have st3 := ‹_ ∧ _ ∧ _ ∧ _ ∧ RAddSt _ _ _ _ _ _›.2.2.2.2
  clear st2
  go_wp2_with fail
  go_region_held3 (fun V => V.cell? ⟨w.heap.size, 0, none⟩ = some (.int .i64 an) ∧ V.cell? ⟨w.heap.size, 1, none⟩ = some (.int .i64 ad) ∧ V.cell? ⟨w.heap.size + 1, 0, none⟩ = some (.int .i64 bn) ∧ V.cell? ⟨w.heap.size + 1, 1, none⟩ = some (.int .i64 bd) ∧ RAddSt w an ad bn bd V) (first | exact (RAddSt.drew st3).conj | exact RAddSt.conj (by assumption)) (first | (go_at_call 36; refine (r3_size _ _ (by omega) (by omega)).mono ?_; rintro e w' ⟨rfl, rfl⟩; have hst := ‹_ ∧ _ ∧ _ ∧ _ ∧ RAddSt _ _ _ _ _ _›.2.2.2.2) | (go_at_call 35; refine (r3_gcd_below _ _ _ ⟨by omega, by omega⟩ ⟨by omega, by omega⟩).mono ?_; rw [HK.out]; rintro e w' ⟨rfl, hbb⟩; have hst := RAddSt.step (‹_ ∧ _ ∧ _ ∧ _ ∧ RAddSt _ _ _ _ _ _›.2.2.2.2) hbb))
  have st4 := ‹_ ∧ _ ∧ _ ∧ _ ∧ RAddSt _ _ _ _ _ _›.2.2.2.2
  clear st3
  go_wp2_with fail
  go_region_held3 (fun V => V.cell? ⟨w.heap.size, 0, none⟩ = some (.int .i64 an) ∧ V.cell? ⟨w.heap.size, 1, none⟩ = some (.int .i64 ad) ∧ V.cell? ⟨w.heap.size + 1, 0, none⟩ = some (.int .i64 bn) ∧ V.cell? ⟨w.heap.size + 1, 1, none⟩ = some (.int .i64 bd) ∧ RAddSt w an ad bn bd V) (first | exact (RAddSt.drew st4).conj | exact RAddSt.conj (by assumption)) (first | (go_at_call 36; refine (r3_size _ _ (by omega) (by omega)).mono ?_; rintro e w' ⟨rfl, rfl⟩; have hst := ‹_ ∧ _ ∧ _ ∧ _ ∧ RAddSt _ _ _ _ _ _›.2.2.2.2) | (go_at_call 45; refine (r3_times_i _ _ _ ⟨by omega, by omega⟩ ⟨by omega, by omega⟩).mono ?_; rintro e w' ⟨gg, ff, rfl, hlt, hrow, hsm, hval, hbb⟩; have hst := RAddSt.step (‹_ ∧ _ ∧ _ ∧ _ ∧ RAddSt _ _ _ _ _ _›.2.2.2.2) hbb; have HVAL := Lib.hid hval; clear hval) | (go_at_call 47; refine (r3_narrow _ _ _ hrow hsm).mono ?_; rw [HVAL.out]; rintro e w' ⟨rfl, hbb⟩; have hst := RAddSt.step (‹_ ∧ _ ∧ _ ∧ _ ∧ RAddSt _ _ _ _ _ _›.2.2.2.2) hbb))
  have st5 := ‹_ ∧ _ ∧ _ ∧ _ ∧ RAddSt _ _ _ _ _ _›.2.2.2.2
  clear st4
  rw [hnv.out, hnb.out]
  go_wp2_with fail
  go_region_held3 (fun V => V.cell? ⟨w.heap.size, 0, none⟩ = some (.int .i64 an) ∧ V.cell? ⟨w.heap.size, 1, none⟩ = some (.int .i64 ad) ∧ V.cell? ⟨w.heap.size + 1, 0, none⟩ = some (.int .i64 bn) ∧ V.cell? ⟨w.heap.size + 1, 1, none⟩ = some (.int .i64 bd) ∧ RAddSt w an ad bn bd V) (first | exact (RAddSt.drew st5).conj | exact RAddSt.conj (by assumption)) (first | (go_at_call 45; refine (r3_times_i _ _ _ ⟨by omega, by omega⟩ ⟨by omega, by omega⟩).mono ?_; rintro e w' ⟨gg2, ff2, rfl, hlt, hrow2, hsm2, hval, hbb⟩; have hst := RAddSt.step (‹_ ∧ _ ∧ _ ∧ _ ∧ RAddSt _ _ _ _ _ _›.2.2.2.2) hbb; have HVAL2 := Lib.hid hval; clear hval) | (go_at_call 47; refine (r3_narrow _ _ _ hrow2 hsm2).mono ?_; rw [HVAL2.out]; rintro e w' ⟨rfl, hbb⟩; have hst := RAddSt.step (‹_ ∧ _ ∧ _ ∧ _ ∧ RAddSt _ _ _ _ _ _›.2.2.2.2) hbb))
  have ST6 : Hid (RAddSt w an ad bn bd w') := Lib.hid (‹_ ∧ _ ∧ _ ∧ _ ∧ RAddSt _ _ _ _ _ _›.2.2.2.2)
  clear st5
  obtain ⟨-, -, z2, z3, z4, z5, ⟨z6, z7⟩, z8, z9⟩ := ST6.out
  rw [hmv.out, hmb.out]
  cases nb <;> cases mb
  · go_wp2_with fail
    refine bodyPost_ret (v := .tuple #[.agg #[.int .i64 0, .int .i64 0], .bool false]) (by simp [results, Tryd.results19, go_sem, z6, z8]) rfl ?_
    rw [HO2.out]
    have hbb := ST6.out.1
    exact ⟨rfl, (by repeat (first | with_reducible exact Below.refl _ _ | with_reducible assumption | with_reducible refine below_drewN' ?_ _ | (with_reducible refine Below.setCell ?_ (by first | (simp; done) | (simp; omega)) _) | (with_reducible refine Below.alloc ?_ (by first | exact Nat.le_refl _ | (simp; done) | (simp; omega)) _)))⟩
  · go_wp2_with fail
    refine bodyPost_ret (v := .tuple #[.agg #[.int .i64 0, .int .i64 0], .bool false]) (by simp [results, Tryd.results19, go_sem, z6, z8]) rfl ?_
    rw [HO2.out]
    have hbb := ST6.out.1
    exact ⟨rfl, (by repeat (first | with_reducible exact Below.refl _ _ | with_reducible assumption | with_reducible refine below_drewN' ?_ _ | (with_reducible refine Below.setCell ?_ (by first | (simp; done) | (simp; omega)) _) | (with_reducible refine Below.alloc ?_ (by first | exact Nat.le_refl _ | (simp; done) | (simp; omega)) _)))⟩
  · go_wp2_with fail
    refine bodyPost_ret (v := .tuple #[.agg #[.int .i64 0, .int .i64 0], .bool false]) (by simp [results, Tryd.results19, go_sem, z6, z8]) rfl ?_
    rw [HO2.out]
    have hbb := ST6.out.1
    exact ⟨rfl, (by repeat (first | with_reducible exact Below.refl _ _ | with_reducible assumption | with_reducible refine below_drewN' ?_ _ | (with_reducible refine Below.setCell ?_ (by first | (simp; done) | (simp; omega)) _) | (with_reducible refine Below.alloc ?_ (by first | exact Nat.le_refl _ | (simp; done) | (simp; omega)) _)))⟩
  · go_wp2_with fail
    go_region_held3 (fun V => V.cell? ⟨w.heap.size, 0, none⟩ = some (.int .i64 an) ∧ V.cell? ⟨w.heap.size + 1, 0, none⟩ = some (.int .i64 bn)) (go_simp) ((go_at_call 44; refine (r3_sign _ _).mono ?_; rintro e w' ⟨rfl, rfl⟩))
    all_goals go_wp2_with fail
    all_goals refine bodyPost_ret (v := .tuple #[.agg #[.int .i64 (sgn an * sgn bn * (nv : Int)), .int .i64 (mv : Int)], .bool true]) (by simp [results, Tryd.results19, go_sem, z6, z8]) rfl ?_
    all_goals rw [HO2.out]
    all_goals have hbb := ST6.out.1
    all_goals exact ⟨rfl, below_drew' (by repeat (first | with_reducible exact Below.refl _ _ | with_reducible assumption | with_reducible refine below_drewN' ?_ _ | (with_reducible refine Below.setCell ?_ (by first | (simp; done) | (simp; omega)) _) | (with_reducible refine Below.alloc ?_ (by first | exact Nat.le_refl _ | (simp; done) | (simp; omega)) _)))⟩

set_option maxHeartbeats 1600000 in
theorem r3_Mul_no (an ad bn bd : Int) (w : World) (h : validB an ad = false ∨ validB an ad = true ∧ validB bn bd = false) :
    Calls Tryd.prog 19 #[.agg #[.int .i64 an, .int .i64 ad], .agg #[.int .i64 bn, .int .i64 bd]] w (FracIs (mulS an ad bn bd) w) := by
  have HO : Hid (mulS an ad bn bd = (0, 0, false)) := by
    unfold mulS
    rcases h with h | ⟨h, h'⟩
    · rw [h]; rfl
    · rw [h, h']; rfl
  rcases h with ha | ⟨ha, hb⟩
  all_goals
    go_enter Tryd.func19, Tryd.ntmps19
    go_wp2_with (go_at_call 12; refine (r3_Valid _ _ _).mono ?_; rintro e w' ⟨rfl, hbb⟩; obtain ⟨hc, hf⟩ := bcell hbb; have c0 : w'.cell? ⟨w.heap.size, 0, none⟩ = some (.int .i64 an) := (hc _ _ (by first | omega | (simp; done) | (simp; omega))).trans (by go_simp); have f0 : w'.frozen? ⟨w.heap.size, 0, none⟩ = false := (hf _ _ (by first | omega | (simp; done) | (simp; omega))).trans (by go_simp); have c1 : w'.cell? ⟨w.heap.size, 1, none⟩ = some (.int .i64 ad) := (hc _ _ (by first | omega | (simp; done) | (simp; omega))).trans (by go_simp); have f1 : w'.frozen? ⟨w.heap.size, 1, none⟩ = false := (hf _ _ (by first | omega | (simp; done) | (simp; omega))).trans (by go_simp); have c2 : w'.cell? ⟨w.heap.size + 1, 0, none⟩ = some (.int .i64 bn) := (hc _ _ (by first | omega | (simp; done) | (simp; omega))).trans (by go_simp); have f2 : w'.frozen? ⟨w.heap.size + 1, 0, none⟩ = false := (hf _ _ (by first | omega | (simp; done) | (simp; omega))).trans (by go_simp); have c3 : w'.cell? ⟨w.heap.size + 1, 1, none⟩ = some (.int .i64 bd) := (hc _ _ (by first | omega | (simp; done) | (simp; omega))).trans (by go_simp); have f3 : w'.frozen? ⟨w.heap.size + 1, 1, none⟩ = false := (hf _ _ (by first | omega | (simp; done) | (simp; omega))).trans (by go_simp); have c4 : w'.cell? ⟨w.heap.size + 1 + 1, 0, none⟩ = some (.int .i64 0) := (hc _ _ (by first | omega | (simp; done) | (simp; omega))).trans (by go_simp); have f4 : w'.frozen? ⟨w.heap.size + 1 + 1, 0, none⟩ = false := (hf _ _ (by first | omega | (simp; done) | (simp; omega))).trans (by go_simp); have c5 : w'.cell? ⟨w.heap.size + 1 + 1, 1, none⟩ = some (.int .i64 0) := (hc _ _ (by first | omega | (simp; done) | (simp; omega))).trans (by go_simp); have f5 : w'.frozen? ⟨w.heap.size + 1 + 1, 1, none⟩ = false := (hf _ _ (by first | omega | (simp; done) | (simp; omega))).trans (by go_simp); have hz : w.heap.size + 1 + 1 < w'.heap.size := (by have hs := hbb.size; first | omega | (simp at hs; done) | (simp at hs; omega)); have hbA : Below w.heap.size w w' := Below.trans (b := _) (by repeat (first | with_reducible exact Below.refl _ _ | with_reducible assumption | with_reducible refine below_drewN' ?_ _ | (with_reducible refine Below.setCell ?_ (by first | (simp; done) | (simp; omega)) _) | (with_reducible refine Below.alloc ?_ (by first | exact Nat.le_refl _ | (simp; done) | (simp; omega)) _))) (hbb.mono (by first | omega | (simp; done) | (simp; omega))); clear hc hf hbb)
    refine bodyPost_ret (v := .tuple #[.agg #[.int .i64 0, .int .i64 0], .bool false]) (by simp [results, Tryd.results19, go_sem, c4, c5]) rfl ?_
    rw [HO.out]
    exact ⟨rfl, (by repeat (first | with_reducible exact Below.refl _ _ | with_reducible assumption | with_reducible refine below_drewN' ?_ _ | (with_reducible refine Below.setCell ?_ (by first | (simp; done) | (simp; omega)) _) | (with_reducible refine Below.alloc ?_ (by first | exact Nat.le_refl _ | (simp; done) | (simp; omega)) _)))⟩

theorem r3_Mul (an ad bn bd : Int) (w : World) :
    Calls Tryd.prog 19 #[.agg #[.int .i64 an, .int .i64 ad], .agg #[.int .i64 bn, .int .i64 bd]] w (FracIs (mulS an ad bn bd) w) := by
  cases ha : validB an ad
  · exact r3_Mul_no _ _ _ _ w (.inl ha)
  · cases hb : validB bn bd
    · exact r3_Mul_no _ _ _ _ w (.inr ⟨ha, hb⟩)
    · exact r3_Mul_yes _ _ _ _ w ha hb

end Go.Proofs.YtemmgehaddghfaaDoor
