/- PARTS OF THE WALKS, joined: Re, Push, Rf. -/
import Derived.Test.YtbjddimafilflaaGreatDoorP13
import Derived.Maps.AppendAt
import Derived.Test.YtbjddimafilflaaGreatDoorP04
/- THE WALKS over the reference's fields, Order, OrderRows. -/
namespace Go.Proofs.YtbjddimafilflaaGreatDoor
open Go.RowKit
set_option maxRecDepth 100000 in
set_option maxHeartbeats 6400000 in
theorem r4_fields (a b : Val) (ok ok' : Nat → Prop) (A B : Option Addr) (c d : Nat) (w : World) (ha : Vals w ok A a.l) (hb : Vals w ok' B b.l) (hsa : szV a) (hsb : szV b) (ih : ∀ x ∈ a.l, ∀ y ∈ b.l, ∀ (Ax By : Option Addr) (cx dy : Nat) (W : World), Vals W ok Ax x.l → Vals W ok' By y.l → szV x → szV y → Calls Tryz.prog 68 #[.agg #[.int .i64 x.kind, .int .i64 x.n, .int .i64 x.d, .string x.s, .slice Ax x.l.length cx], .agg #[.int .i64 y.kind, .int .i64 y.n, .int .i64 y.d, .string y.s, .slice By y.l.length dy]] W fun e W' => e = .returned (.int .i64 (ordV x y)) ∧ Ext W W') :
    Calls Tryz.prog 84 #[.agg #[.int .i64 a.kind, .int .i64 a.n, .int .i64 a.d, .string a.s, .slice A a.l.length c], .agg #[.int .i64 b.kind, .int .i64 b.n, .int .i64 b.d, .string b.s, .slice B b.l.length d]] w fun e w' => e = .returned (.int .i64 (ordI a b)) ∧ Ext w w' := by
  have HL := Lib.hid (fun W (e : Ext w W) => r4_lists a.l b.l ok ok' A B c d W (ha.ext e) (hb.ext e) (szV_iff.1 hsa).2 (szV_iff.1 hsb).2 ih)
  have hma := ha.len
  have hmb := hb.len
  clear ha hb ih hsa hsb
  obtain ⟨g1, g2, w2, hg1, hg2, hw2, h1, h2, hx, -, -, hl1, hl2⟩ := two_vals w a b A B c d 40
  have HG1 := Lib.hid hg1
  have HG2 := Lib.hid hg2
  have HW2 := Lib.hid hw2
  have MK := Lib.hid (fun V (e : Ext w2 V) => (⟨(h1.ext e).1, (h1.ext e).2.1, (h1.ext e).2.2.1, (h1.ext e).2.2.2.1, (h1.ext e).2.2.2.2, (h2.ext e).1, (h2.ext e).2.1, (h2.ext e).2.2.1, (h2.ext e).2.2.2.1, (h2.ext e).2.2.2.2, e⟩ : V.cell? ⟨g1, 0, none⟩ = some (.int .i64 a.kind) ∧ V.cell? ⟨g1, 1, none⟩ = some (.int .i64 a.n) ∧ V.cell? ⟨g1, 2, none⟩ = some (.int .i64 a.d) ∧ V.cell? ⟨g1, 3, none⟩ = some (.string a.s) ∧ V.cell? ⟨g1, 4, none⟩ = some (.slice A a.l.length c) ∧ V.cell? ⟨g2, 0, none⟩ = some (.int .i64 b.kind) ∧ V.cell? ⟨g2, 1, none⟩ = some (.int .i64 b.n) ∧ V.cell? ⟨g2, 2, none⟩ = some (.int .i64 b.d) ∧ V.cell? ⟨g2, 3, none⟩ = some (.string b.s) ∧ V.cell? ⟨g2, 4, none⟩ = some (.slice B b.l.length d) ∧ Ext w2 V))
  clear hg1 hg2 hw2 h1 h2
  replace HL := Lib.hid (fun W (e : Ext w2 W) => HL.out W (hx.trans e))
  have HO := Lib.hid (show ordI a b = thenC (Lib.compareInt a.kind b.kind) (thenC (Lib.compareInt a.n b.n) (thenC (Lib.compareInt a.d b.d) (thenC (cmpT a.s b.s) (ordL a.l b.l)))) from rfl)
  generalize ordI a b = o at HO ⊢
  obtain ⟨a0, a1, a2, a3, a4, b0, b1, b2, b3, b4, -⟩ := MK.out w2 (Ext.refl _)
  generalize hz1 : Lib.compareInt a.kind b.kind = z1 at HO
  generalize hz2 : Lib.compareInt a.n b.n = z2 at HO
  generalize hz3 : Lib.compareInt a.d b.d = z3 at HO
  generalize hz4 : cmpT a.s b.s = z4 at HO
  generalize hz5 : ordL a.l b.l = z5 at HO HL
  have C1 := Lib.hid (fun W => (r4_ints a.kind b.kind W).mono (fun e w' h => (⟨h.1.trans (by rw [hz1]), h.2⟩ : e = .returned (.int .i64 z1) ∧ w' = W)))
  have C2 := Lib.hid (fun W => (r4_ints a.n b.n W).mono (fun e w' h => (⟨h.1.trans (by rw [hz2]), h.2⟩ : e = .returned (.int .i64 z2) ∧ w' = W)))
  have C3 := Lib.hid (fun W => (r4_ints a.d b.d W).mono (fun e w' h => (⟨h.1.trans (by rw [hz3]), h.2⟩ : e = .returned (.int .i64 z3) ∧ w' = W)))
  have C4 := Lib.hid (fun W => (r4_strs a.s b.s W).mono (fun e w' h => (⟨h.1.trans (by rw [hz4]), h.2⟩ : e = .returned (.int .i64 z4) ∧ w' = W)))
  clear hz1 hz2 hz3 hz4 hz5
  go_enter Tryz.func84, Tryz.ntmps84
  go_upto_region 1 with (fail)
  rw [← HW2.out, ← HG2.out, ← HG1.out]
  clear HW2 HG2 HG1
  go_wp2_with fail
  refine (C1.out _).mono ?_
  rintro e w' ⟨rfl, rfl⟩
  by_cases k1 : z1 = 0
  · subst k1
    go_wp2_with fail
    refine (C2.out _).mono ?_
    rintro e w' ⟨rfl, rfl⟩
    by_cases k2 : z2 = 0
    · subst k2
      go_wp2_with fail
      refine (C3.out _).mono ?_
      rintro e w' ⟨rfl, rfl⟩
      by_cases k3 : z3 = 0
      · subst k3
        go_wp2_with fail
        refine (C4.out _).mono ?_
        rintro e w' ⟨rfl, rfl⟩
        by_cases k4 : z4 = 0
        · subst k4
          go_wp2_with fail
          refine (HL.out _ (Ext.refl _)).mono ?_
          rintro e w' ⟨rfl, hb⟩
          go_wp2_with fail
          go_ret
          exact ⟨ret_i64 HO.out.symm, hx.trans hb⟩
        · have k4' : (z4 != 0) = true := by simpa using k4
          have HT := Lib.hid (HO.out.trans (show _ = z4 by rw [thenC_zero, thenC_zero, thenC_zero, thenC_ne k4]))
          clear k4
          go_wp2_with fail
          go_ret
          exact ⟨ret_i64 HT.out.symm, hx⟩
      · have k4' : (z3 != 0) = true := by simpa using k3
        have HT := Lib.hid (HO.out.trans (show _ = z3 by rw [thenC_zero, thenC_zero, thenC_ne k3]))
        clear k3
        go_wp2_with fail
        go_ret
        exact ⟨ret_i64 HT.out.symm, hx⟩
    · have k4' : (z2 != 0) = true := by simpa using k2
      have HT := Lib.hid (HO.out.trans (show _ = z2 by rw [thenC_zero, thenC_ne k2]))
      clear k2
      go_wp2_with fail
      go_ret
      exact ⟨ret_i64 HT.out.symm, hx⟩
  · have k4' : (z1 != 0) = true := by simpa using k1
    have HT := Lib.hid (HO.out.trans (show _ = z1 by rw [thenC_ne k1]))
    clear k1
    go_wp2_with fail
    go_ret
    exact ⟨ret_i64 HT.out.symm, hx⟩
theorem ordI_U {a b : Val} (ha : validV a = true) (hb : validV b = true) (hc : cls a.kind = cls b.kind) (h2 : cls a.kind ≠ 2) : ordU a b = ordI a b := by
  have fa := validV_facts ha
  have fb := validV_facts hb
  have hk := cls_inj fa.rng fb.rng hc h2
  have k2 : a.kind ≠ 2 := fun h => h2 (cls_two.2 (.inl h))
  have k3 : a.kind ≠ 3 := fun h => h2 (cls_two.2 (.inr h))
  obtain ⟨d1, n1, s1⟩ := fa.oth k2 k3
  obtain ⟨d2, n2, s2⟩ := fb.oth (hk ▸ k2) (hk ▸ k3)
  unfold ordU ordI
  rw [if_neg h2, hc, hk, d1, d2, TotC.int.refl, TotC.int.refl, TotC.int.refl, thenC_zero, thenC_zero, thenC_zero]
  by_cases h4 : a.kind = 4
  · rw [n1 h4, n2 (hk ▸ h4), TotC.int.refl, thenC_zero, thenC_zero]
  · rw [size_nil (s1 h4), size_nil (s2 (hk ▸ h4)), TotC.str.refl, thenC_zero, thenC_zero]
set_option maxRecDepth 100000 in
set_option maxHeartbeats 6400000 in
theorem r4_OrderStep (a b : Val) (ok ok' : Nat → Prop) (A B : Option Addr) (c d : Nat) (w : World) (ha : Vals w ok A a.l) (hb : Vals w ok' B b.l) (hsa : szV a) (hsb : szV b) (ih : ∀ x ∈ a.l, ∀ y ∈ b.l, ∀ (Ax By : Option Addr) (cx dy : Nat) (W : World), Vals W ok Ax x.l → Vals W ok' By y.l → szV x → szV y → Calls Tryz.prog 68 #[.agg #[.int .i64 x.kind, .int .i64 x.n, .int .i64 x.d, .string x.s, .slice Ax x.l.length cx], .agg #[.int .i64 y.kind, .int .i64 y.n, .int .i64 y.d, .string y.s, .slice By y.l.length dy]] W fun e W' => e = .returned (.int .i64 (ordV x y)) ∧ Ext W W') :
    Calls Tryz.prog 68 #[.agg #[.int .i64 a.kind, .int .i64 a.n, .int .i64 a.d, .string a.s, .slice A a.l.length c], .agg #[.int .i64 b.kind, .int .i64 b.n, .int .i64 b.d, .string b.s, .slice B b.l.length d]] w fun e w' => e = .returned (.int .i64 (ordV a b)) ∧ Ext w w' := by
  have HO := Lib.hid (ordV_eq a b)
  have HFD := Lib.hid (fun W (e : Ext w W) => r4_fields a b ok ok' A B c d W (ha.ext e) (hb.ext e) hsa hsb ih)
  have HVa := Lib.hid (fun W (e : Ext w W) => r4_Valid a ok A c W (ha.ext e) hsa)
  have HVb := Lib.hid (fun W (e : Ext w W) => r4_Valid b ok' B d W (hb.ext e) hsb)
  have HNa := Lib.hid (fun h W (e : Ext w W) => r4_Number a ok A c W (ha.ext e) hsa h)
  have HNb := Lib.hid (fun h W (e : Ext w W) => r4_Number b ok' B d W (hb.ext e) hsb h)
  have FAB := Lib.hid (fun ha hb => (⟨validV_facts (v := a) ha, validV_facts (v := b) hb⟩ : VFacts a ∧ VFacts b))
  have HIU := Lib.hid (fun h1 h2 h3 h4 => ordI_U (a := a) (b := b) h1 h2 h3 h4)
  have hma := ha.len
  have hmb := hb.len
  clear ha hb ih hsa hsb
  obtain ⟨g1, g2, w2, hg1, hg2, hw2, h1, h2, hx, -, -, hl1, hl2⟩ := two_vals w a b A B c d 40
  have HG1 := Lib.hid hg1
  have HG2 := Lib.hid hg2
  have HW2 := Lib.hid hw2
  have MK := Lib.hid (fun V (e : Ext w2 V) => (⟨(h1.ext e).1, (h1.ext e).2.1, (h1.ext e).2.2.1, (h1.ext e).2.2.2.1, (h1.ext e).2.2.2.2, (h2.ext e).1, (h2.ext e).2.1, (h2.ext e).2.2.1, (h2.ext e).2.2.2.1, (h2.ext e).2.2.2.2, e⟩ : V.cell? ⟨g1, 0, none⟩ = some (.int .i64 a.kind) ∧ V.cell? ⟨g1, 1, none⟩ = some (.int .i64 a.n) ∧ V.cell? ⟨g1, 2, none⟩ = some (.int .i64 a.d) ∧ V.cell? ⟨g1, 3, none⟩ = some (.string a.s) ∧ V.cell? ⟨g1, 4, none⟩ = some (.slice A a.l.length c) ∧ V.cell? ⟨g2, 0, none⟩ = some (.int .i64 b.kind) ∧ V.cell? ⟨g2, 1, none⟩ = some (.int .i64 b.n) ∧ V.cell? ⟨g2, 2, none⟩ = some (.int .i64 b.d) ∧ V.cell? ⟨g2, 3, none⟩ = some (.string b.s) ∧ V.cell? ⟨g2, 4, none⟩ = some (.slice B b.l.length d) ∧ Ext w2 V))
  clear hg1 hg2 hw2 h1 h2
  replace HFD := Lib.hid (fun W (e : Ext w2 W) => HFD.out W (hx.trans e))
  replace HVa := Lib.hid (fun W (e : Ext w2 W) => HVa.out W (hx.trans e))
  replace HVb := Lib.hid (fun W (e : Ext w2 W) => HVb.out W (hx.trans e))
  replace HNa := Lib.hid (fun h W (e : Ext w2 W) => HNa.out h W (hx.trans e))
  replace HNb := Lib.hid (fun h W (e : Ext w2 W) => HNb.out h W (hx.trans e))
  generalize validV a = p at *
  generalize validV b = q at *
  cases p
  · cases q
    · have HO' := Lib.hid (show ordV a b = ordI a b by rw [HO.out, if_neg (by simp), if_neg (by simp)])
      rw [HO'.out]
      clear HO HO' HIU FAB HNa HNb
      go_enter Tryz.func68, Tryz.ntmps68
      go_upto_region 1 with (fail)
      rw [← HW2.out, ← HG2.out, ← HG1.out]
      clear HW2 HG2 HG1
      go_region_held3 (fun V => V.cell? ⟨g1, 0, none⟩ = some (.int .i64 a.kind) ∧ V.cell? ⟨g1, 1, none⟩ = some (.int .i64 a.n) ∧ V.cell? ⟨g1, 2, none⟩ = some (.int .i64 a.d) ∧ V.cell? ⟨g1, 3, none⟩ = some (.string a.s) ∧ V.cell? ⟨g1, 4, none⟩ = some (.slice A a.l.length c) ∧ V.cell? ⟨g2, 0, none⟩ = some (.int .i64 b.kind) ∧ V.cell? ⟨g2, 1, none⟩ = some (.int .i64 b.n) ∧ V.cell? ⟨g2, 2, none⟩ = some (.int .i64 b.d) ∧ V.cell? ⟨g2, 3, none⟩ = some (.string b.s) ∧ V.cell? ⟨g2, 4, none⟩ = some (.slice B b.l.length d) ∧ Ext w2 V) ((exact MK.out _ (by repeat (first | with_reducible exact Ext.refl _ | with_reducible assumption | with_reducible refine Ext.drew ?_ | with_reducible refine Ext.drewN ?_ _ | with_reducible refine Ext.alloc ?_ _)))) ((go_at_call 82; (first | (with_reducible refine (HVa.out _ (by repeat (first | with_reducible exact Ext.refl _ | with_reducible assumption | with_reducible refine Ext.drew ?_ | with_reducible refine Ext.drewN ?_ _ | with_reducible refine Ext.alloc ?_ _))).mono ?_) | (with_reducible refine (HVb.out _ (by repeat (first | with_reducible exact Ext.refl _ | with_reducible assumption | with_reducible refine Ext.drew ?_ | with_reducible refine Ext.drewN ?_ _ | with_reducible refine Ext.alloc ?_ _))).mono ?_)); rintro e w' ⟨rfl, hb⟩; replace hb : Ext w2 w' := Ext.trans (by repeat (first | with_reducible exact Ext.refl _ | with_reducible assumption | with_reducible refine Ext.drew ?_ | with_reducible refine Ext.drewN ?_ _ | with_reducible refine Ext.alloc ?_ _)) hb))
      obtain ⟨a0, a1, a2, a3, a4, b0, b1, b2, b3, b4, hEw⟩ := ‹_ ∧ _›
      go_wp2_with fail
      refine (HFD.out _ (by repeat (first | with_reducible exact Ext.refl _ | with_reducible assumption | with_reducible refine Ext.drew ?_ | with_reducible refine Ext.drewN ?_ _ | with_reducible refine Ext.alloc ?_ _))).mono ?_
      rintro e w9 ⟨rfl, h9⟩
      have h9' : Ext w2 w9 := Ext.trans (by repeat (first | with_reducible exact Ext.refl _ | with_reducible assumption | with_reducible refine Ext.drew ?_ | with_reducible refine Ext.drewN ?_ _ | with_reducible refine Ext.alloc ?_ _)) h9
      clear a0 a1 a2 a3 a4 b0 b1 b2 b3 b4 hEw h9
      go_wp2_with fail
      go_ret
      exact ⟨rfl, hx.trans h9'⟩
    · have HO' := Lib.hid (show ordV a b = 1 by rw [HO.out, if_neg (by simp), if_pos rfl])
      rw [HO'.out]
      clear HO HO' HIU FAB HNa HNb HFD
      go_enter Tryz.func68, Tryz.ntmps68
      go_upto_region 1 with (fail)
      rw [← HW2.out, ← HG2.out, ← HG1.out]
      clear HW2 HG2 HG1
      go_region_held3 (fun V => V.cell? ⟨g1, 0, none⟩ = some (.int .i64 a.kind) ∧ V.cell? ⟨g1, 1, none⟩ = some (.int .i64 a.n) ∧ V.cell? ⟨g1, 2, none⟩ = some (.int .i64 a.d) ∧ V.cell? ⟨g1, 3, none⟩ = some (.string a.s) ∧ V.cell? ⟨g1, 4, none⟩ = some (.slice A a.l.length c) ∧ V.cell? ⟨g2, 0, none⟩ = some (.int .i64 b.kind) ∧ V.cell? ⟨g2, 1, none⟩ = some (.int .i64 b.n) ∧ V.cell? ⟨g2, 2, none⟩ = some (.int .i64 b.d) ∧ V.cell? ⟨g2, 3, none⟩ = some (.string b.s) ∧ V.cell? ⟨g2, 4, none⟩ = some (.slice B b.l.length d) ∧ Ext w2 V) ((exact MK.out _ (by repeat (first | with_reducible exact Ext.refl _ | with_reducible assumption | with_reducible refine Ext.drew ?_ | with_reducible refine Ext.drewN ?_ _ | with_reducible refine Ext.alloc ?_ _)))) ((go_at_call 82; (first | (with_reducible refine (HVa.out _ (by repeat (first | with_reducible exact Ext.refl _ | with_reducible assumption | with_reducible refine Ext.drew ?_ | with_reducible refine Ext.drewN ?_ _ | with_reducible refine Ext.alloc ?_ _))).mono ?_) | (with_reducible refine (HVb.out _ (by repeat (first | with_reducible exact Ext.refl _ | with_reducible assumption | with_reducible refine Ext.drew ?_ | with_reducible refine Ext.drewN ?_ _ | with_reducible refine Ext.alloc ?_ _))).mono ?_)); rintro e w' ⟨rfl, hb⟩; replace hb : Ext w2 w' := Ext.trans (by repeat (first | with_reducible exact Ext.refl _ | with_reducible assumption | with_reducible refine Ext.drew ?_ | with_reducible refine Ext.drewN ?_ _ | with_reducible refine Ext.alloc ?_ _)) hb))
      clear ‹_ ∧ _›
      go_wp2_with (go_at_call 83; refine (r4_yes _ _).mono ?_; rintro e w' ⟨rfl, rfl⟩)
      go_ret
      exact ⟨rfl, hx.trans (by repeat (first | with_reducible exact Ext.refl _ | with_reducible assumption | with_reducible refine Ext.drew ?_ | with_reducible refine Ext.drewN ?_ _ | with_reducible refine Ext.alloc ?_ _))⟩
  · cases q
    · have HO' := Lib.hid (show ordV a b = -1 by rw [HO.out, if_pos rfl, if_neg (by simp)])
      rw [HO'.out]
      clear HO HO' HIU FAB HNa HNb HFD
      go_enter Tryz.func68, Tryz.ntmps68
      go_upto_region 1 with (fail)
      rw [← HW2.out, ← HG2.out, ← HG1.out]
      clear HW2 HG2 HG1
      go_region_held3 (fun V => V.cell? ⟨g1, 0, none⟩ = some (.int .i64 a.kind) ∧ V.cell? ⟨g1, 1, none⟩ = some (.int .i64 a.n) ∧ V.cell? ⟨g1, 2, none⟩ = some (.int .i64 a.d) ∧ V.cell? ⟨g1, 3, none⟩ = some (.string a.s) ∧ V.cell? ⟨g1, 4, none⟩ = some (.slice A a.l.length c) ∧ V.cell? ⟨g2, 0, none⟩ = some (.int .i64 b.kind) ∧ V.cell? ⟨g2, 1, none⟩ = some (.int .i64 b.n) ∧ V.cell? ⟨g2, 2, none⟩ = some (.int .i64 b.d) ∧ V.cell? ⟨g2, 3, none⟩ = some (.string b.s) ∧ V.cell? ⟨g2, 4, none⟩ = some (.slice B b.l.length d) ∧ Ext w2 V) ((exact MK.out _ (by repeat (first | with_reducible exact Ext.refl _ | with_reducible assumption | with_reducible refine Ext.drew ?_ | with_reducible refine Ext.drewN ?_ _ | with_reducible refine Ext.alloc ?_ _)))) ((go_at_call 82; (first | (with_reducible refine (HVa.out _ (by repeat (first | with_reducible exact Ext.refl _ | with_reducible assumption | with_reducible refine Ext.drew ?_ | with_reducible refine Ext.drewN ?_ _ | with_reducible refine Ext.alloc ?_ _))).mono ?_) | (with_reducible refine (HVb.out _ (by repeat (first | with_reducible exact Ext.refl _ | with_reducible assumption | with_reducible refine Ext.drew ?_ | with_reducible refine Ext.drewN ?_ _ | with_reducible refine Ext.alloc ?_ _))).mono ?_)); rintro e w' ⟨rfl, hb⟩; replace hb : Ext w2 w' := Ext.trans (by repeat (first | with_reducible exact Ext.refl _ | with_reducible assumption | with_reducible refine Ext.drew ?_ | with_reducible refine Ext.drewN ?_ _ | with_reducible refine Ext.alloc ?_ _)) hb))
      clear ‹_ ∧ _›
      go_wp2_with (go_at_call 83; refine (r4_yes _ _).mono ?_; rintro e w' ⟨rfl, rfl⟩)
      go_ret
      exact ⟨rfl, hx.trans (by repeat (first | with_reducible exact Ext.refl _ | with_reducible assumption | with_reducible refine Ext.drew ?_ | with_reducible refine Ext.drewN ?_ _ | with_reducible refine Ext.alloc ?_ _))⟩
    · have HO' := Lib.hid (show ordV a b = ordU a b by rw [HO.out, if_pos rfl, if_pos rfl])
      rw [HO'.out]
      obtain ⟨fa, fb⟩ := FAB.out (by simp) (by simp)
      have HCL := Lib.hid (clsR_cmp fa.rng fb.rng)
      have HU := Lib.hid (show ordU a b = thenC (Lib.compareInt (cls a.kind) (cls b.kind)) (if cls a.kind = 2 then cmpQ a.n (dnV a.kind a.d) b.n (dnV b.kind b.d) else thenC (cmpT a.s b.s) (thenC (Lib.compareInt a.n b.n) (ordL a.l b.l))) from rfl)
      by_cases hcl : cls a.kind = cls b.kind
      · have hcz : Lib.compareInt (clsR a.kind) (clsR b.kind) = 0 := by rw [HCL.out]; exact (TotC.int.zero _ _).2 hcl
        have hcz' : (Lib.compareInt (clsR a.kind) (clsR b.kind) != 0) = false := by rw [hcz]; rfl
        have CA := Lib.hid (HNa.out (by simp))
        have CB := Lib.hid (HNb.out (by simp))
        by_cases h2 : cls a.kind = 2
        · have HT := Lib.hid (show ordU a b = cmpS a.n (dnV a.kind a.d) b.n (dnV b.kind b.d) by rw [HU.out, (TotC.int.zero _ _).2 hcl, if_pos h2, cmpS_q (dnV_num fa h2) (dnV_num fb (hcl ▸ h2))]; rfl)
          have HN1 := Lib.hid (fun W (e : Ext w2 W) => (CA.out W e).mono (fun e w' h => (⟨h.1.trans (by unfold numN numD; rw [if_pos h2, if_pos h2, decide_eq_true h2]), h.2⟩ : e = .returned (.tuple #[.agg #[.int .i64 a.n, .int .i64 (dnV a.kind a.d)], .bool true]) ∧ Ext W w')))
          have HN2 := Lib.hid (fun W (e : Ext w2 W) => (CB.out W e).mono (fun e w' h => (⟨h.1.trans (by unfold numN numD; rw [if_pos (hcl ▸ h2), if_pos (hcl ▸ h2), decide_eq_true (hcl ▸ h2)]), h.2⟩ : e = .returned (.tuple #[.agg #[.int .i64 b.n, .int .i64 (dnV b.kind b.d)], .bool true]) ∧ Ext W w')))
          rw [HT.out]
          clear HO HO' HIU FAB HNa HNb HFD fa fb HCL HU hcl h2 hcz CA CB HT
          generalize dnV a.kind a.d = da at *
          generalize dnV b.kind b.d = db at *
          go_enter Tryz.func68, Tryz.ntmps68
          go_upto_region 1 with (fail)
          rw [← HW2.out, ← HG2.out, ← HG1.out]
          clear HW2 HG2 HG1
          go_region_held3 (fun V => V.cell? ⟨g1, 0, none⟩ = some (.int .i64 a.kind) ∧ V.cell? ⟨g1, 1, none⟩ = some (.int .i64 a.n) ∧ V.cell? ⟨g1, 2, none⟩ = some (.int .i64 a.d) ∧ V.cell? ⟨g1, 3, none⟩ = some (.string a.s) ∧ V.cell? ⟨g1, 4, none⟩ = some (.slice A a.l.length c) ∧ V.cell? ⟨g2, 0, none⟩ = some (.int .i64 b.kind) ∧ V.cell? ⟨g2, 1, none⟩ = some (.int .i64 b.n) ∧ V.cell? ⟨g2, 2, none⟩ = some (.int .i64 b.d) ∧ V.cell? ⟨g2, 3, none⟩ = some (.string b.s) ∧ V.cell? ⟨g2, 4, none⟩ = some (.slice B b.l.length d) ∧ Ext w2 V) ((exact MK.out _ (by repeat (first | with_reducible exact Ext.refl _ | with_reducible assumption | with_reducible refine Ext.drew ?_ | with_reducible refine Ext.drewN ?_ _ | with_reducible refine Ext.alloc ?_ _)))) ((go_at_call 82; (first | (with_reducible refine (HVa.out _ (by repeat (first | with_reducible exact Ext.refl _ | with_reducible assumption | with_reducible refine Ext.drew ?_ | with_reducible refine Ext.drewN ?_ _ | with_reducible refine Ext.alloc ?_ _))).mono ?_) | (with_reducible refine (HVb.out _ (by repeat (first | with_reducible exact Ext.refl _ | with_reducible assumption | with_reducible refine Ext.drew ?_ | with_reducible refine Ext.drewN ?_ _ | with_reducible refine Ext.alloc ?_ _))).mono ?_)); rintro e w' ⟨rfl, hb⟩; replace hb : Ext w2 w' := Ext.trans (by repeat (first | with_reducible exact Ext.refl _ | with_reducible assumption | with_reducible refine Ext.drew ?_ | with_reducible refine Ext.drewN ?_ _ | with_reducible refine Ext.alloc ?_ _)) hb))
          obtain ⟨a0, a1, a2, a3, a4, b0, b1, b2, b3, b4, hEw⟩ := ‹_ ∧ _›
          go_wp2_with fail
          clear a0 a1 a2 a3 a4 b0 b1 b2 b3 b4
          go_region_held3 (fun V => V.cell? ⟨g1, 0, none⟩ = some (.int .i64 a.kind) ∧ V.cell? ⟨g1, 1, none⟩ = some (.int .i64 a.n) ∧ V.cell? ⟨g1, 2, none⟩ = some (.int .i64 a.d) ∧ V.cell? ⟨g1, 3, none⟩ = some (.string a.s) ∧ V.cell? ⟨g1, 4, none⟩ = some (.slice A a.l.length c) ∧ V.cell? ⟨g2, 0, none⟩ = some (.int .i64 b.kind) ∧ V.cell? ⟨g2, 1, none⟩ = some (.int .i64 b.n) ∧ V.cell? ⟨g2, 2, none⟩ = some (.int .i64 b.d) ∧ V.cell? ⟨g2, 3, none⟩ = some (.string b.s) ∧ V.cell? ⟨g2, 4, none⟩ = some (.slice B b.l.length d) ∧ Ext w2 V) ((exact MK.out _ (by repeat (first | with_reducible exact Ext.refl _ | with_reducible assumption | with_reducible refine Ext.drew ?_ | with_reducible refine Ext.drewN ?_ _ | with_reducible refine Ext.alloc ?_ _)))) ((first | (go_at_call 85; refine (r4_class _ _).mono ?_; rintro e w' ⟨rfl, rfl⟩) | (go_at_call 69; refine (r4_ints _ _ _).mono ?_; rintro e w' ⟨rfl, rfl⟩)))
          obtain ⟨a0, a1, a2, a3, a4, b0, b1, b2, b3, b4, hEv⟩ := (by assumption : World.cell? _ ⟨g1, 0, none⟩ = some (.int .i64 a.kind) ∧ World.cell? _ ⟨g1, 1, none⟩ = some (.int .i64 a.n) ∧ World.cell? _ ⟨g1, 2, none⟩ = some (.int .i64 a.d) ∧ World.cell? _ ⟨g1, 3, none⟩ = some (.string a.s) ∧ World.cell? _ ⟨g1, 4, none⟩ = some (.slice A a.l.length c) ∧ World.cell? _ ⟨g2, 0, none⟩ = some (.int .i64 b.kind) ∧ World.cell? _ ⟨g2, 1, none⟩ = some (.int .i64 b.n) ∧ World.cell? _ ⟨g2, 2, none⟩ = some (.int .i64 b.d) ∧ World.cell? _ ⟨g2, 3, none⟩ = some (.string b.s) ∧ World.cell? _ ⟨g2, 4, none⟩ = some (.slice B b.l.length d) ∧ Ext w2 _)
          go_wp2_with fail
          refine (HN1.out _ (by repeat (first | with_reducible exact Ext.refl _ | with_reducible assumption | with_reducible refine Ext.drew ?_ | with_reducible refine Ext.drewN ?_ _ | with_reducible refine Ext.alloc ?_ _))).mono ?_
          rintro e w6 ⟨rfl, h6⟩
          have hE6 : Ext w2 w6 := Ext.trans (by repeat (first | with_reducible exact Ext.refl _ | with_reducible assumption | with_reducible refine Ext.drew ?_ | with_reducible refine Ext.drewN ?_ _ | with_reducible refine Ext.alloc ?_ _)) h6
          obtain ⟨g6, w7, hg6, hw7, p0, p1, h7, -⟩ := box2 w6 a.n da 94
          have hE7 := hE6.trans h7
          have HG6 := Lib.hid hg6
          have HW7 := Lib.hid hw7
          clear a0 a1 a2 a3 a4 b0 b1 b2 b3 b4 h6 hg6 hw7 h7 hEv
          obtain ⟨a0, a1, a2, a3, a4, b0, b1, b2, b3, b4, -⟩ := MK.out w7 (hE7)
          go_upto_region 10 with (fail)
          rw [← HW7.out, ← HG6.out]
          clear HW7 HG6
          go_wp2_with fail
          refine (HN2.out w7 hE7).mono ?_
          rintro e w8 ⟨rfl, h8⟩
          obtain ⟨g8, w9, hg8, hw9, q0, q1, h9, -⟩ := box2 w8 b.n db 94
          replace p0 := (h8.trans h9).cell p0
          replace p1 := (h8.trans h9).cell p1
          have hE9 := hE7.trans (h8.trans h9)
          have HG8 := Lib.hid hg8
          have HW9 := Lib.hid hw9
          clear a0 a1 a2 a3 a4 b0 b1 b2 b3 b4 hg8 hw9 h8 h9 hE6 hE7
          obtain ⟨a0, a1, a2, a3, a4, b0, b1, b2, b3, b4, -⟩ := MK.out w9 (hE9)
          go_upto_region 11 with (fail)
          rw [← HW9.out, ← HG8.out]
          clear HW9 HG8
          go_wp2_with fail
          refine (r3_Cmp _ _ _ _ _).mono ?_
          rintro e w10 ⟨rfl, h10⟩
          have h10' : Ext w9 w10 := h10
          clear a0 a1 a2 a3 a4 b0 b1 b2 b3 b4
          go_wp2
          go_ret
          exact ⟨rfl, hx.trans (hE9.trans h10')⟩
        · have HT := Lib.hid (HIU.out (by simp) (by simp) hcl h2)
          have HN1 := Lib.hid (fun W (e : Ext w2 W) => (CA.out W e).mono (fun e w' h => (⟨h.1.trans (by unfold numN numD; rw [if_neg h2, if_neg h2, decide_eq_false h2]), h.2⟩ : e = .returned (.tuple #[.agg #[.int .i64 0, .int .i64 0], .bool false]) ∧ Ext W w')))
          have HN2 := Lib.hid (fun W (e : Ext w2 W) => (CB.out W e).mono (fun e w' h => (⟨h.1.trans (by unfold numN numD; rw [if_neg (hcl ▸ h2), if_neg (hcl ▸ h2), decide_eq_false (hcl ▸ h2)]), h.2⟩ : e = .returned (.tuple #[.agg #[.int .i64 0, .int .i64 0], .bool false]) ∧ Ext W w')))
          rw [HT.out]
          clear HO HO' HIU FAB HNa HNb fa fb HCL HU hcl h2 hcz CA CB HT
          go_enter Tryz.func68, Tryz.ntmps68
          go_upto_region 1 with (fail)
          rw [← HW2.out, ← HG2.out, ← HG1.out]
          clear HW2 HG2 HG1
          go_region_held3 (fun V => V.cell? ⟨g1, 0, none⟩ = some (.int .i64 a.kind) ∧ V.cell? ⟨g1, 1, none⟩ = some (.int .i64 a.n) ∧ V.cell? ⟨g1, 2, none⟩ = some (.int .i64 a.d) ∧ V.cell? ⟨g1, 3, none⟩ = some (.string a.s) ∧ V.cell? ⟨g1, 4, none⟩ = some (.slice A a.l.length c) ∧ V.cell? ⟨g2, 0, none⟩ = some (.int .i64 b.kind) ∧ V.cell? ⟨g2, 1, none⟩ = some (.int .i64 b.n) ∧ V.cell? ⟨g2, 2, none⟩ = some (.int .i64 b.d) ∧ V.cell? ⟨g2, 3, none⟩ = some (.string b.s) ∧ V.cell? ⟨g2, 4, none⟩ = some (.slice B b.l.length d) ∧ Ext w2 V) ((exact MK.out _ (by repeat (first | with_reducible exact Ext.refl _ | with_reducible assumption | with_reducible refine Ext.drew ?_ | with_reducible refine Ext.drewN ?_ _ | with_reducible refine Ext.alloc ?_ _)))) ((go_at_call 82; (first | (with_reducible refine (HVa.out _ (by repeat (first | with_reducible exact Ext.refl _ | with_reducible assumption | with_reducible refine Ext.drew ?_ | with_reducible refine Ext.drewN ?_ _ | with_reducible refine Ext.alloc ?_ _))).mono ?_) | (with_reducible refine (HVb.out _ (by repeat (first | with_reducible exact Ext.refl _ | with_reducible assumption | with_reducible refine Ext.drew ?_ | with_reducible refine Ext.drewN ?_ _ | with_reducible refine Ext.alloc ?_ _))).mono ?_)); rintro e w' ⟨rfl, hb⟩; replace hb : Ext w2 w' := Ext.trans (by repeat (first | with_reducible exact Ext.refl _ | with_reducible assumption | with_reducible refine Ext.drew ?_ | with_reducible refine Ext.drewN ?_ _ | with_reducible refine Ext.alloc ?_ _)) hb))
          obtain ⟨a0, a1, a2, a3, a4, b0, b1, b2, b3, b4, hEw⟩ := ‹_ ∧ _›
          go_wp2_with fail
          clear a0 a1 a2 a3 a4 b0 b1 b2 b3 b4
          go_region_held3 (fun V => V.cell? ⟨g1, 0, none⟩ = some (.int .i64 a.kind) ∧ V.cell? ⟨g1, 1, none⟩ = some (.int .i64 a.n) ∧ V.cell? ⟨g1, 2, none⟩ = some (.int .i64 a.d) ∧ V.cell? ⟨g1, 3, none⟩ = some (.string a.s) ∧ V.cell? ⟨g1, 4, none⟩ = some (.slice A a.l.length c) ∧ V.cell? ⟨g2, 0, none⟩ = some (.int .i64 b.kind) ∧ V.cell? ⟨g2, 1, none⟩ = some (.int .i64 b.n) ∧ V.cell? ⟨g2, 2, none⟩ = some (.int .i64 b.d) ∧ V.cell? ⟨g2, 3, none⟩ = some (.string b.s) ∧ V.cell? ⟨g2, 4, none⟩ = some (.slice B b.l.length d) ∧ Ext w2 V) ((exact MK.out _ (by repeat (first | with_reducible exact Ext.refl _ | with_reducible assumption | with_reducible refine Ext.drew ?_ | with_reducible refine Ext.drewN ?_ _ | with_reducible refine Ext.alloc ?_ _)))) ((first | (go_at_call 85; refine (r4_class _ _).mono ?_; rintro e w' ⟨rfl, rfl⟩) | (go_at_call 69; refine (r4_ints _ _ _).mono ?_; rintro e w' ⟨rfl, rfl⟩)))
          obtain ⟨a0, a1, a2, a3, a4, b0, b1, b2, b3, b4, hEv⟩ := (by assumption : World.cell? _ ⟨g1, 0, none⟩ = some (.int .i64 a.kind) ∧ World.cell? _ ⟨g1, 1, none⟩ = some (.int .i64 a.n) ∧ World.cell? _ ⟨g1, 2, none⟩ = some (.int .i64 a.d) ∧ World.cell? _ ⟨g1, 3, none⟩ = some (.string a.s) ∧ World.cell? _ ⟨g1, 4, none⟩ = some (.slice A a.l.length c) ∧ World.cell? _ ⟨g2, 0, none⟩ = some (.int .i64 b.kind) ∧ World.cell? _ ⟨g2, 1, none⟩ = some (.int .i64 b.n) ∧ World.cell? _ ⟨g2, 2, none⟩ = some (.int .i64 b.d) ∧ World.cell? _ ⟨g2, 3, none⟩ = some (.string b.s) ∧ World.cell? _ ⟨g2, 4, none⟩ = some (.slice B b.l.length d) ∧ Ext w2 _)
          go_wp2_with fail
          refine (HN1.out _ (by repeat (first | with_reducible exact Ext.refl _ | with_reducible assumption | with_reducible refine Ext.drew ?_ | with_reducible refine Ext.drewN ?_ _ | with_reducible refine Ext.alloc ?_ _))).mono ?_
          rintro e w6 ⟨rfl, h6⟩
          have hE6 : Ext w2 w6 := Ext.trans (by repeat (first | with_reducible exact Ext.refl _ | with_reducible assumption | with_reducible refine Ext.drew ?_ | with_reducible refine Ext.drewN ?_ _ | with_reducible refine Ext.alloc ?_ _)) h6
          obtain ⟨g6, w7, hg6, hw7, p0, p1, h7, -⟩ := box2 w6 0 0 94
          have hE7 := hE6.trans h7
          have HG6 := Lib.hid hg6
          have HW7 := Lib.hid hw7
          clear a0 a1 a2 a3 a4 b0 b1 b2 b3 b4 h6 hg6 hw7 h7 hEv
          obtain ⟨a0, a1, a2, a3, a4, b0, b1, b2, b3, b4, -⟩ := MK.out w7 (hE7)
          go_upto_region 10 with (fail)
          rw [← HW7.out, ← HG6.out]
          clear HW7 HG6
          go_wp2_with fail
          refine (HN2.out w7 hE7).mono ?_
          rintro e w8 ⟨rfl, h8⟩
          obtain ⟨g8, w9, hg8, hw9, q0, q1, h9, -⟩ := box2 w8 0 0 94
          replace p0 := (h8.trans h9).cell p0
          replace p1 := (h8.trans h9).cell p1
          have hE9 := hE7.trans (h8.trans h9)
          have HG8 := Lib.hid hg8
          have HW9 := Lib.hid hw9
          clear a0 a1 a2 a3 a4 b0 b1 b2 b3 b4 hg8 hw9 h8 h9 hE6 hE7
          obtain ⟨a0, a1, a2, a3, a4, b0, b1, b2, b3, b4, -⟩ := MK.out w9 (hE9)
          go_upto_region 11 with (fail)
          rw [← HW9.out, ← HG8.out]
          clear HW9 HG8
          go_wp2_with fail
          refine (HFD.out w9 hE9).mono ?_
          rintro e w10 ⟨rfl, h10⟩
          clear a0 a1 a2 a3 a4 b0 b1 b2 b3 b4
          go_wp2
          go_ret
          exact ⟨rfl, hx.trans (hE9.trans h10)⟩
      · have hcz : Lib.compareInt (clsR a.kind) (clsR b.kind) ≠ 0 := by rw [HCL.out]; exact fun h => hcl ((TotC.int.zero _ _).1 h)
        have hcz' : (Lib.compareInt (clsR a.kind) (clsR b.kind) != 0) = true := by simpa using hcz
        have HT := Lib.hid (show ordU a b = Lib.compareInt (clsR a.kind) (clsR b.kind) by rw [HU.out, ← HCL.out, thenC_ne hcz])
        rw [HT.out]
        clear HO HO' HIU FAB HNa HNb HFD fa fb HCL HU hcl hcz HT
        go_enter Tryz.func68, Tryz.ntmps68
        go_upto_region 1 with (fail)
        rw [← HW2.out, ← HG2.out, ← HG1.out]
        clear HW2 HG2 HG1
        go_region_held3 (fun V => V.cell? ⟨g1, 0, none⟩ = some (.int .i64 a.kind) ∧ V.cell? ⟨g1, 1, none⟩ = some (.int .i64 a.n) ∧ V.cell? ⟨g1, 2, none⟩ = some (.int .i64 a.d) ∧ V.cell? ⟨g1, 3, none⟩ = some (.string a.s) ∧ V.cell? ⟨g1, 4, none⟩ = some (.slice A a.l.length c) ∧ V.cell? ⟨g2, 0, none⟩ = some (.int .i64 b.kind) ∧ V.cell? ⟨g2, 1, none⟩ = some (.int .i64 b.n) ∧ V.cell? ⟨g2, 2, none⟩ = some (.int .i64 b.d) ∧ V.cell? ⟨g2, 3, none⟩ = some (.string b.s) ∧ V.cell? ⟨g2, 4, none⟩ = some (.slice B b.l.length d) ∧ Ext w2 V) ((exact MK.out _ (by repeat (first | with_reducible exact Ext.refl _ | with_reducible assumption | with_reducible refine Ext.drew ?_ | with_reducible refine Ext.drewN ?_ _ | with_reducible refine Ext.alloc ?_ _)))) ((go_at_call 82; (first | (with_reducible refine (HVa.out _ (by repeat (first | with_reducible exact Ext.refl _ | with_reducible assumption | with_reducible refine Ext.drew ?_ | with_reducible refine Ext.drewN ?_ _ | with_reducible refine Ext.alloc ?_ _))).mono ?_) | (with_reducible refine (HVb.out _ (by repeat (first | with_reducible exact Ext.refl _ | with_reducible assumption | with_reducible refine Ext.drew ?_ | with_reducible refine Ext.drewN ?_ _ | with_reducible refine Ext.alloc ?_ _))).mono ?_)); rintro e w' ⟨rfl, hb⟩; replace hb : Ext w2 w' := Ext.trans (by repeat (first | with_reducible exact Ext.refl _ | with_reducible assumption | with_reducible refine Ext.drew ?_ | with_reducible refine Ext.drewN ?_ _ | with_reducible refine Ext.alloc ?_ _)) hb))
        obtain ⟨a0, a1, a2, a3, a4, b0, b1, b2, b3, b4, hEw⟩ := ‹_ ∧ _›
        go_wp2_with fail
        clear a0 a1 a2 a3 a4 b0 b1 b2 b3 b4
        go_region_held3 (fun V => V.cell? ⟨g1, 0, none⟩ = some (.int .i64 a.kind) ∧ V.cell? ⟨g1, 1, none⟩ = some (.int .i64 a.n) ∧ V.cell? ⟨g1, 2, none⟩ = some (.int .i64 a.d) ∧ V.cell? ⟨g1, 3, none⟩ = some (.string a.s) ∧ V.cell? ⟨g1, 4, none⟩ = some (.slice A a.l.length c) ∧ V.cell? ⟨g2, 0, none⟩ = some (.int .i64 b.kind) ∧ V.cell? ⟨g2, 1, none⟩ = some (.int .i64 b.n) ∧ V.cell? ⟨g2, 2, none⟩ = some (.int .i64 b.d) ∧ V.cell? ⟨g2, 3, none⟩ = some (.string b.s) ∧ V.cell? ⟨g2, 4, none⟩ = some (.slice B b.l.length d) ∧ Ext w2 V) ((exact MK.out _ (by repeat (first | with_reducible exact Ext.refl _ | with_reducible assumption | with_reducible refine Ext.drew ?_ | with_reducible refine Ext.drewN ?_ _ | with_reducible refine Ext.alloc ?_ _)))) ((first | (go_at_call 85; refine (r4_class _ _).mono ?_; rintro e w' ⟨rfl, rfl⟩) | (go_at_call 69; refine (r4_ints _ _ _).mono ?_; rintro e w' ⟨rfl, rfl⟩)))
        all_goals
          clear ‹_ ∧ _›
          go_wp2
          go_ret
          exact ⟨rfl, hx.trans (by repeat (first | with_reducible exact Ext.refl _ | with_reducible assumption | with_reducible refine Ext.drew ?_ | with_reducible refine Ext.drewN ?_ _ | with_reducible refine Ext.alloc ?_ _))⟩
theorem r4_OrderN : ∀ (N : Nat) (a b : Val) (ok ok' : Nat → Prop) (A B : Option Addr) (c d : Nat) (w : World), wtV a ≤ N → Vals w ok A a.l → Vals w ok' B b.l → szV a → szV b →
    Calls Tryz.prog 68 #[.agg #[.int .i64 a.kind, .int .i64 a.n, .int .i64 a.d, .string a.s, .slice A a.l.length c], .agg #[.int .i64 b.kind, .int .i64 b.n, .int .i64 b.d, .string b.s, .slice B b.l.length d]] w fun e w' => e = .returned (.int .i64 (ordV a b)) ∧ Ext w w'
  | 0, a, b, ok, ok', A, B, c, d, w, hN, _, _, _, _ => by unfold wtV at hN; omega
  | N + 1, a, b, ok, ok', A, B, c, d, w, hN, ha, hb, hsa, hsb =>
    r4_OrderStep a b ok ok' A B c d w ha hb hsa hsb (fun x hx y _ Ax By cx dy W hx' hy' h1 h2 => r4_OrderN N x y ok ok' Ax By cx dy W (wt_kid hx hN) hx' hy' h1 h2)
theorem r4_Order (a b : Val) (ok ok' : Nat → Prop) (A B : Option Addr) (c d : Nat) (w : World) (ha : Vals w ok A a.l) (hb : Vals w ok' B b.l) (hsa : szV a) (hsb : szV b) :
    Calls Tryz.prog 68 #[.agg #[.int .i64 a.kind, .int .i64 a.n, .int .i64 a.d, .string a.s, .slice A a.l.length c], .agg #[.int .i64 b.kind, .int .i64 b.n, .int .i64 b.d, .string b.s, .slice B b.l.length d]] w fun e w' => e = .returned (.int .i64 (ordV a b)) ∧ Ext w w' :=
  r4_OrderN (wtV a) a b ok ok' A B c d w (Nat.le_refl _) ha hb hsa hsb
theorem r4_OrderRows (a b : List Val) (ok ok' : Nat → Prop) (A B : Option Addr) (c d : Nat) (w : World) (ha : Vals w ok A a) (hb : Vals w ok' B b) (hsa : szL a) (hsb : szL b) :
    Calls Tryz.prog 36 #[.slice A a.length c, .slice B b.length d] w fun e w' => e = .returned (.int .i64 (ordL a b)) ∧ Ext w w' := by
  have HC := Lib.hid (r4_lists a b ok ok' A B c d w ha hb hsa hsb (fun x _ y _ Ax By cx dy W hx hy h1 h2 => r4_Order x y ok ok' Ax By cx dy W hx hy h1 h2))
  clear ha hb hsa hsb
  go_enter Tryz.func36, Tryz.ntmps36
  go_wp2_with (go_at_call 56; ((with_reducible refine (HC.out).mono ?_); rintro e w' ⟨rfl, hb⟩))
  go_ret
  exact ⟨rfl, hb⟩
end Go.Proofs.YtbjddimafilflaaGreatDoor

/- APPENDS TO ROWS THAT A CALL OWNS, with what they leave as it was; values kept over them. -/
namespace Go.Proofs.YtbjddimafilflaaGreatDoor
open Go.RowKit
/-- behind an append to v: all that lay outside v's block lies as it lay; the new block is none of those -/
structure FarBut (w w' : World) (v v' : Value) : Prop where
  cell : ∀ b o x, some b ≠ v.ownBlock → w.cell? ⟨b, o, none⟩ = some x → w'.cell? ⟨b, o, none⟩ = some x
  own : ∀ b, b < w.heap.size → some b ≠ v.ownBlock → some b ≠ v'.ownBlock
theorem own_pushF {P : Program} {t e size bytes : Nat} (T : ElT P t e size bytes) {ops : Array Oper} {rest : List Oper} {o : Oper} {a : Act} {Q : Exit → Act → World → Prop} {w : World} (hgd : o.guard = none) (s x : Operand)
    (ho : o.op = .call { callee := .builtin .append, args := #[s, x], argTypes := #[t, t] }) (wb w0 : World) (v : Value) (n : Nat) (xs news : List Value) (hs : a.eval s = v) (hown : w0.ownsRow wb.heap.size e size v n xs) (hE : Ext wb w0)
    (hw : w = w0.alloc (.cells news.toArray e)) (hx : a.eval x = .slice (some ⟨w0.heap.size, 0, none⟩) 1 1) (hl : news.length = size) (h1 : ∀ u ∈ news, u.oneCell' = true)
    (h63 : n + 1 ≤ 8388608) (hbytes : bytes ≤ 1000000)
    (h : ∀ v' w', w'.ownsRow wb.heap.size e size v' (n + 1) (xs ++ news) → Ext wb w' → FarBut w0 w' v v' → wpList P ops Q rest (a.put o.dst v') w') : wpList P ops Q (o :: rest) a w := by
  obtain ⟨z, hz, hzc⟩ := T.hi
  obtain ⟨i, hi, hz0, hz1, hz2⟩ := info_parts hz
  subst hw
  refine wpList_append_own_at _ hgd s x t ho wb.heap.size e i z size bytes T.ht hi hz0 hz1 hz2 hzc T.hs v n xs hs (hown.alloc _) ⟨w0.heap.size, 0, none⟩ 1 1 news hx (by omega) ?_ h1 (by unfold maxLen; omega) ?_ (Nat.le_trans hE.le (by simp)) ?_
  · intro j u hj
    rw [Addr.add_mid, cell_of_row _ _ _ _ _ _ (heap_alloc_new w0 _)]
    simpa using hj
  · exact Nat.le_trans (Nat.mul_le_mul h63 hbytes) (by decide)
  · intro v' w' h2 h3 _ h5
    refine h v' w' h2 ((hE.alloc _).grown h3 (fun k hk => (hown.lt k hk).1)) ⟨fun b o x hb hc => ?_, fun b hb hn => ?_⟩
    · have hlt : b < w0.heap.size := block_lt_of_cell hc
      have hc2 : (w0.alloc (.cells news.toArray e)).cell? ⟨b, o, none⟩ = some x := (World.cell?_alloc_lt w0 _ ⟨b, o, none⟩ hlt).trans hc
      exact (World.cell?_of_block (h3.block b (by simp; omega) hb)).trans hc2
    · rcases h5 with e | e
      · rw [e]; exact hn
      · rw [e]
        intro e2
        injection e2 with e2
        simp at e2; omega
mutual
theorem VCells.keep' {w w' : World} {ok ok' : Nat → Prop} (hk : ∀ b o x, ok b → w.cell? ⟨b, o, none⟩ = some x → w'.cell? ⟨b, o, none⟩ = some x ∧ ok' b) : ∀ (v : Val) (b o : Nat), VCells w ok b o v → VCells w' ok' b o v
  | .mk k n d s l, b, o, h => by
    rw [VCells] at h ⊢
    obtain ⟨h0, h1, h2, h3, h4, A, c, h5, h6, h7, h8⟩ := h
    refine ⟨(hk _ _ _ h0 h1).2, (hk _ _ _ h0 h1).1, (hk _ _ _ h0 h2).1, (hk _ _ _ h0 h3).1, (hk _ _ _ h0 h4).1, A, c, (hk _ _ _ h0 h5).1, h6, h7, fun hp => ?_⟩
    obtain ⟨b', o', hA, hl⟩ := h8 hp
    exact ⟨b', o', hA, LCells.keep' hk l b' o' hl⟩
theorem LCells.keep' {w w' : World} {ok ok' : Nat → Prop} (hk : ∀ b o x, ok b → w.cell? ⟨b, o, none⟩ = some x → w'.cell? ⟨b, o, none⟩ = some x ∧ ok' b) : ∀ (l : List Val) (b o : Nat), LCells w ok b o l → LCells w' ok' b o l
  | [], _, _, _ => by rw [LCells]; trivial
  | v :: vs, b, o, h => by
    rw [LCells] at h ⊢
    exact ⟨VCells.keep' hk v b o h.1, LCells.keep' hk vs b (o + 5) h.2⟩
end
theorem Vals.keep' {w w' : World} {ok ok' : Nat → Prop} {A : Option Addr} {l : List Val} (h : Vals w ok A l) (hk : ∀ b o x, ok b → w.cell? ⟨b, o, none⟩ = some x → w'.cell? ⟨b, o, none⟩ = some x ∧ ok' b) : Vals w' ok' A l :=
  SliceR.mono h (fun b o x _ hx => VCells.keep' hk x b o hx)
end Go.Proofs.YtbjddimafilflaaGreatDoor

/- THE WALK over the reference's Copy. -/
namespace Go.Proofs.YtbjddimafilflaaGreatDoor
open Go.RowKit
theorem T_val : ElT Tryz.prog 36 40 5 64 :=
  ⟨Tryz.underlying36, ⟨.agg #[.int .i64 0, .int .i64 0, .int .i64 0, .string ⟨#[]⟩, .slice none 0 0], by kernel_rfl, rfl⟩, by decide⟩
/-- the cells of the first k elements of copies: each its element's cells, its list copied into new memory -/
def CopyTo (w : World) (ok : Nat → Prop) (l : List Val) (cs : List (List Value)) : Prop :=
  ∀ i (h : i < cs.length), ∃ (h' : i < l.length) (A : Option Addr) (c : Nat), cs[i] = (l[i]).cells A c ∧ (l[i]).l.length ≤ c ∧ Vals w ok A (l[i]).l
theorem CopyTo.nil (w : World) (ok : Nat → Prop) (l : List Val) : CopyTo w ok l [] := fun i h => absurd h (by simp)
theorem CopyTo.keep {w w' : World} {ok ok' : Nat → Prop} {l : List Val} {cs : List (List Value)} (h : CopyTo w ok l cs) (hk : ∀ b o x, ok b → w.cell? ⟨b, o, none⟩ = some x → w'.cell? ⟨b, o, none⟩ = some x) (ho : ∀ b, ok b → ok' b) : CopyTo w' ok' l cs := fun i hi => by
  obtain ⟨h', A, c, h1, h2, h3⟩ := h i hi
  exact ⟨h', A, c, h1, h2, h3.keep hk ho⟩
theorem CopyTo.keep' {w w' : World} {ok ok' : Nat → Prop} {l : List Val} {cs : List (List Value)} (h : CopyTo w ok l cs) (hk : ∀ b o x, ok b → w.cell? ⟨b, o, none⟩ = some x → w'.cell? ⟨b, o, none⟩ = some x ∧ ok' b) : CopyTo w' ok' l cs := fun i hi => by
  obtain ⟨h', A, c, h1, h2, h3⟩ := h i hi
  exact ⟨h', A, c, h1, h2, h3.keep' hk⟩
/-- where copies may lie: in new memory, outside the row's own block -/
def okB (base : Nat) (v : Value) (b : Nat) : Prop := base ≤ b ∧ some b ≠ v.ownBlock
theorem CopyTo.ext {a w : World} {ok : Nat → Prop} {l : List Val} {cs : List (List Value)} (h : CopyTo a ok l cs) (e : Ext a w) : CopyTo w ok l cs := h.keep (fun _ _ _ _ hc => e.cell hc) (fun _ h => h)
theorem CopyTo.push {w : World} {ok : Nat → Prop} {l : List Val} {cs : List (List Value)} (h : CopyTo w ok l cs) (hl : cs.length < l.length) {A : Option Addr} {c : Nat} (hc : (l[cs.length]).l.length ≤ c) (hv : Vals w ok A (l[cs.length]).l) : CopyTo w ok l (cs ++ [(l[cs.length]).cells A c]) := fun i hi => by
  rcases Nat.lt_or_ge i cs.length with h1 | h1
  · obtain ⟨h', A', c', e1, e2, e3⟩ := h i h1
    exact ⟨h', A', c', by rw [List.getElem_append_left h1]; exact e1, e2, e3⟩
  · have hi' : i = cs.length := by simp at hi; omega
    subst hi'
    exact ⟨hl, A, c, by simp, hc, hv⟩
theorem CopyTo.size {w : World} {ok : Nat → Prop} {l : List Val} {cs : List (List Value)} (h : CopyTo w ok l cs) : ∀ x ∈ cs, x.length = 5 := fun x hx => by
  obtain ⟨i, hi, rfl⟩ := List.getElem_of_mem hx
  obtain ⟨_, A, c, e, _⟩ := h i hi
  rw [e]; rfl
theorem CopyTo.done {w : World} {ok : Nat → Prop} {base : Nat} {v : Value} {l : List Val} {cs : List (List Value)} (h : CopyTo w ok l cs) (hown : w.ownsRow base 40 5 v l.length cs.flatten) (hl : cs.length = l.length) (hm : l.length ≤ 140737488355328) (hok : ∀ b, ok b → base ≤ b) :
    ∃ A c, v = .slice A l.length c ∧ l.length ≤ c ∧ Vals w (fun b => base ≤ b) A l := by
  refine own_sliceR hown rfl hl h.size hm (fun g hg _ k hk hk' hcell => ?_)
  obtain ⟨h', A, c, e, h2, h3⟩ := h k hk'
  rw [e] at hcell
  refine VCells.iff.2 ⟨hg, A, c, ⟨?_, ?_, ?_, ?_, ?_⟩, h2, h3.to hok⟩
  · exact hcell 0 _ rfl
  · exact hcell 1 _ rfl
  · exact hcell 2 _ rfl
  · exact hcell 3 _ rfl
  · exact hcell 4 _ rfl
set_option maxRecDepth 100000 in
set_option maxHeartbeats 6400000 in
theorem r4_CopyStep (l : List Val) (ok : Nat → Prop) (A : Option Addr) (c : Nat) (w : World) (hv : Vals w ok A l) (hl : l.length ≤ 8000000)
    (ih : ∀ x ∈ l, ∀ (Ax : Option Addr) (cx : Nat) (W : World), Vals W ok Ax x.l → Calls Tryz.prog 35 #[.slice Ax x.l.length cx] W fun e W' => ∃ A' c', e = .returned (.slice A' x.l.length c') ∧ x.l.length ≤ c' ∧ Vals W' (fun b => W.heap.size ≤ b) A' x.l ∧ Ext W W') :
    Calls Tryz.prog 35 #[.slice A l.length c] w fun e w' => ∃ A' c', e = .returned (.slice A' l.length c') ∧ l.length ≤ c' ∧ Vals w' (fun b => w.heap.size ≤ b) A' l ∧ Ext w w' := by
  have hm := hv.len
  have HV := Lib.hid hv
  have HI := Lib.hid ih
  clear hv ih
  go_enter Tryz.func35, Tryz.ntmps35
  go_wp2
  go_loopw [3, 4] (fun v u W => ∃ (k : Nat) (cs : List (List Value)), u = .int .i64 k ∧ k ≤ l.length ∧ W.ownsRow w.heap.size 40 5 v k cs.flatten ∧ Hid (cs.length = k) ∧ Hid (CopyTo W (okB w.heap.size v) l cs) ∧ Ext w W) (fun _ u _ => l.length - (intOf u).toNat)
  case atStart => exact ⟨0, [], rfl, Nat.zero_le _, World.ownsRow_nil _ _ _ _, Lib.hid rfl, Lib.hid (CopyTo.nil _ _ _), Ext.refl _⟩
  case round =>
    obtain ⟨k, cs, rfl, hk, hown, hcl, hct, hE⟩ := hrel
    by_cases hlt : k < l.length
    · obtain ⟨b, o, rfl, hc⟩ := HV.out.2 (by omega)
      obtain ⟨-, A', c', h5, -, hv'⟩ := VCells.iff.1 (hc k hlt)
      obtain ⟨d0, d1, d2, d3, d4⟩ := h5.ext hE
      obtain ⟨g, w1, hg, hw1, h6, hx, -⟩ := box_val wr l[k] A' c' 40
      have HB := Lib.hid (show w1.heap[g]? = some (.cells #[.int .i64 (l[k]).kind, .int .i64 (l[k]).n, .int .i64 (l[k]).d, .string (l[k]).s, .slice A' (l[k]).l.length c'] 40) by rw [hw1, hg]; exact heap_alloc_new _ _)
      have HC := Lib.hid (HI.out l[k] (List.getElem_mem hlt) A' c' w1 (hv'.ext (hE.trans hx)))
      have HP := Lib.hid (fun (W : World) (h : CopyTo W (okB w.heap.size u3) l cs) A2 c2 (h1 : (l[k]).l.length ≤ c2) (h2 : Vals W (okB w.heap.size u3) A2 (l[k]).l) => (by
        have hk' := hcl.out
        subst hk'
        exact h.push hlt h1 h2 : CopyTo W (okB w.heap.size u3) l (cs ++ [(l[k]).cells A2 c2])))
      have hle := hE.le
      have hgw : wr.heap.size ≤ g := by omega
      have HG0 := Lib.hid (show g < w1.heap.size from block_lt_of_cell h6.1)
      have HW1 := Lib.hid hw1
      have HG := Lib.hid hg
      obtain ⟨p0, p1, p2, p3, p4⟩ := h6
      clear hc h5 hv' hw1 hg
      generalize l[k] = x at *
      go_upto_region 6 with (fail)
      rw [← HW1.out, ← HG.out]
      clear HW1 HG d0 d1 d2 d3 d4
      go_wp2_with fail
      refine (HC.out).mono ?_
      rintro e w6 ⟨A2, c2, rfl, hle2, hV2, h6⟩
      have hblk := h6.heap HB.out
      have hfr : w6.frozen? ⟨g, 4, none⟩ = false := by simp [World.frozen?, hblk]
      replace p0 := h6.cell p0
      replace p1 := h6.cell p1
      replace p2 := h6.cell p2
      replace p3 := h6.cell p3
      replace p4 := h6.cell p4
      obtain ⟨wS, hwS⟩ : ∃ wS, wS = w6.setCell ⟨g, 4, none⟩ (.slice A2 x.l.length c2) := ⟨_, rfl⟩
      have s0 : wS.cell? ⟨g, 0, none⟩ = some (.int .i64 x.kind) := by rw [hwS]; go_simp
      have s1 : wS.cell? ⟨g, 1, none⟩ = some (.int .i64 x.n) := by rw [hwS]; go_simp
      have s2 : wS.cell? ⟨g, 2, none⟩ = some (.int .i64 x.d) := by rw [hwS]; go_simp
      have s3 : wS.cell? ⟨g, 3, none⟩ = some (.string x.s) := by rw [hwS]; go_simp
      have s4 : wS.cell? ⟨g, 4, none⟩ = some (.slice A2 x.l.length c2) := by rw [hwS]; exact World.cell?_setCell_same' _ _ _ (by rw [p4]; rfl)
      have hES : Ext wr wS := by rw [hwS]; exact (hx.trans h6).setCell hgw _
      have HVS := Lib.hid (show Vals wS (okB w.heap.size u3) A2 x.l by
        rw [hwS]
        refine hV2.keep (fun b o y hb hc => ?_) (fun b hb => ?_)
        · have hne : b ≠ g := by have := HG0.out; omega
          rw [World.cell?_setCell_other _ _ _ _ (fun e => hne (by injection e with e1; exact e1.symm))]; exact hc
        · refine ⟨by have := hx.le; omega, fun e => ?_⟩
          have h1 := (World.ownsRow.lt hown _ e.symm).2
          have h2 := hx.le
          omega)
      have HWS := Lib.hid hwS
      clear hwS hV2 h6 hblk HC HB
      go_upto_region 7 with (fail)
      rw [← HWS.out]
      clear HWS p0 p1 p2 p3 p4 hfr
      have hownS := own_ext hown hES
      have hkb : k + 1 ≤ 8388608 := by omega
      go_wp2_with (at_builtin; refine own_pushF T_val rfl (.tmp 20) (.tmp 22) rfl w wS _ k _ (x.cells A2 c2) rfl hownS (hE.trans hES) rfl rfl rfl (Val.cells_one _ _ _) hkb (by decide) ?_; intro v2 w9 hown2 hE9 hF9)
      have HN := Lib.hid ((HP.out wS (hct.out.ext hES) A2 c2 hle2 HVS.out).keep' (w' := w9) (ok' := okB w.heap.size v2) (fun b o y hb hc => ⟨hF9.cell b o y hb.2 hc, hb.1, hF9.own b (block_lt_of_cell hc) hb.2⟩))
      clear hF9 HP HVS
      go_roundw
      case rel => exact ⟨k + 1, cs ++ [x.cells A2 c2], by go_num, by omega, by (rw [List.flatten_append]; simpa using hown2), Lib.hid (by rw [List.length_append, hcl.out]; rfl), HN, hE9⟩
      case measure => simp [intOf]; omega
    · have hk' : k = l.length := by omega
      have HD := Lib.hid (hct.out.done (by rw [← hk']; exact hown) (hcl.out.trans hk') hm (fun b hb => hb.1))
      go_wp2
      obtain ⟨A9, c9, e9, h9, hV9⟩ := HD.out
      subst e9
      go_ret
      exact ⟨A9, c9, rfl, h9, hV9, hE⟩
theorem r4_CopyN : ∀ (N : Nat) (l : List Val) (ok : Nat → Prop) (A : Option Addr) (c : Nat) (w : World), wtL l ≤ N → wtL l ≤ 8000000 → Vals w ok A l →
    Calls Tryz.prog 35 #[.slice A l.length c] w fun e w' => ∃ A' c', e = .returned (.slice A' l.length c') ∧ l.length ≤ c' ∧ Vals w' (fun b => w.heap.size ≤ b) A' l ∧ Ext w w'
  | 0, l, ok, A, c, w, hN, hm, hv => r4_CopyStep l ok A c w hv (Nat.le_trans (wtL_len l) hm) (fun x hx => by have := wtL_kids hx; omega)
  | N + 1, l, ok, A, c, w, hN, hm, hv => r4_CopyStep l ok A c w hv (Nat.le_trans (wtL_len l) hm) (fun x hx Ax cx W hx' => by
    have := wtL_kids hx
    exact r4_CopyN N x.l ok Ax cx W (by omega) (by omega) hx')
theorem r4_Copy (l : List Val) (ok : Nat → Prop) (A : Option Addr) (c : Nat) (w : World) (hm : wtL l ≤ 8000000) (hv : Vals w ok A l) :
    Calls Tryz.prog 35 #[.slice A l.length c] w fun e w' => ∃ A' c', e = .returned (.slice A' l.length c') ∧ l.length ≤ c' ∧ Vals w' (fun b => w.heap.size ≤ b) A' l ∧ Ext w w' :=
  r4_CopyN (wtL l) l ok A c w (Nat.le_refl _) hm hv
end Go.Proofs.YtbjddimafilflaaGreatDoor
