/- PARTS OF THE WALKS, joined: Ve, Vf, Ra. -/
import Derived.Test.YtbjddimafilflaaGreatDoorP09
import Derived.Deep.RegionHeld3
/- THE WALKS over slices.CompareFunc at value.order and over value.order. -/
namespace Go.Proofs.YtbjddimafilflaaGreatDoor
open Go.RowKit
set_option maxRecDepth 100000 in
set_option maxHeartbeats 3200000 in
theorem v_cmpU (a b : List Val) (ok ok' : Nat → Prop) (A B : Option Addr) (c d : Nat) (w : World) (hz : ZeroAt w) (ha : Vals w ok A a) (hb : Vals w ok' B b) (hq : (∀ x ∈ a, validV x = true) ∧ (∀ y ∈ b, validV y = true))
    (hf : ∀ x ∈ a, ∀ y ∈ b, ∀ (Ax By : Option Addr) (cx dy : Nat) (W : World), ZeroAt W → Vals W ok Ax x.l → Vals W ok' By y.l → validV x = true → validV y = true → Calls Tryz.prog 90 #[.agg #[.int .i64 x.kind, .int .i64 x.n, .int .i64 x.d, .string x.s, .slice Ax x.l.length cx], .agg #[.int .i64 y.kind, .int .i64 y.n, .int .i64 y.d, .string y.s, .slice By y.l.length dy]] W fun e W' => e = .returned (.int .i64 (ordV x y)) ∧ Ext W W') :
    Calls Tryz.prog 94 #[.slice A a.length c, .slice B b.length d, .func (.func 90) #[] #[]] w fun e w' => e = .returned (.int .i64 (ordL a b)) ∧ Ext w w' := by
  have hma := ha.len
  have hmb := hb.len
  have HZ := Lib.hid hz
  have HA := Lib.hid ha
  have HB := Lib.hid hb
  have HF := Lib.hid hf
  have HQ := Lib.hid hq
  obtain ⟨R, hR⟩ : ∃ R, R = ordL a b := ⟨_, rfl⟩
  rw [← hR]
  have HR := Lib.hid (show R = ordL (a.drop 0) (b.drop 0) from hR)
  clear hz ha hb hf hR hq
  go_enter Tryz.func94, Tryz.ntmps94
  go_wp2
  go_loopw [13] (fun u W => ∃ k : Nat, u = .int .i64 k ∧ k ≤ a.length ∧ k ≤ b.length ∧ Hid (R = ordL (a.drop k) (b.drop k)) ∧ Ext w W) (fun u _ => a.length - (intOf u).toNat)
  case atStart => exact ⟨0, rfl, Nat.zero_le _, Nat.zero_le _, HR, Ext.refl _⟩
  case round =>
    obtain ⟨k, rfl, hk, hkb, hS, hE⟩ := hrel
    by_cases hlt : k < a.length
    · obtain ⟨ba, oa, rfl, hca⟩ := HA.out.2 (by omega)
      obtain ⟨-, A', c', h5, -, hv'⟩ := VCells.iff.1 (hca k hlt)
      obtain ⟨d0, d1, d2, d3, d4⟩ := h5.ext hE
      obtain ⟨g, w1, hg, hw1, h6, hx, -⟩ := box_val wr a[k] A' c' 40
      have HW1 := Lib.hid hw1
      have HG := Lib.hid hg
      have HVx := Lib.hid (hv'.ext hE)
      clear hw1 hg hca h5 hv'
      by_cases hltb : k < b.length
      · obtain ⟨bb, ob, rfl, hcb⟩ := HB.out.2 (by omega)
        obtain ⟨-, B', d', h5, -, hv'⟩ := VCells.iff.1 (hcb k hltb)
        obtain ⟨e0, e1, e2, e3, e4⟩ := h5.ext (hE.trans hx)
        obtain ⟨g2, w2, hg2, hw2, h7, hx2, -⟩ := box_val w1 b[k] B' d' 40
        have HW2 := Lib.hid hw2
        have HG2 := Lib.hid hg2
        have HC := Lib.hid (HF.out a[k] (List.getElem_mem hlt) b[k] (List.getElem_mem hltb) A' B' c' d' w2 (HZ.out.ext (hE.trans (hx.trans hx2))) (HVx.out.ext (hx.trans hx2)) (hv'.ext (hE.trans (hx.trans hx2))) (HQ.out.1 _ (List.getElem_mem hlt)) (HQ.out.2 _ (List.getElem_mem hltb)))
        have HD := Lib.hid (show ordL (a.drop k) (b.drop k) = thenC (ordV a[k] b[k]) (ordL (a.drop (k + 1)) (b.drop (k + 1))) by rw [List.drop_eq_getElem_cons hlt, List.drop_eq_getElem_cons hltb, ordL])
        obtain ⟨p0, p1, p2, p3, p4⟩ := h6.ext hx2
        obtain ⟨q0, q1, q2, q3, q4⟩ := h7
        clear hw2 hg2 hcb h5 hv' h6
        generalize a[k] = x at *
        generalize b[k] = y at *
        generalize ordV x y = z at HC HD
        go_upto_region 4 with (fail)
        rw [← HW1.out, ← HG.out]
        clear HW1 HG d0 d1 d2 d3 d4
        go_upto_region 7 with (fail)
        rw [← HW2.out, ← HG2.out]
        clear HW2 HG2 e0 e1 e2 e3 e4
        by_cases hz0 : z = 0
        · have HT := Lib.hid (show R = ordL (a.drop (k + 1)) (b.drop (k + 1)) by rw [hS.out, HD.out, hz0]; rfl)
          subst hz0
          go_wp2_with (go_at_call 90; ((with_reducible refine (HC.out).mono ?_); rintro e w' ⟨rfl, hb⟩; have hb' : Ext w2 w' := hb))
          go_roundw
          case rel => exact ⟨k + 1, by go_num, by omega, by omega, HT, hE.trans (hx.trans (hx2.trans hb'))⟩
          case measure => simp [intOf]; omega
        · have HT := Lib.hid (show R = z by rw [hS.out, HD.out, thenC_ne hz0])
          have hz' : (z != 0) = true := by simpa using hz0
          clear hz0
          go_wp2_with (go_at_call 90; ((with_reducible refine (HC.out).mono ?_); rintro e w' ⟨rfl, hb⟩; have hb' : Ext w2 w' := hb))
          go_ret
          exact ⟨ret_i64 HT.out.symm, hE.trans (hx.trans (hx2.trans hb'))⟩
      · have HT := Lib.hid (show R = 1 by rw [hS.out, List.drop_eq_getElem_cons hlt, List.drop_of_length_le (by omega : b.length ≤ k), ordL])
        have hkb' : b.length ≤ k := by omega
        generalize a[k] = x at *
        go_upto_region 4 with (fail)
        rw [← HW1.out, ← HG.out]
        clear HW1 HG d0 d1 d2 d3 d4 h6
        go_wp2
        go_ret
        exact ⟨ret_i64 HT.out.symm, hE.trans hx⟩
    · have hk' : k = a.length := by omega
      by_cases hl : a.length < b.length
      · have HT := Lib.hid (show R = -1 by rw [hS.out, hk', List.drop_length, List.drop_eq_getElem_cons hl, ordL])
        go_wp2
        go_ret
        exact ⟨ret_i64 HT.out.symm, hE⟩
      · have HT := Lib.hid (show R = 0 by rw [hS.out, hk', List.drop_length, List.drop_of_length_le (by omega), ordL])
        go_wp2
        go_ret
        exact ⟨ret_i64 HT.out.symm, hE⟩
set_option maxRecDepth 100000 in
set_option maxHeartbeats 6400000 in
theorem v_orderStep (a b : Val) (ok ok' : Nat → Prop) (A B : Option Addr) (c d : Nat) (w : World) (hz : ZeroAt w) (ha : Vals w ok A a.l) (hb : Vals w ok' B b.l) (hva : validV a = true) (hvb : validV b = true)
    (ih : ∀ x ∈ a.l, ∀ y ∈ b.l, ∀ (Ax By : Option Addr) (cx dy : Nat) (W : World), ZeroAt W → Vals W ok Ax x.l → Vals W ok' By y.l → validV x = true → validV y = true → Calls Tryz.prog 90 #[.agg #[.int .i64 x.kind, .int .i64 x.n, .int .i64 x.d, .string x.s, .slice Ax x.l.length cx], .agg #[.int .i64 y.kind, .int .i64 y.n, .int .i64 y.d, .string y.s, .slice By y.l.length dy]] W fun e W' => e = .returned (.int .i64 (ordV x y)) ∧ Ext W W') :
    Calls Tryz.prog 90 #[.agg #[.int .i64 a.kind, .int .i64 a.n, .int .i64 a.d, .string a.s, .slice A a.l.length c], .agg #[.int .i64 b.kind, .int .i64 b.n, .int .i64 b.d, .string b.s, .slice B b.l.length d]] w fun e w' => e = .returned (.int .i64 (ordV a b)) ∧ Ext w w' := by
  have HO := Lib.hid (show ordV a b = thenC (Lib.compareInt (cls a.kind) (cls b.kind)) (if cls a.kind = 2 then cmpQ a.n (dnV a.kind a.d) b.n (dnV b.kind b.d) else thenC (cmpT a.s b.s) (thenC (Lib.compareInt a.n b.n) (ordL a.l b.l))) by rw [ordV_eq, if_pos hva, if_pos hvb]; rfl)
  generalize ordV a b = o at HO ⊢
  have HVA := Lib.hid hva
  have HVB := Lib.hid hvb
  have HZ := Lib.hid hz
  have HA := Lib.hid ha
  have HB := Lib.hid hb
  have HCF := Lib.hid (fun W (e : Ext w W) => v_cmpU a.l b.l ok ok' A B c d W (hz.ext e) (ha.ext e) (hb.ext e) ⟨fun x hx => validV_mem hva hx, fun y hy => validV_mem hvb hy⟩ ih)
  have hma := ha.len
  have hmb := hb.len
  clear hva hvb hz ha hb ih
  obtain ⟨g1, g2, w2, hg1, hg2, hw2, h1, h2, hx, -, -, hl1, hl2⟩ := two_vals w a b A B c d 40
  have HG1 := Lib.hid hg1
  have HG2 := Lib.hid hg2
  have HW2 := Lib.hid hw2
  have MK := Lib.hid (fun V (e : Ext w2 V) => (⟨(h1.ext e).1, (h1.ext e).2.1, (h1.ext e).2.2.1, (h1.ext e).2.2.2.1, (h1.ext e).2.2.2.2, (h2.ext e).1, (h2.ext e).2.1, (h2.ext e).2.2.1, (h2.ext e).2.2.2.1, (h2.ext e).2.2.2.2, e⟩ : V.cell? ⟨g1, 0, none⟩ = some (.int .i64 a.kind) ∧ V.cell? ⟨g1, 1, none⟩ = some (.int .i64 a.n) ∧ V.cell? ⟨g1, 2, none⟩ = some (.int .i64 a.d) ∧ V.cell? ⟨g1, 3, none⟩ = some (.string a.s) ∧ V.cell? ⟨g1, 4, none⟩ = some (.slice A a.l.length c) ∧ V.cell? ⟨g2, 0, none⟩ = some (.int .i64 b.kind) ∧ V.cell? ⟨g2, 1, none⟩ = some (.int .i64 b.n) ∧ V.cell? ⟨g2, 2, none⟩ = some (.int .i64 b.d) ∧ V.cell? ⟨g2, 3, none⟩ = some (.string b.s) ∧ V.cell? ⟨g2, 4, none⟩ = some (.slice B b.l.length d) ∧ Ext w2 V))
  clear hg1 hg2 hw2 h1 h2
  replace HCF := Lib.hid (fun W (e : Ext w2 W) => HCF.out W (hx.trans e))
  by_cases hcl : cls a.kind = cls b.kind
  · have hcz : Lib.compareInt (cls a.kind) (cls b.kind) = 0 := (TotC.int.zero _ _).2 hcl
    have hcz' : (Lib.compareInt (cls a.kind) (cls b.kind) != 0) = false := by rw [hcz]; rfl
    by_cases h2 : cls a.kind = 2
    · have HO' := Lib.hid (show o = cmpQ a.n (dnV a.kind a.d) b.n (dnV b.kind b.d) by rw [HO.out, hcz, if_pos h2]; rfl)
      have fa := validV_facts HVA.out
      have fb := validV_facts HVB.out
      have HQ := Lib.hid (cmpS_q (dnV_num fa h2) (dnV_num fb (hcl ▸ h2)))
      have HNA := Lib.hid (fun W (e : Ext w2 W) => v_Number a ok A c W (HA.out.ext (hx.trans e)) HVA.out (cls_two.1 h2))
      have HNB := Lib.hid (fun W (e : Ext w2 W) => v_Number b ok' B d W (HB.out.ext (hx.trans e)) HVB.out (cls_two.1 (hcl ▸ h2)))
      have h2' : (cls a.kind == 2) = true := by rw [h2]; rfl
      clear fa fb hcz hcl h2 HVA HVB HO HCF HA HB
      generalize dnV a.kind a.d = da at *
      generalize dnV b.kind b.d = db at *
      go_enter Tryz.func90, Tryz.ntmps90
      go_upto_region 1 with (fail)
      rw [← HW2.out, ← HG2.out, ← HG1.out]
      clear HW2 HG2 HG1
      go_region_held3 (fun V => V.cell? ⟨g1, 0, none⟩ = some (.int .i64 a.kind) ∧ V.cell? ⟨g1, 1, none⟩ = some (.int .i64 a.n) ∧ V.cell? ⟨g1, 2, none⟩ = some (.int .i64 a.d) ∧ V.cell? ⟨g1, 3, none⟩ = some (.string a.s) ∧ V.cell? ⟨g1, 4, none⟩ = some (.slice A a.l.length c) ∧ V.cell? ⟨g2, 0, none⟩ = some (.int .i64 b.kind) ∧ V.cell? ⟨g2, 1, none⟩ = some (.int .i64 b.n) ∧ V.cell? ⟨g2, 2, none⟩ = some (.int .i64 b.d) ∧ V.cell? ⟨g2, 3, none⟩ = some (.string b.s) ∧ V.cell? ⟨g2, 4, none⟩ = some (.slice B b.l.length d) ∧ Ext w2 V) ((exact MK.out _ (by repeat (first | with_reducible exact Ext.refl _ | with_reducible assumption | with_reducible refine Ext.drew ?_ | with_reducible refine Ext.drewN ?_ _ | with_reducible refine Ext.alloc ?_ _)))) ((first | (go_at_call 105; refine (v_class _ _ _ _).mono ?_; rintro e w' ⟨rfl, hb⟩; replace hb : Ext w2 w' := Ext.trans (by repeat (first | with_reducible exact Ext.refl _ | with_reducible assumption | with_reducible refine Ext.drew ?_ | with_reducible refine Ext.drewN ?_ _ | with_reducible refine Ext.alloc ?_ _)) hb) | (go_at_call 92; refine (c_cmp_int _ _ _).mono ?_; rintro e w' ⟨rfl, rfl⟩)))
      obtain ⟨a0, a1, a2, a3, a4, b0, b1, b2, b3, b4, hEw⟩ := ‹_ ∧ _›
      go_wp2_with fail
      refine (v_class a A c _).mono ?_
      rintro e w5 ⟨rfl, h5⟩
      have hE5 : Ext w2 w5 := Ext.trans (by repeat (first | with_reducible exact Ext.refl _ | with_reducible assumption | with_reducible refine Ext.drew ?_ | with_reducible refine Ext.drewN ?_ _ | with_reducible refine Ext.alloc ?_ _)) h5
      clear a0 a1 a2 a3 a4 b0 b1 b2 b3 b4 hEw h5
      obtain ⟨a0, a1, a2, a3, a4, b0, b1, b2, b3, b4, -⟩ := MK.out w5 (hE5)
      go_wp2_with fail
      refine (HNA.out w5 hE5).mono ?_
      rintro e w6 ⟨rfl, h6⟩
      have hE6 : Ext w2 w6 := Ext.trans hE5 h6
      obtain ⟨g6, w7, hg6, hw7, p0, p1, h7, -⟩ := box2 w6 a.n da 94
      have hE7 := hE6.trans h7
      have HG6 := Lib.hid hg6
      have HW7 := Lib.hid hw7
      clear a0 a1 a2 a3 a4 b0 b1 b2 b3 b4 h6 hg6 hw7 h7 hE5
      obtain ⟨a0, a1, a2, a3, a4, b0, b1, b2, b3, b4, -⟩ := MK.out w7 (hE7)
      go_upto_region 6 with (fail)
      rw [← HW7.out, ← HG6.out]
      clear HW7 HG6
      go_wp2_with fail
      refine (HNB.out w7 hE7).mono ?_
      rintro e w8 ⟨rfl, h8⟩
      obtain ⟨g8, w9, hg8, hw9, q0, q1, h9, -⟩ := box2 w8 b.n db 94
      replace p0 := (h8.trans h9).cell p0
      replace p1 := (h8.trans h9).cell p1
      have hE9 := hE7.trans (h8.trans h9)
      have HG8 := Lib.hid hg8
      have HW9 := Lib.hid hw9
      clear a0 a1 a2 a3 a4 b0 b1 b2 b3 b4 hg8 hw9 h8 h9 hE6 hE7
      go_upto_region 7 with (fail)
      rw [← HW9.out, ← HG8.out]
      clear HW9 HG8
      go_wp2_with fail
      refine (frac_Cmp _ _ _ _ _ (HZ.out.ext (hx.trans hE9))).mono ?_
      rintro e w10 ⟨rfl, h10⟩
      have h10' : Ext w9 w10 := h10
      go_wp2
      go_ret
      exact ⟨ret_i64 (HQ.out.trans HO'.out.symm), hx.trans (hE9.trans h10')⟩
    · have HO' := Lib.hid (show o = orL [cmpT a.s b.s, Lib.compareInt a.n b.n, ordL a.l b.l] by rw [HO.out, hcz, if_neg h2]; unfold orL orL orL orL; rw [thenC_0]; rfl)
      have h2' : (cls a.kind == 2) = false := by simpa using h2
      clear hcz hcl h2 HVA HVB HO HA HB HZ
      go_enter Tryz.func90, Tryz.ntmps90
      go_upto_region 1 with (fail)
      rw [← HW2.out, ← HG2.out, ← HG1.out]
      clear HW2 HG2 HG1
      go_region_held3 (fun V => V.cell? ⟨g1, 0, none⟩ = some (.int .i64 a.kind) ∧ V.cell? ⟨g1, 1, none⟩ = some (.int .i64 a.n) ∧ V.cell? ⟨g1, 2, none⟩ = some (.int .i64 a.d) ∧ V.cell? ⟨g1, 3, none⟩ = some (.string a.s) ∧ V.cell? ⟨g1, 4, none⟩ = some (.slice A a.l.length c) ∧ V.cell? ⟨g2, 0, none⟩ = some (.int .i64 b.kind) ∧ V.cell? ⟨g2, 1, none⟩ = some (.int .i64 b.n) ∧ V.cell? ⟨g2, 2, none⟩ = some (.int .i64 b.d) ∧ V.cell? ⟨g2, 3, none⟩ = some (.string b.s) ∧ V.cell? ⟨g2, 4, none⟩ = some (.slice B b.l.length d) ∧ Ext w2 V) ((exact MK.out _ (by repeat (first | with_reducible exact Ext.refl _ | with_reducible assumption | with_reducible refine Ext.drew ?_ | with_reducible refine Ext.drewN ?_ _ | with_reducible refine Ext.alloc ?_ _)))) ((first | (go_at_call 105; refine (v_class _ _ _ _).mono ?_; rintro e w' ⟨rfl, hb⟩; replace hb : Ext w2 w' := Ext.trans (by repeat (first | with_reducible exact Ext.refl _ | with_reducible assumption | with_reducible refine Ext.drew ?_ | with_reducible refine Ext.drewN ?_ _ | with_reducible refine Ext.alloc ?_ _)) hb) | (go_at_call 92; refine (c_cmp_int _ _ _).mono ?_; rintro e w' ⟨rfl, rfl⟩)))
      obtain ⟨a0, a1, a2, a3, a4, b0, b1, b2, b3, b4, hEw⟩ := ‹_ ∧ _›
      go_wp2_with fail
      refine (v_class a A c _).mono ?_
      rintro e w5 ⟨rfl, h5⟩
      have hE5 : Ext w2 w5 := Ext.trans (by repeat (first | with_reducible exact Ext.refl _ | with_reducible assumption | with_reducible refine Ext.drew ?_ | with_reducible refine Ext.drewN ?_ _ | with_reducible refine Ext.alloc ?_ _)) h5
      clear a0 a1 a2 a3 a4 b0 b1 b2 b3 b4 hEw h5
      go_wp2_with fail
      go_region_held3 (fun V => V.cell? ⟨g1, 0, none⟩ = some (.int .i64 a.kind) ∧ V.cell? ⟨g1, 1, none⟩ = some (.int .i64 a.n) ∧ V.cell? ⟨g1, 2, none⟩ = some (.int .i64 a.d) ∧ V.cell? ⟨g1, 3, none⟩ = some (.string a.s) ∧ V.cell? ⟨g1, 4, none⟩ = some (.slice A a.l.length c) ∧ V.cell? ⟨g2, 0, none⟩ = some (.int .i64 b.kind) ∧ V.cell? ⟨g2, 1, none⟩ = some (.int .i64 b.n) ∧ V.cell? ⟨g2, 2, none⟩ = some (.int .i64 b.d) ∧ V.cell? ⟨g2, 3, none⟩ = some (.string b.s) ∧ V.cell? ⟨g2, 4, none⟩ = some (.slice B b.l.length d) ∧ Ext w2 V) ((exact MK.out _ (by repeat (first | with_reducible exact Ext.refl _ | with_reducible assumption | with_reducible refine Ext.drew ?_ | with_reducible refine Ext.drewN ?_ _ | with_reducible refine Ext.alloc ?_ _)))) ((first | (go_at_call 92; refine (c_cmp_int _ _ _).mono ?_; rintro e w' ⟨rfl, rfl⟩) | (go_at_call 93; refine (c_cmp_str _ _ _).mono ?_; rintro e w' ⟨rfl, rfl⟩) | (go_at_call 94; refine (HCF.out _ (by repeat (first | with_reducible exact Ext.refl _ | with_reducible assumption | with_reducible refine Ext.drew ?_ | with_reducible refine Ext.drewN ?_ _ | with_reducible refine Ext.alloc ?_ _))).mono ?_; rintro e w' ⟨rfl, hb⟩; replace hb : Ext w2 w' := Ext.trans (by repeat (first | with_reducible exact Ext.refl _ | with_reducible assumption | with_reducible refine Ext.drew ?_ | with_reducible refine Ext.drewN ?_ _ | with_reducible refine Ext.alloc ?_ _)) hb) | (go_at_call 91; refine Calls.mono (c_or_int _ [cmpT a.s b.s, Lib.compareInt a.n b.n, ordL a.l b.l] _ (by simp) ?hcs) ?_; (case hcs => (intro j hj; have hj6 : j = 0 ∨ j = 1 ∨ j = 2 := (by simp at hj; omega); rcases hj6 with rfl | rfl | rfl <;> (go_simp; done))); rintro e w' ⟨rfl, rfl⟩)))
      all_goals
        clear ‹_ ∧ _›
        go_wp2
        go_ret
        exact ⟨ret_i64 HO'.out.symm, hx.trans (by repeat (first | with_reducible exact Ext.refl _ | with_reducible assumption | with_reducible refine Ext.drew ?_ | with_reducible refine Ext.drewN ?_ _ | with_reducible refine Ext.alloc ?_ _))⟩
  · have hcz : Lib.compareInt (cls a.kind) (cls b.kind) ≠ 0 := fun h => hcl ((TotC.int.zero _ _).1 h)
    have HO' := Lib.hid (show o = Lib.compareInt (cls a.kind) (cls b.kind) by rw [HO.out, thenC_ne hcz])
    have hcz' : (Lib.compareInt (cls a.kind) (cls b.kind) != 0) = true := by simpa using hcz
    clear hcz hcl HO HCF
    go_enter Tryz.func90, Tryz.ntmps90
    go_upto_region 1 with (fail)
    rw [← HW2.out, ← HG2.out, ← HG1.out]
    clear HW2 HG2 HG1
    go_region_held3 (fun V => V.cell? ⟨g1, 0, none⟩ = some (.int .i64 a.kind) ∧ V.cell? ⟨g1, 1, none⟩ = some (.int .i64 a.n) ∧ V.cell? ⟨g1, 2, none⟩ = some (.int .i64 a.d) ∧ V.cell? ⟨g1, 3, none⟩ = some (.string a.s) ∧ V.cell? ⟨g1, 4, none⟩ = some (.slice A a.l.length c) ∧ V.cell? ⟨g2, 0, none⟩ = some (.int .i64 b.kind) ∧ V.cell? ⟨g2, 1, none⟩ = some (.int .i64 b.n) ∧ V.cell? ⟨g2, 2, none⟩ = some (.int .i64 b.d) ∧ V.cell? ⟨g2, 3, none⟩ = some (.string b.s) ∧ V.cell? ⟨g2, 4, none⟩ = some (.slice B b.l.length d) ∧ Ext w2 V) ((exact MK.out _ (by repeat (first | with_reducible exact Ext.refl _ | with_reducible assumption | with_reducible refine Ext.drew ?_ | with_reducible refine Ext.drewN ?_ _ | with_reducible refine Ext.alloc ?_ _)))) ((first | (go_at_call 105; refine (v_class _ _ _ _).mono ?_; rintro e w' ⟨rfl, hb⟩; replace hb : Ext w2 w' := Ext.trans (by repeat (first | with_reducible exact Ext.refl _ | with_reducible assumption | with_reducible refine Ext.drew ?_ | with_reducible refine Ext.drewN ?_ _ | with_reducible refine Ext.alloc ?_ _)) hb) | (go_at_call 92; refine (c_cmp_int _ _ _).mono ?_; rintro e w' ⟨rfl, rfl⟩)))
    all_goals
      go_wp2
      go_ret
      exact ⟨ret_i64 HO'.out.symm, hx.trans (by repeat (first | with_reducible exact Ext.refl _ | with_reducible assumption | with_reducible refine Ext.drew ?_ | with_reducible refine Ext.drewN ?_ _ | with_reducible refine Ext.alloc ?_ _))⟩
end Go.Proofs.YtbjddimafilflaaGreatDoor

/- THE WALKS over value.order, whole, value.Order and value.OrderRows. -/
namespace Go.Proofs.YtbjddimafilflaaGreatDoor
open Go.RowKit
theorem wt_kid {x a : Val} {N : Nat} (h : x ∈ a.l) (hN : wtV a ≤ N + 1) : wtV x ≤ N := by
  have := wtL_mem h
  unfold wtV at hN ⊢
  unfold wtV at this
  omega
theorem v_order : ∀ (N : Nat) (a b : Val) (ok ok' : Nat → Prop) (A B : Option Addr) (c d : Nat) (w : World), wtV a ≤ N → ZeroAt w → Vals w ok A a.l → Vals w ok' B b.l → validV a = true → validV b = true →
    Calls Tryz.prog 90 #[.agg #[.int .i64 a.kind, .int .i64 a.n, .int .i64 a.d, .string a.s, .slice A a.l.length c], .agg #[.int .i64 b.kind, .int .i64 b.n, .int .i64 b.d, .string b.s, .slice B b.l.length d]] w fun e w' => e = .returned (.int .i64 (ordV a b)) ∧ Ext w w'
  | 0, a, b, ok, ok', A, B, c, d, w, hN, _, _, _, _, _ => by unfold wtV at hN; omega
  | N + 1, a, b, ok, ok', A, B, c, d, w, hN, hz, ha, hb, hva, hvb =>
    v_orderStep a b ok ok' A B c d w hz ha hb hva hvb (fun x hx y _ Ax By cx dy W hzW hx' hy' h1 h2 => v_order N x y ok ok' Ax By cx dy W (wt_kid hx hN) hzW hx' hy' h1 h2)
set_option maxRecDepth 100000 in
set_option maxHeartbeats 3200000 in
theorem v_cmpV (a b : List Val) (ok ok' : Nat → Prop) (A B : Option Addr) (c d : Nat) (w : World) (hz : ZeroAt w) (ha : Vals w ok A a) (hb : Vals w ok' B b) 
    (hf : ∀ x ∈ a, ∀ y ∈ b, ∀ (Ax By : Option Addr) (cx dy : Nat) (W : World), ZeroAt W → Vals W ok Ax x.l → Vals W ok' By y.l → Calls Tryz.prog 72 #[.agg #[.int .i64 x.kind, .int .i64 x.n, .int .i64 x.d, .string x.s, .slice Ax x.l.length cx], .agg #[.int .i64 y.kind, .int .i64 y.n, .int .i64 y.d, .string y.s, .slice By y.l.length dy]] W fun e W' => e = .returned (.int .i64 (ordV x y)) ∧ Ext W W') :
    Calls Tryz.prog 94 #[.slice A a.length c, .slice B b.length d, .func (.func 72) #[] #[]] w fun e w' => e = .returned (.int .i64 (ordL a b)) ∧ Ext w w' := by
  have hma := ha.len
  have hmb := hb.len
  have HZ := Lib.hid hz
  have HA := Lib.hid ha
  have HB := Lib.hid hb
  have HF := Lib.hid hf

  obtain ⟨R, hR⟩ : ∃ R, R = ordL a b := ⟨_, rfl⟩
  rw [← hR]
  have HR := Lib.hid (show R = ordL (a.drop 0) (b.drop 0) from hR)
  clear hz ha hb hf hR 
  go_enter Tryz.func94, Tryz.ntmps94
  go_wp2
  go_loopw [13] (fun u W => ∃ k : Nat, u = .int .i64 k ∧ k ≤ a.length ∧ k ≤ b.length ∧ Hid (R = ordL (a.drop k) (b.drop k)) ∧ Ext w W) (fun u _ => a.length - (intOf u).toNat)
  case atStart => exact ⟨0, rfl, Nat.zero_le _, Nat.zero_le _, HR, Ext.refl _⟩
  case round =>
    obtain ⟨k, rfl, hk, hkb, hS, hE⟩ := hrel
    by_cases hlt : k < a.length
    · obtain ⟨ba, oa, rfl, hca⟩ := HA.out.2 (by omega)
      obtain ⟨-, A', c', h5, -, hv'⟩ := VCells.iff.1 (hca k hlt)
      obtain ⟨d0, d1, d2, d3, d4⟩ := h5.ext hE
      obtain ⟨g, w1, hg, hw1, h6, hx, -⟩ := box_val wr a[k] A' c' 40
      have HW1 := Lib.hid hw1
      have HG := Lib.hid hg
      have HVx := Lib.hid (hv'.ext hE)
      clear hw1 hg hca h5 hv'
      by_cases hltb : k < b.length
      · obtain ⟨bb, ob, rfl, hcb⟩ := HB.out.2 (by omega)
        obtain ⟨-, B', d', h5, -, hv'⟩ := VCells.iff.1 (hcb k hltb)
        obtain ⟨e0, e1, e2, e3, e4⟩ := h5.ext (hE.trans hx)
        obtain ⟨g2, w2, hg2, hw2, h7, hx2, -⟩ := box_val w1 b[k] B' d' 40
        have HW2 := Lib.hid hw2
        have HG2 := Lib.hid hg2
        have HC := Lib.hid (HF.out a[k] (List.getElem_mem hlt) b[k] (List.getElem_mem hltb) A' B' c' d' w2 (HZ.out.ext (hE.trans (hx.trans hx2))) (HVx.out.ext (hx.trans hx2)) (hv'.ext (hE.trans (hx.trans hx2))))
        have HD := Lib.hid (show ordL (a.drop k) (b.drop k) = thenC (ordV a[k] b[k]) (ordL (a.drop (k + 1)) (b.drop (k + 1))) by rw [List.drop_eq_getElem_cons hlt, List.drop_eq_getElem_cons hltb, ordL])
        obtain ⟨p0, p1, p2, p3, p4⟩ := h6.ext hx2
        obtain ⟨q0, q1, q2, q3, q4⟩ := h7
        clear hw2 hg2 hcb h5 hv' h6
        generalize a[k] = x at *
        generalize b[k] = y at *
        generalize ordV x y = z at HC HD
        go_upto_region 4 with (fail)
        rw [← HW1.out, ← HG.out]
        clear HW1 HG d0 d1 d2 d3 d4
        go_upto_region 7 with (fail)
        rw [← HW2.out, ← HG2.out]
        clear HW2 HG2 e0 e1 e2 e3 e4
        by_cases hz0 : z = 0
        · have HT := Lib.hid (show R = ordL (a.drop (k + 1)) (b.drop (k + 1)) by rw [hS.out, HD.out, hz0]; rfl)
          subst hz0
          go_wp2_with (go_at_call 72; ((with_reducible refine (HC.out).mono ?_); rintro e w' ⟨rfl, hb⟩; have hb' : Ext w2 w' := hb))
          go_roundw
          case rel => exact ⟨k + 1, by go_num, by omega, by omega, HT, hE.trans (hx.trans (hx2.trans hb'))⟩
          case measure => simp [intOf]; omega
        · have HT := Lib.hid (show R = z by rw [hS.out, HD.out, thenC_ne hz0])
          have hz' : (z != 0) = true := by simpa using hz0
          clear hz0
          go_wp2_with (go_at_call 72; ((with_reducible refine (HC.out).mono ?_); rintro e w' ⟨rfl, hb⟩; have hb' : Ext w2 w' := hb))
          go_ret
          exact ⟨ret_i64 HT.out.symm, hE.trans (hx.trans (hx2.trans hb'))⟩
      · have HT := Lib.hid (show R = 1 by rw [hS.out, List.drop_eq_getElem_cons hlt, List.drop_of_length_le (by omega : b.length ≤ k), ordL])
        have hkb' : b.length ≤ k := by omega
        generalize a[k] = x at *
        go_upto_region 4 with (fail)
        rw [← HW1.out, ← HG.out]
        clear HW1 HG d0 d1 d2 d3 d4 h6
        go_wp2
        go_ret
        exact ⟨ret_i64 HT.out.symm, hE.trans hx⟩
    · have hk' : k = a.length := by omega
      by_cases hl : a.length < b.length
      · have HT := Lib.hid (show R = -1 by rw [hS.out, hk', List.drop_length, List.drop_eq_getElem_cons hl, ordL])
        go_wp2
        go_ret
        exact ⟨ret_i64 HT.out.symm, hE⟩
      · have HT := Lib.hid (show R = 0 by rw [hS.out, hk', List.drop_length, List.drop_of_length_le (by omega), ordL])
        go_wp2
        go_ret
        exact ⟨ret_i64 HT.out.symm, hE⟩
set_option maxRecDepth 100000 in
set_option maxHeartbeats 6400000 in
theorem v_OrderStep (a b : Val) (ok ok' : Nat → Prop) (A B : Option Addr) (c d : Nat) (w : World) (hz : ZeroAt w) (ha : Vals w ok A a.l) (hb : Vals w ok' B b.l) (ih : ∀ x ∈ a.l, ∀ y ∈ b.l, ∀ (Ax By : Option Addr) (cx dy : Nat) (W : World), ZeroAt W → Vals W ok Ax x.l → Vals W ok' By y.l → Calls Tryz.prog 72 #[.agg #[.int .i64 x.kind, .int .i64 x.n, .int .i64 x.d, .string x.s, .slice Ax x.l.length cx], .agg #[.int .i64 y.kind, .int .i64 y.n, .int .i64 y.d, .string y.s, .slice By y.l.length dy]] W fun e W' => e = .returned (.int .i64 (ordV x y)) ∧ Ext W W') :
    Calls Tryz.prog 72 #[.agg #[.int .i64 a.kind, .int .i64 a.n, .int .i64 a.d, .string a.s, .slice A a.l.length c], .agg #[.int .i64 b.kind, .int .i64 b.n, .int .i64 b.d, .string b.s, .slice B b.l.length d]] w fun e w' => e = .returned (.int .i64 (ordV a b)) ∧ Ext w w' := by
  have HO := Lib.hid (ordV_eq a b)
  have HU := Lib.hid (fun W (e : Ext w W) h1 h2 => v_order (wtV a) a b ok ok' A B c d W (Nat.le_refl _) (hz.ext e) (ha.ext e) (hb.ext e) h1 h2)
  have HVa := Lib.hid (fun W (e : Ext w W) => v_Valid a ok A c W (ha.ext e))
  have HVb := Lib.hid (fun W (e : Ext w W) => v_Valid b ok' B d W (hb.ext e))
  have HCF := Lib.hid (fun W (e : Ext w W) => v_cmpV a.l b.l ok ok' A B c d W (hz.ext e) (ha.ext e) (hb.ext e) ih)
  have hma := ha.len
  have hmb := hb.len
  clear hz ha hb ih
  obtain ⟨g1, g2, w2, hg1, hg2, hw2, h1, h2, hx, -, -, hl1, hl2⟩ := two_vals w a b A B c d 40
  have HG1 := Lib.hid hg1
  have HG2 := Lib.hid hg2
  have HW2 := Lib.hid hw2
  have MK := Lib.hid (fun V (e : Ext w2 V) => (⟨(h1.ext e).1, (h1.ext e).2.1, (h1.ext e).2.2.1, (h1.ext e).2.2.2.1, (h1.ext e).2.2.2.2, (h2.ext e).1, (h2.ext e).2.1, (h2.ext e).2.2.1, (h2.ext e).2.2.2.1, (h2.ext e).2.2.2.2, e⟩ : V.cell? ⟨g1, 0, none⟩ = some (.int .i64 a.kind) ∧ V.cell? ⟨g1, 1, none⟩ = some (.int .i64 a.n) ∧ V.cell? ⟨g1, 2, none⟩ = some (.int .i64 a.d) ∧ V.cell? ⟨g1, 3, none⟩ = some (.string a.s) ∧ V.cell? ⟨g1, 4, none⟩ = some (.slice A a.l.length c) ∧ V.cell? ⟨g2, 0, none⟩ = some (.int .i64 b.kind) ∧ V.cell? ⟨g2, 1, none⟩ = some (.int .i64 b.n) ∧ V.cell? ⟨g2, 2, none⟩ = some (.int .i64 b.d) ∧ V.cell? ⟨g2, 3, none⟩ = some (.string b.s) ∧ V.cell? ⟨g2, 4, none⟩ = some (.slice B b.l.length d) ∧ Ext w2 V))
  clear hg1 hg2 hw2 h1 h2
  replace HCF := Lib.hid (fun W (e : Ext w2 W) => HCF.out W (hx.trans e))
  replace HVa := Lib.hid (fun W (e : Ext w2 W) => HVa.out W (hx.trans e))
  replace HVb := Lib.hid (fun W (e : Ext w2 W) => HVb.out W (hx.trans e))
  replace HU := Lib.hid (fun W (e : Ext w2 W) => HU.out W (hx.trans e))
  generalize validV a = p at *
  generalize validV b = q at *
  cases p
  · cases q
    · have HO' := Lib.hid (show ordV a b = orL [Lib.compareInt a.kind b.kind, Lib.compareInt a.n b.n, Lib.compareInt a.d b.d, cmpT a.s b.s, ordL a.l b.l] by rw [HO.out, if_neg (by simp), if_neg (by simp)]; unfold ordI orL orL orL orL orL orL; rw [thenC_0])
      generalize ordV a b = o at HO' HU ⊢
      clear HU HO
      go_enter Tryz.func72, Tryz.ntmps72
      go_upto_region 1 with (fail)
      rw [← HW2.out, ← HG2.out, ← HG1.out]
      clear HW2 HG2 HG1
      go_region_held3 (fun V => V.cell? ⟨g1, 0, none⟩ = some (.int .i64 a.kind) ∧ V.cell? ⟨g1, 1, none⟩ = some (.int .i64 a.n) ∧ V.cell? ⟨g1, 2, none⟩ = some (.int .i64 a.d) ∧ V.cell? ⟨g1, 3, none⟩ = some (.string a.s) ∧ V.cell? ⟨g1, 4, none⟩ = some (.slice A a.l.length c) ∧ V.cell? ⟨g2, 0, none⟩ = some (.int .i64 b.kind) ∧ V.cell? ⟨g2, 1, none⟩ = some (.int .i64 b.n) ∧ V.cell? ⟨g2, 2, none⟩ = some (.int .i64 b.d) ∧ V.cell? ⟨g2, 3, none⟩ = some (.string b.s) ∧ V.cell? ⟨g2, 4, none⟩ = some (.slice B b.l.length d) ∧ Ext w2 V) ((exact MK.out _ (by repeat (first | with_reducible exact Ext.refl _ | with_reducible assumption | with_reducible refine Ext.drew ?_ | with_reducible refine Ext.drewN ?_ _ | with_reducible refine Ext.alloc ?_ _)))) ((go_at_call 89; (first | refine (HVa.out _ (by repeat (first | with_reducible exact Ext.refl _ | with_reducible assumption | with_reducible refine Ext.drew ?_ | with_reducible refine Ext.drewN ?_ _ | with_reducible refine Ext.alloc ?_ _))).mono ?_ | refine (HVb.out _ (by repeat (first | with_reducible exact Ext.refl _ | with_reducible assumption | with_reducible refine Ext.drew ?_ | with_reducible refine Ext.drewN ?_ _ | with_reducible refine Ext.alloc ?_ _))).mono ?_); rintro e w' ⟨rfl, hb⟩; replace hb : Ext w2 w' := Ext.trans (by repeat (first | with_reducible exact Ext.refl _ | with_reducible assumption | with_reducible refine Ext.drew ?_ | with_reducible refine Ext.drewN ?_ _ | with_reducible refine Ext.alloc ?_ _)) hb))
      obtain ⟨a0, a1, a2, a3, a4, b0, b1, b2, b3, b4, hEw⟩ := ‹_ ∧ _›
      go_wp2_with fail
      clear a0 a1 a2 a3 a4 b0 b1 b2 b3 b4
      go_region_held3 (fun V => V.cell? ⟨g1, 0, none⟩ = some (.int .i64 a.kind) ∧ V.cell? ⟨g1, 1, none⟩ = some (.int .i64 a.n) ∧ V.cell? ⟨g1, 2, none⟩ = some (.int .i64 a.d) ∧ V.cell? ⟨g1, 3, none⟩ = some (.string a.s) ∧ V.cell? ⟨g1, 4, none⟩ = some (.slice A a.l.length c) ∧ V.cell? ⟨g2, 0, none⟩ = some (.int .i64 b.kind) ∧ V.cell? ⟨g2, 1, none⟩ = some (.int .i64 b.n) ∧ V.cell? ⟨g2, 2, none⟩ = some (.int .i64 b.d) ∧ V.cell? ⟨g2, 3, none⟩ = some (.string b.s) ∧ V.cell? ⟨g2, 4, none⟩ = some (.slice B b.l.length d) ∧ Ext w2 V) ((exact MK.out _ (by repeat (first | with_reducible exact Ext.refl _ | with_reducible assumption | with_reducible refine Ext.drew ?_ | with_reducible refine Ext.drewN ?_ _ | with_reducible refine Ext.alloc ?_ _)))) ((first | (go_at_call 92; refine (c_cmp_int _ _ _).mono ?_; rintro e w' ⟨rfl, rfl⟩) | (go_at_call 93; refine (c_cmp_str _ _ _).mono ?_; rintro e w' ⟨rfl, rfl⟩) | (go_at_call 94; refine (HCF.out _ (by repeat (first | with_reducible exact Ext.refl _ | with_reducible assumption | with_reducible refine Ext.drew ?_ | with_reducible refine Ext.drewN ?_ _ | with_reducible refine Ext.alloc ?_ _))).mono ?_; rintro e w' ⟨rfl, hb⟩; replace hb : Ext w2 w' := Ext.trans (by repeat (first | with_reducible exact Ext.refl _ | with_reducible assumption | with_reducible refine Ext.drew ?_ | with_reducible refine Ext.drewN ?_ _ | with_reducible refine Ext.alloc ?_ _)) hb) | (go_at_call 91; refine Calls.mono (c_or_int _ [Lib.compareInt a.kind b.kind, Lib.compareInt a.n b.n, Lib.compareInt a.d b.d, cmpT a.s b.s, ordL a.l b.l] _ (by simp) ?hcs) ?_; (case hcs => (intro j hj; have hj6 : j = 0 ∨ j = 1 ∨ j = 2 ∨ j = 3 ∨ j = 4 := (by simp at hj; omega); rcases hj6 with rfl | rfl | rfl | rfl | rfl <;> (go_simp; done))); rintro e w' ⟨rfl, rfl⟩)))
      all_goals
        clear ‹_ ∧ _›
        go_wp2
        go_ret
        exact ⟨ret_i64 HO'.out.symm, hx.trans (by repeat (first | with_reducible exact Ext.refl _ | with_reducible assumption | with_reducible refine Ext.drew ?_ | with_reducible refine Ext.drewN ?_ _ | with_reducible refine Ext.alloc ?_ _))⟩
    · have HO' := Lib.hid (show ordV a b = 1 by rw [HO.out, if_neg (by simp), if_pos rfl])
      clear HO HU HCF
      rw [HO'.out]
      go_enter Tryz.func72, Tryz.ntmps72
      go_upto_region 1 with (fail)
      rw [← HW2.out, ← HG2.out, ← HG1.out]
      clear HW2 HG2 HG1
      go_region_held3 (fun V => V.cell? ⟨g1, 0, none⟩ = some (.int .i64 a.kind) ∧ V.cell? ⟨g1, 1, none⟩ = some (.int .i64 a.n) ∧ V.cell? ⟨g1, 2, none⟩ = some (.int .i64 a.d) ∧ V.cell? ⟨g1, 3, none⟩ = some (.string a.s) ∧ V.cell? ⟨g1, 4, none⟩ = some (.slice A a.l.length c) ∧ V.cell? ⟨g2, 0, none⟩ = some (.int .i64 b.kind) ∧ V.cell? ⟨g2, 1, none⟩ = some (.int .i64 b.n) ∧ V.cell? ⟨g2, 2, none⟩ = some (.int .i64 b.d) ∧ V.cell? ⟨g2, 3, none⟩ = some (.string b.s) ∧ V.cell? ⟨g2, 4, none⟩ = some (.slice B b.l.length d) ∧ Ext w2 V) ((exact MK.out _ (by repeat (first | with_reducible exact Ext.refl _ | with_reducible assumption | with_reducible refine Ext.drew ?_ | with_reducible refine Ext.drewN ?_ _ | with_reducible refine Ext.alloc ?_ _)))) ((go_at_call 89; (first | refine (HVa.out _ (by repeat (first | with_reducible exact Ext.refl _ | with_reducible assumption | with_reducible refine Ext.drew ?_ | with_reducible refine Ext.drewN ?_ _ | with_reducible refine Ext.alloc ?_ _))).mono ?_ | refine (HVb.out _ (by repeat (first | with_reducible exact Ext.refl _ | with_reducible assumption | with_reducible refine Ext.drew ?_ | with_reducible refine Ext.drewN ?_ _ | with_reducible refine Ext.alloc ?_ _))).mono ?_); rintro e w' ⟨rfl, hb⟩; replace hb : Ext w2 w' := Ext.trans (by repeat (first | with_reducible exact Ext.refl _ | with_reducible assumption | with_reducible refine Ext.drew ?_ | with_reducible refine Ext.drewN ?_ _ | with_reducible refine Ext.alloc ?_ _)) hb))
      all_goals
        clear ‹_ ∧ _›
        go_wp2_with fail
        go_ret
        exact ⟨rfl, hx.trans (by repeat (first | with_reducible exact Ext.refl _ | with_reducible assumption | with_reducible refine Ext.drew ?_ | with_reducible refine Ext.drewN ?_ _ | with_reducible refine Ext.alloc ?_ _))⟩
  · cases q
    · have HO' := Lib.hid (show ordV a b = -1 by rw [HO.out, if_pos rfl, if_neg (by simp)])
      clear HO HU HCF
      rw [HO'.out]
      go_enter Tryz.func72, Tryz.ntmps72
      go_upto_region 1 with (fail)
      rw [← HW2.out, ← HG2.out, ← HG1.out]
      clear HW2 HG2 HG1
      go_region_held3 (fun V => V.cell? ⟨g1, 0, none⟩ = some (.int .i64 a.kind) ∧ V.cell? ⟨g1, 1, none⟩ = some (.int .i64 a.n) ∧ V.cell? ⟨g1, 2, none⟩ = some (.int .i64 a.d) ∧ V.cell? ⟨g1, 3, none⟩ = some (.string a.s) ∧ V.cell? ⟨g1, 4, none⟩ = some (.slice A a.l.length c) ∧ V.cell? ⟨g2, 0, none⟩ = some (.int .i64 b.kind) ∧ V.cell? ⟨g2, 1, none⟩ = some (.int .i64 b.n) ∧ V.cell? ⟨g2, 2, none⟩ = some (.int .i64 b.d) ∧ V.cell? ⟨g2, 3, none⟩ = some (.string b.s) ∧ V.cell? ⟨g2, 4, none⟩ = some (.slice B b.l.length d) ∧ Ext w2 V) ((exact MK.out _ (by repeat (first | with_reducible exact Ext.refl _ | with_reducible assumption | with_reducible refine Ext.drew ?_ | with_reducible refine Ext.drewN ?_ _ | with_reducible refine Ext.alloc ?_ _)))) ((go_at_call 89; (first | refine (HVa.out _ (by repeat (first | with_reducible exact Ext.refl _ | with_reducible assumption | with_reducible refine Ext.drew ?_ | with_reducible refine Ext.drewN ?_ _ | with_reducible refine Ext.alloc ?_ _))).mono ?_ | refine (HVb.out _ (by repeat (first | with_reducible exact Ext.refl _ | with_reducible assumption | with_reducible refine Ext.drew ?_ | with_reducible refine Ext.drewN ?_ _ | with_reducible refine Ext.alloc ?_ _))).mono ?_); rintro e w' ⟨rfl, hb⟩; replace hb : Ext w2 w' := Ext.trans (by repeat (first | with_reducible exact Ext.refl _ | with_reducible assumption | with_reducible refine Ext.drew ?_ | with_reducible refine Ext.drewN ?_ _ | with_reducible refine Ext.alloc ?_ _)) hb))
      all_goals
        clear ‹_ ∧ _›
        go_wp2_with fail
        go_ret
        exact ⟨rfl, hx.trans (by repeat (first | with_reducible exact Ext.refl _ | with_reducible assumption | with_reducible refine Ext.drew ?_ | with_reducible refine Ext.drewN ?_ _ | with_reducible refine Ext.alloc ?_ _))⟩
    · clear HO HCF
      go_enter Tryz.func72, Tryz.ntmps72
      go_upto_region 1 with (fail)
      rw [← HW2.out, ← HG2.out, ← HG1.out]
      clear HW2 HG2 HG1
      go_region_held3 (fun V => V.cell? ⟨g1, 0, none⟩ = some (.int .i64 a.kind) ∧ V.cell? ⟨g1, 1, none⟩ = some (.int .i64 a.n) ∧ V.cell? ⟨g1, 2, none⟩ = some (.int .i64 a.d) ∧ V.cell? ⟨g1, 3, none⟩ = some (.string a.s) ∧ V.cell? ⟨g1, 4, none⟩ = some (.slice A a.l.length c) ∧ V.cell? ⟨g2, 0, none⟩ = some (.int .i64 b.kind) ∧ V.cell? ⟨g2, 1, none⟩ = some (.int .i64 b.n) ∧ V.cell? ⟨g2, 2, none⟩ = some (.int .i64 b.d) ∧ V.cell? ⟨g2, 3, none⟩ = some (.string b.s) ∧ V.cell? ⟨g2, 4, none⟩ = some (.slice B b.l.length d) ∧ Ext w2 V) ((exact MK.out _ (by repeat (first | with_reducible exact Ext.refl _ | with_reducible assumption | with_reducible refine Ext.drew ?_ | with_reducible refine Ext.drewN ?_ _ | with_reducible refine Ext.alloc ?_ _)))) ((go_at_call 89; (first | refine (HVa.out _ (by repeat (first | with_reducible exact Ext.refl _ | with_reducible assumption | with_reducible refine Ext.drew ?_ | with_reducible refine Ext.drewN ?_ _ | with_reducible refine Ext.alloc ?_ _))).mono ?_ | refine (HVb.out _ (by repeat (first | with_reducible exact Ext.refl _ | with_reducible assumption | with_reducible refine Ext.drew ?_ | with_reducible refine Ext.drewN ?_ _ | with_reducible refine Ext.alloc ?_ _))).mono ?_); rintro e w' ⟨rfl, hb⟩; replace hb : Ext w2 w' := Ext.trans (by repeat (first | with_reducible exact Ext.refl _ | with_reducible assumption | with_reducible refine Ext.drew ?_ | with_reducible refine Ext.drewN ?_ _ | with_reducible refine Ext.alloc ?_ _)) hb))
      all_goals
        obtain ⟨a0, a1, a2, a3, a4, b0, b1, b2, b3, b4, hEw⟩ := ‹_ ∧ _›
        go_wp2_with fail
        refine (HU.out _ (by repeat (first | with_reducible exact Ext.refl _ | with_reducible assumption | with_reducible refine Ext.drew ?_ | with_reducible refine Ext.drewN ?_ _ | with_reducible refine Ext.alloc ?_ _)) (by simp) (by simp)).mono ?_
        rintro e w9 ⟨rfl, h9⟩
        have h9' : Ext w2 w9 := Ext.trans (by repeat (first | with_reducible exact Ext.refl _ | with_reducible assumption | with_reducible refine Ext.drew ?_ | with_reducible refine Ext.drewN ?_ _ | with_reducible refine Ext.alloc ?_ _)) h9
        clear a0 a1 a2 a3 a4 b0 b1 b2 b3 b4 hEw h9
        go_wp2
        go_ret
        exact ⟨rfl, hx.trans h9'⟩
theorem v_OrderN : ∀ (N : Nat) (a b : Val) (ok ok' : Nat → Prop) (A B : Option Addr) (c d : Nat) (w : World), wtV a ≤ N → ZeroAt w → Vals w ok A a.l → Vals w ok' B b.l →
    Calls Tryz.prog 72 #[.agg #[.int .i64 a.kind, .int .i64 a.n, .int .i64 a.d, .string a.s, .slice A a.l.length c], .agg #[.int .i64 b.kind, .int .i64 b.n, .int .i64 b.d, .string b.s, .slice B b.l.length d]] w fun e w' => e = .returned (.int .i64 (ordV a b)) ∧ Ext w w'
  | 0, a, b, ok, ok', A, B, c, d, w, hN, _, _, _ => by unfold wtV at hN; omega
  | N + 1, a, b, ok, ok', A, B, c, d, w, hN, hz, ha, hb =>
    v_OrderStep a b ok ok' A B c d w hz ha hb (fun x hx y _ Ax By cx dy W hzW hx' hy' => v_OrderN N x y ok ok' Ax By cx dy W (wt_kid hx hN) hzW hx' hy')
theorem v_Order (a b : Val) (ok ok' : Nat → Prop) (A B : Option Addr) (c d : Nat) (w : World) (hz : ZeroAt w) (ha : Vals w ok A a.l) (hb : Vals w ok' B b.l) :
    Calls Tryz.prog 72 #[.agg #[.int .i64 a.kind, .int .i64 a.n, .int .i64 a.d, .string a.s, .slice A a.l.length c], .agg #[.int .i64 b.kind, .int .i64 b.n, .int .i64 b.d, .string b.s, .slice B b.l.length d]] w fun e w' => e = .returned (.int .i64 (ordV a b)) ∧ Ext w w' :=
  v_OrderN (wtV a) a b ok ok' A B c d w (Nat.le_refl _) hz ha hb
set_option maxRecDepth 100000 in
set_option maxHeartbeats 3200000 in
theorem v_cmpR (a b : List Val) (ok ok' : Nat → Prop) (A B : Option Addr) (c d : Nat) (w : World) (hz : ZeroAt w) (ha : Vals w ok A a) (hb : Vals w ok' B b) 
    (hf : ∀ x ∈ a, ∀ y ∈ b, ∀ (Ax By : Option Addr) (cx dy : Nat) (W : World), ZeroAt W → Vals W ok Ax x.l → Vals W ok' By y.l → Calls Tryz.prog 72 #[.agg #[.int .i64 x.kind, .int .i64 x.n, .int .i64 x.d, .string x.s, .slice Ax x.l.length cx], .agg #[.int .i64 y.kind, .int .i64 y.n, .int .i64 y.d, .string y.s, .slice By y.l.length dy]] W fun e W' => e = .returned (.int .i64 (ordV x y)) ∧ Ext W W') :
    Calls Tryz.prog 75 #[.slice A a.length c, .slice B b.length d, .func (.func 72) #[] #[]] w fun e w' => e = .returned (.int .i64 (ordL a b)) ∧ Ext w w' := by
  have hma := ha.len
  have hmb := hb.len
  have HZ := Lib.hid hz
  have HA := Lib.hid ha
  have HB := Lib.hid hb
  have HF := Lib.hid hf

  obtain ⟨R, hR⟩ : ∃ R, R = ordL a b := ⟨_, rfl⟩
  rw [← hR]
  have HR := Lib.hid (show R = ordL (a.drop 0) (b.drop 0) from hR)
  clear hz ha hb hf hR 
  go_enter Tryz.func75, Tryz.ntmps75
  go_wp2
  go_loopw [13] (fun u W => ∃ k : Nat, u = .int .i64 k ∧ k ≤ a.length ∧ k ≤ b.length ∧ Hid (R = ordL (a.drop k) (b.drop k)) ∧ Ext w W) (fun u _ => a.length - (intOf u).toNat)
  case atStart => exact ⟨0, rfl, Nat.zero_le _, Nat.zero_le _, HR, Ext.refl _⟩
  case round =>
    obtain ⟨k, rfl, hk, hkb, hS, hE⟩ := hrel
    by_cases hlt : k < a.length
    · obtain ⟨ba, oa, rfl, hca⟩ := HA.out.2 (by omega)
      obtain ⟨-, A', c', h5, -, hv'⟩ := VCells.iff.1 (hca k hlt)
      obtain ⟨d0, d1, d2, d3, d4⟩ := h5.ext hE
      obtain ⟨g, w1, hg, hw1, h6, hx, -⟩ := box_val wr a[k] A' c' 40
      have HW1 := Lib.hid hw1
      have HG := Lib.hid hg
      have HVx := Lib.hid (hv'.ext hE)
      clear hw1 hg hca h5 hv'
      by_cases hltb : k < b.length
      · obtain ⟨bb, ob, rfl, hcb⟩ := HB.out.2 (by omega)
        obtain ⟨-, B', d', h5, -, hv'⟩ := VCells.iff.1 (hcb k hltb)
        obtain ⟨e0, e1, e2, e3, e4⟩ := h5.ext (hE.trans hx)
        obtain ⟨g2, w2, hg2, hw2, h7, hx2, -⟩ := box_val w1 b[k] B' d' 40
        have HW2 := Lib.hid hw2
        have HG2 := Lib.hid hg2
        have HC := Lib.hid (HF.out a[k] (List.getElem_mem hlt) b[k] (List.getElem_mem hltb) A' B' c' d' w2 (HZ.out.ext (hE.trans (hx.trans hx2))) (HVx.out.ext (hx.trans hx2)) (hv'.ext (hE.trans (hx.trans hx2))))
        have HD := Lib.hid (show ordL (a.drop k) (b.drop k) = thenC (ordV a[k] b[k]) (ordL (a.drop (k + 1)) (b.drop (k + 1))) by rw [List.drop_eq_getElem_cons hlt, List.drop_eq_getElem_cons hltb, ordL])
        obtain ⟨p0, p1, p2, p3, p4⟩ := h6.ext hx2
        obtain ⟨q0, q1, q2, q3, q4⟩ := h7
        clear hw2 hg2 hcb h5 hv' h6
        generalize a[k] = x at *
        generalize b[k] = y at *
        generalize ordV x y = z at HC HD
        go_upto_region 4 with (fail)
        rw [← HW1.out, ← HG.out]
        clear HW1 HG d0 d1 d2 d3 d4
        go_upto_region 7 with (fail)
        rw [← HW2.out, ← HG2.out]
        clear HW2 HG2 e0 e1 e2 e3 e4
        by_cases hz0 : z = 0
        · have HT := Lib.hid (show R = ordL (a.drop (k + 1)) (b.drop (k + 1)) by rw [hS.out, HD.out, hz0]; rfl)
          subst hz0
          go_wp2_with (go_at_call 72; ((with_reducible refine (HC.out).mono ?_); rintro e w' ⟨rfl, hb⟩; have hb' : Ext w2 w' := hb))
          go_roundw
          case rel => exact ⟨k + 1, by go_num, by omega, by omega, HT, hE.trans (hx.trans (hx2.trans hb'))⟩
          case measure => simp [intOf]; omega
        · have HT := Lib.hid (show R = z by rw [hS.out, HD.out, thenC_ne hz0])
          have hz' : (z != 0) = true := by simpa using hz0
          clear hz0
          go_wp2_with (go_at_call 72; ((with_reducible refine (HC.out).mono ?_); rintro e w' ⟨rfl, hb⟩; have hb' : Ext w2 w' := hb))
          go_ret
          exact ⟨ret_i64 HT.out.symm, hE.trans (hx.trans (hx2.trans hb'))⟩
      · have HT := Lib.hid (show R = 1 by rw [hS.out, List.drop_eq_getElem_cons hlt, List.drop_of_length_le (by omega : b.length ≤ k), ordL])
        have hkb' : b.length ≤ k := by omega
        generalize a[k] = x at *
        go_upto_region 4 with (fail)
        rw [← HW1.out, ← HG.out]
        clear HW1 HG d0 d1 d2 d3 d4 h6
        go_wp2
        go_ret
        exact ⟨ret_i64 HT.out.symm, hE.trans hx⟩
    · have hk' : k = a.length := by omega
      by_cases hl : a.length < b.length
      · have HT := Lib.hid (show R = -1 by rw [hS.out, hk', List.drop_length, List.drop_eq_getElem_cons hl, ordL])
        go_wp2
        go_ret
        exact ⟨ret_i64 HT.out.symm, hE⟩
      · have HT := Lib.hid (show R = 0 by rw [hS.out, hk', List.drop_length, List.drop_of_length_le (by omega), ordL])
        go_wp2
        go_ret
        exact ⟨ret_i64 HT.out.symm, hE⟩
theorem v_OrderRows (a b : List Val) (ok ok' : Nat → Prop) (A B : Option Addr) (c d : Nat) (w : World) (hz : ZeroAt w) (ha : Vals w ok A a) (hb : Vals w ok' B b) :
    Calls Tryz.prog 62 #[.slice A a.length c, .slice B b.length d] w fun e w' => e = .returned (.int .i64 (ordL a b)) ∧ Ext w w' := by
  have HC := Lib.hid (v_cmpR a b ok ok' A B c d w hz ha hb (fun x _ y _ Ax By cx dy W hzW hx hy => v_Order x y ok ok' Ax By cx dy W hzW hx hy))
  clear hz ha hb
  go_enter Tryz.func62, Tryz.ntmps62
  go_wp2_with (go_at_call 75; ((with_reducible refine (HC.out).mono ?_); rintro e w' ⟨rfl, hb⟩))
  go_ret
  exact ⟨rfl, hb⟩
end Go.Proofs.YtbjddimafilflaaGreatDoor

/- THE WALKS over the reference's bare, str, and valid at values that are no list and no path. -/
namespace Go.Proofs.YtbjddimafilflaaGreatDoor
open Go.RowKit
mutual
/-- every string in a value is no longer than memory bears -/
def szV : Val → Prop
  | .mk _ _ _ s l => s.size ≤ 140737488355328 ∧ szL l
def szL : List Val → Prop
  | [] => True
  | v :: vs => szV v ∧ szL vs
end
theorem szV_iff {v : Val} : szV v ↔ v.s.size ≤ 140737488355328 ∧ szL v.l := by cases v; rw [szV]; rfl
theorem szL_mem {l : List Val} (h : szL l) {v : Val} (hv : v ∈ l) : szV v := by
  induction l with
  | nil => cases hv
  | cons x l ih =>
    rw [szL] at h
    rcases List.mem_cons.1 hv with e | e
    · rw [e]; exact h.1
    · exact ih h.2 e
def bareF (p q r t : Bool) (n d : Int) (s : ByteArray) (m : Nat) : Bool := (p || decide (n = 0)) && (q || decide (d = 0)) && (r || decide (s.size = 0)) && (t || decide (m = 0))
set_option maxRecDepth 100000 in
set_option maxHeartbeats 1600000 in
theorem r4_bare_ffff (k n d : Int) (s : ByteArray) (A : Option Addr) (m c : Nat) (w : World) : Calls Tryz.prog 111 #[.agg #[.int .i64 k, .int .i64 n, .int .i64 d, .string s, .slice A m c], .bool false, .bool false, .bool false, .bool false] w fun e w' => e = .returned (.bool (bareF false false false false n d s m)) ∧ Ext w w' := by
  obtain ⟨g, w1, hg, hw1, ⟨c0, c1, c2, c3, c4⟩, hx, -⟩ := box5 w k n d s A m c 40
  have HW1 := Lib.hid hw1
  have HG := Lib.hid hg
  clear hw1 hg
  go_enter Tryz.func111, Tryz.ntmps111
  go_upto_region 1 with (fail)
  rw [← HW1.out, ← HG.out]
  clear HW1 HG
  go_wp2_with fail
  all_goals
    go_ret
    refine ⟨ret_bool ?_, hx⟩
    clear c0 c1 c2 c3 c4
    (try simp only [nil_iff] at *)
    unfold bareF
    (try simp only [beq_decI])
    first | (simp_all; done) | (simp_all; omega)
set_option maxRecDepth 100000 in
set_option maxHeartbeats 1600000 in
theorem r4_bare_tfff (k n d : Int) (s : ByteArray) (A : Option Addr) (m c : Nat) (w : World) : Calls Tryz.prog 111 #[.agg #[.int .i64 k, .int .i64 n, .int .i64 d, .string s, .slice A m c], .bool true, .bool false, .bool false, .bool false] w fun e w' => e = .returned (.bool (bareF true false false false n d s m)) ∧ Ext w w' := by
  obtain ⟨g, w1, hg, hw1, ⟨c0, c1, c2, c3, c4⟩, hx, -⟩ := box5 w k n d s A m c 40
  have HW1 := Lib.hid hw1
  have HG := Lib.hid hg
  clear hw1 hg
  go_enter Tryz.func111, Tryz.ntmps111
  go_upto_region 1 with (fail)
  rw [← HW1.out, ← HG.out]
  clear HW1 HG
  go_wp2_with fail
  all_goals
    go_ret
    refine ⟨ret_bool ?_, hx⟩
    clear c0 c1 c2 c3 c4
    (try simp only [nil_iff] at *)
    unfold bareF
    (try simp only [beq_decI])
    first | (simp_all; done) | (simp_all; omega)
set_option maxRecDepth 100000 in
set_option maxHeartbeats 1600000 in
theorem r4_bare_ttff (k n d : Int) (s : ByteArray) (A : Option Addr) (m c : Nat) (w : World) : Calls Tryz.prog 111 #[.agg #[.int .i64 k, .int .i64 n, .int .i64 d, .string s, .slice A m c], .bool true, .bool true, .bool false, .bool false] w fun e w' => e = .returned (.bool (bareF true true false false n d s m)) ∧ Ext w w' := by
  obtain ⟨g, w1, hg, hw1, ⟨c0, c1, c2, c3, c4⟩, hx, -⟩ := box5 w k n d s A m c 40
  have HW1 := Lib.hid hw1
  have HG := Lib.hid hg
  clear hw1 hg
  go_enter Tryz.func111, Tryz.ntmps111
  go_upto_region 1 with (fail)
  rw [← HW1.out, ← HG.out]
  clear HW1 HG
  go_wp2_with fail
  all_goals
    go_ret
    refine ⟨ret_bool ?_, hx⟩
    clear c0 c1 c2 c3 c4
    (try simp only [nil_iff] at *)
    unfold bareF
    (try simp only [beq_decI])
    first | (simp_all; done) | (simp_all; omega)
set_option maxRecDepth 100000 in
set_option maxHeartbeats 1600000 in
theorem r4_bare_fftf (k n d : Int) (s : ByteArray) (A : Option Addr) (m c : Nat) (w : World) : Calls Tryz.prog 111 #[.agg #[.int .i64 k, .int .i64 n, .int .i64 d, .string s, .slice A m c], .bool false, .bool false, .bool true, .bool false] w fun e w' => e = .returned (.bool (bareF false false true false n d s m)) ∧ Ext w w' := by
  obtain ⟨g, w1, hg, hw1, ⟨c0, c1, c2, c3, c4⟩, hx, -⟩ := box5 w k n d s A m c 40
  have HW1 := Lib.hid hw1
  have HG := Lib.hid hg
  clear hw1 hg
  go_enter Tryz.func111, Tryz.ntmps111
  go_upto_region 1 with (fail)
  rw [← HW1.out, ← HG.out]
  clear HW1 HG
  go_wp2_with fail
  all_goals
    go_ret
    refine ⟨ret_bool ?_, hx⟩
    clear c0 c1 c2 c3 c4
    (try simp only [nil_iff] at *)
    unfold bareF
    (try simp only [beq_decI])
    first | (simp_all; done) | (simp_all; omega)
set_option maxRecDepth 100000 in
set_option maxHeartbeats 1600000 in
theorem r4_bare_ffft (k n d : Int) (s : ByteArray) (A : Option Addr) (m c : Nat) (w : World) : Calls Tryz.prog 111 #[.agg #[.int .i64 k, .int .i64 n, .int .i64 d, .string s, .slice A m c], .bool false, .bool false, .bool false, .bool true] w fun e w' => e = .returned (.bool (bareF false false false true n d s m)) ∧ Ext w w' := by
  obtain ⟨g, w1, hg, hw1, ⟨c0, c1, c2, c3, c4⟩, hx, -⟩ := box5 w k n d s A m c 40
  have HW1 := Lib.hid hw1
  have HG := Lib.hid hg
  clear hw1 hg
  go_enter Tryz.func111, Tryz.ntmps111
  go_upto_region 1 with (fail)
  rw [← HW1.out, ← HG.out]
  clear HW1 HG
  go_wp2_with fail
  all_goals
    go_ret
    refine ⟨ret_bool ?_, hx⟩
    clear c0 c1 c2 c3 c4
    (try simp only [nil_iff] at *)
    unfold bareF
    (try simp only [beq_decI])
    first | (simp_all; done) | (simp_all; omega)
theorem get_elem (s : ByteArray) (k : Nat) (h : k < s.size) : s.get! k = s[k] := by
  rw [get_data s k h]; rfl
theorem str_no {s : ByteArray} {k : Nat} (hk : k < s.size) (h : pBad s[k].toNat = true) : strOk s = false := by
  rw [strOk_eq]
  cases hb : bytesOk s
  · exact Bool.and_false _
  · have := (bytesOk_iff s).1 hb k hk
    rw [get_elem s k hk, h] at this; cases this
theorem str_yes {s : ByteArray} (h : ∀ j (h : j < s.size), pBad s[j].toNat = false) : strOk s = decide (s.size ≤ 100) := by
  rw [strOk_eq, (bytesOk_iff s).2 (fun j hj => by rw [get_elem s j hj]; exact h j hj), Bool.and_true]
set_option maxHeartbeats 1600000 in
theorem r4_str (s : ByteArray) (w : World) (hs : s.size ≤ 140737488355328) : Calls Tryz.prog 113 #[.string s] w fun e w' => e = .returned (.bool (strOk s)) ∧ w' = w := by
  have HY := Lib.hid (fun h => str_yes (s := s) h)
  have HN := Lib.hid (fun (k : Nat) (hk : k < s.size) h => str_no (s := s) hk h)
  go_enter Tryz.func113, Tryz.ntmps113
  go_wp2
  go_loop [3] (fun u => ∃ k : Nat, u = .int .i64 k ∧ k ≤ s.size ∧ Hid (∀ j (h : j < s.size), j < k → pBad s[j].toNat = false)) (fun u => s.size - (intOf u).toNat)
  case atStart => exact ⟨0, rfl, Nat.zero_le _, Lib.hid (fun j _ hj => absurd hj (by omega))⟩
  case round =>
    obtain ⟨k, rfl, hk, hA⟩ := hrel
    by_cases hlt : k < s.size
    · have HB := Lib.hid (HN.out k hlt)
      have HS := Lib.hid (fun (h : pBad s[k].toNat = false) j (hj : j < s.size) (hjk : j < k + 1) => (if e : j = k then (by subst e; exact h) else hA.out j hj (by omega) : pBad s[j].toNat = false))
      by_cases h1 : s[k].toNat < 32
      · have HF := Lib.hid (HB.out (by unfold pBad; rw [decide_eq_true h1]; rfl))
        clear HB HS
        go_wp2
        all_goals first | (go_ret; exact ⟨ret_bool HF.out.symm, rfl⟩) | (exfalso; omega)
      · by_cases h2 : 126 < s[k].toNat
        · have HF := Lib.hid (HB.out (by unfold pBad; rw [decide_eq_true h2, Bool.or_true]))
          clear HB HS
          go_wp2
          all_goals first | (go_ret; exact ⟨ret_bool HF.out.symm, rfl⟩) | (exfalso; omega)
        · have HT := Lib.hid (HS.out (by unfold pBad; rw [decide_eq_false h1, decide_eq_false h2]; rfl))
          clear HB HS
          go_wp2
          all_goals first | (go_round; (case rel => exact ⟨k + 1, by go_num, by omega, HT⟩); (case measure => simp [intOf]; omega)) | (exfalso; omega)
    · have HF := Lib.hid (HY.out (fun j hj => hA.out j hj (by omega)))
      by_cases h100 : s.size ≤ 100
      · rw [decide_eq_true h100] at HF
        go_wp2
        go_ret
        exact ⟨ret_bool (by rw [HF.out, decide_eq_true_iff]; omega), rfl⟩
      · rw [decide_eq_false h100] at HF
        go_wp2
        go_ret
        exact ⟨ret_bool (by rw [HF.out, decide_eq_false_iff_not]; omega), rfl⟩
set_option maxRecDepth 100000 in
set_option maxHeartbeats 1600000 in
theorem r4_valid0 (n d : Int) (s : ByteArray) (m : Nat) (A : Option Addr) (c : Nat) (nest : Int) (w : World) (_hs : s.size ≤ 140737488355328) : Calls Tryz.prog 97 #[.agg #[.int .i64 0, .int .i64 n, .int .i64 d, .string s, .slice A m c], .int .i64 nest] w fun e w' => e = .returned (.bool (leafF 0 n d s m)) ∧ Ext w w' := by
  obtain ⟨g, w1, hg, hw1, ⟨c0, c1, c2, c3, c4⟩, hx, -⟩ := box5 w 0 n d s A m c 40
  have HW1 := Lib.hid hw1
  have HG := Lib.hid hg
  clear hw1 hg
  go_enter Tryz.func97, Tryz.ntmps97
  go_upto_region 1 with (fail)
  rw [← HW1.out, ← HG.out]
  clear HW1 HG
  go_wp2_with (go_at_call 111; ((with_reducible refine (r4_bare_ffff _ _ _ _ _ _ _ _).mono ?_); rintro e w' ⟨rfl, hb⟩; have hb1 : Ext w1 w' := hb; replace c0 := hb1.cell c0; replace c1 := hb1.cell c1; replace c2 := hb1.cell c2; replace c3 := hb1.cell c3; replace c4 := hb1.cell c4))
  all_goals
    go_ret
    refine ⟨ret_bool ?_, (by first | exact hx | exact Ext.trans hx (by assumption) | exact Ext.trans hx (Ext.trans hb1 (by assumption)))⟩
    clear c0 c1 c2 c3 c4
    (try simp only [nil_iff] at *)
    unfold leafF
    (try unfold bareF at *)
    skip
    first | (simp_all; done) | (simp_all; omega)
set_option maxRecDepth 100000 in
set_option maxHeartbeats 1600000 in
theorem r4_valid1 (n d : Int) (s : ByteArray) (m : Nat) (A : Option Addr) (c : Nat) (nest : Int) (w : World) (_hs : s.size ≤ 140737488355328) : Calls Tryz.prog 97 #[.agg #[.int .i64 1, .int .i64 n, .int .i64 d, .string s, .slice A m c], .int .i64 nest] w fun e w' => e = .returned (.bool (leafF 1 n d s m)) ∧ Ext w w' := by
  obtain ⟨g, w1, hg, hw1, ⟨c0, c1, c2, c3, c4⟩, hx, -⟩ := box5 w 1 n d s A m c 40
  have HW1 := Lib.hid hw1
  have HG := Lib.hid hg
  clear hw1 hg
  go_enter Tryz.func97, Tryz.ntmps97
  go_upto_region 1 with (fail)
  rw [← HW1.out, ← HG.out]
  clear HW1 HG
  go_wp2_with (go_at_call 111; ((with_reducible refine (r4_bare_tfff _ _ _ _ _ _ _ _).mono ?_); rintro e w' ⟨rfl, hb⟩; have hb1 : Ext w1 w' := hb; replace c0 := hb1.cell c0; replace c1 := hb1.cell c1; replace c2 := hb1.cell c2; replace c3 := hb1.cell c3; replace c4 := hb1.cell c4))
  all_goals
    go_ret
    refine ⟨ret_bool ?_, (by first | exact hx | exact Ext.trans hx (by assumption) | exact Ext.trans hx (Ext.trans hb1 (by assumption)))⟩
    clear c0 c1 c2 c3 c4
    (try simp only [nil_iff] at *)
    unfold leafF
    (try unfold bareF at *)
    (try simp only [beq_decI])
    first | (simp_all; done) | (simp_all; omega)
set_option maxRecDepth 100000 in
set_option maxHeartbeats 1600000 in
theorem r4_valid2 (n d : Int) (s : ByteArray) (m : Nat) (A : Option Addr) (c : Nat) (nest : Int) (w : World) (_hs : s.size ≤ 140737488355328) : Calls Tryz.prog 97 #[.agg #[.int .i64 2, .int .i64 n, .int .i64 d, .string s, .slice A m c], .int .i64 nest] w fun e w' => e = .returned (.bool (leafF 2 n d s m)) ∧ Ext w w' := by
  obtain ⟨g, w1, hg, hw1, ⟨c0, c1, c2, c3, c4⟩, hx, -⟩ := box5 w 2 n d s A m c 40
  have HW1 := Lib.hid hw1
  have HG := Lib.hid hg
  clear hw1 hg
  go_enter Tryz.func97, Tryz.ntmps97
  go_upto_region 1 with (fail)
  rw [← HW1.out, ← HG.out]
  clear HW1 HG
  go_wp2_with (first | (go_at_call 111; ((with_reducible refine (r4_bare_tfff _ _ _ _ _ _ _ _).mono ?_); rintro e w' ⟨rfl, hb⟩; have hb1 : Ext w1 w' := hb; replace c0 := hb1.cell c0; replace c1 := hb1.cell c1; replace c2 := hb1.cell c2; replace c3 := hb1.cell c3; replace c4 := hb1.cell c4)) | (go_at_call 112; refine (ref_In _ _).mono ?_; rintro e w' ⟨rfl, rfl⟩))
  all_goals
    go_ret
    refine ⟨ret_bool ?_, (by first | exact hx | exact Ext.trans hx (by assumption) | exact Ext.trans hx (Ext.trans hb1 (by assumption)))⟩
    clear c0 c1 c2 c3 c4
    (try simp only [nil_iff] at *)
    unfold leafF
    (try unfold bareF at *)
    skip
    first | (simp_all; done) | (simp_all; omega)
set_option maxRecDepth 100000 in
set_option maxHeartbeats 1600000 in
theorem r4_valid3 (n d : Int) (s : ByteArray) (m : Nat) (A : Option Addr) (c : Nat) (nest : Int) (w : World) (_hs : s.size ≤ 140737488355328) : Calls Tryz.prog 97 #[.agg #[.int .i64 3, .int .i64 n, .int .i64 d, .string s, .slice A m c], .int .i64 nest] w fun e w' => e = .returned (.bool (leafF 3 n d s m)) ∧ Ext w w' := by
  obtain ⟨g, w1, hg, hw1, ⟨c0, c1, c2, c3, c4⟩, hx, -⟩ := box5 w 3 n d s A m c 40
  have HW1 := Lib.hid hw1
  have HG := Lib.hid hg
  clear hw1 hg
  go_enter Tryz.func97, Tryz.ntmps97
  go_upto_region 1 with (fail)
  rw [← HW1.out, ← HG.out]
  clear HW1 HG
  go_wp2_with (first | (go_at_call 111; ((with_reducible refine (r4_bare_ttff _ _ _ _ _ _ _ _).mono ?_); rintro e w' ⟨rfl, hb⟩; have hb1 : Ext w1 w' := hb; replace c0 := hb1.cell c0; replace c1 := hb1.cell c1; replace c2 := hb1.cell c2; replace c3 := hb1.cell c3; replace c4 := hb1.cell c4)) | (go_at_call 99; refine (r3_Valid _ _ _).mono ?_; rintro e w' ⟨rfl, hbv⟩; have hb2 : Ext _ w' := hbv))
  all_goals
    go_ret
    refine ⟨ret_bool ?_, (by first | exact hx | exact Ext.trans hx (by assumption) | exact Ext.trans hx (Ext.trans hb1 (by assumption)))⟩
    clear c0 c1 c2 c3 c4
    (try simp only [nil_iff] at *)
    unfold leafF
    (try unfold bareF at *)
    skip
    first | (simp_all; done) | (simp_all; omega)
set_option maxRecDepth 100000 in
set_option maxHeartbeats 1600000 in
theorem r4_valid4 (n d : Int) (s : ByteArray) (m : Nat) (A : Option Addr) (c : Nat) (nest : Int) (w : World) (hs : s.size ≤ 140737488355328) : Calls Tryz.prog 97 #[.agg #[.int .i64 4, .int .i64 n, .int .i64 d, .string s, .slice A m c], .int .i64 nest] w fun e w' => e = .returned (.bool (leafF 4 n d s m)) ∧ Ext w w' := by
  obtain ⟨g, w1, hg, hw1, ⟨c0, c1, c2, c3, c4⟩, hx, -⟩ := box5 w 4 n d s A m c 40
  have HW1 := Lib.hid hw1
  have HG := Lib.hid hg
  clear hw1 hg
  go_enter Tryz.func97, Tryz.ntmps97
  go_upto_region 1 with (fail)
  rw [← HW1.out, ← HG.out]
  clear HW1 HG
  go_wp2_with (first | (go_at_call 111; ((with_reducible refine (r4_bare_fftf _ _ _ _ _ _ _ _).mono ?_); rintro e w' ⟨rfl, hb⟩; have hb1 : Ext w1 w' := hb; replace c0 := hb1.cell c0; replace c1 := hb1.cell c1; replace c2 := hb1.cell c2; replace c3 := hb1.cell c3; replace c4 := hb1.cell c4)) | (go_at_call 113; refine (r4_str _ _ hs).mono ?_; rintro e w' ⟨rfl, rfl⟩))
  all_goals
    go_ret
    refine ⟨ret_bool ?_, (by first | exact hx | exact Ext.trans hx (by assumption) | exact Ext.trans hx (Ext.trans hb1 (by assumption)))⟩
    clear c0 c1 c2 c3 c4
    (try simp only [nil_iff] at *)
    unfold leafF
    (try unfold bareF at *)
    skip
    first | (simp_all; done) | (simp_all; omega)
set_option maxRecDepth 100000 in
set_option maxHeartbeats 1600000 in
theorem r4_valid5 (n d : Int) (s : ByteArray) (m : Nat) (A : Option Addr) (c : Nat) (nest : Int) (w : World) (_hs : s.size ≤ 140737488355328) : Calls Tryz.prog 97 #[.agg #[.int .i64 5, .int .i64 n, .int .i64 d, .string s, .slice A m c], .int .i64 nest] w fun e w' => e = .returned (.bool (leafF 5 n d s m)) ∧ Ext w w' := by
  obtain ⟨g, w1, hg, hw1, ⟨c0, c1, c2, c3, c4⟩, hx, -⟩ := box5 w 5 n d s A m c 40
  have HW1 := Lib.hid hw1
  have HG := Lib.hid hg
  clear hw1 hg
  go_enter Tryz.func97, Tryz.ntmps97
  go_upto_region 1 with (fail)
  rw [← HW1.out, ← HG.out]
  clear HW1 HG
  go_wp2_with (go_at_call 111; ((with_reducible refine (r4_bare_tfff _ _ _ _ _ _ _ _).mono ?_); rintro e w' ⟨rfl, hb⟩; have hb1 : Ext w1 w' := hb; replace c0 := hb1.cell c0; replace c1 := hb1.cell c1; replace c2 := hb1.cell c2; replace c3 := hb1.cell c3; replace c4 := hb1.cell c4))
  all_goals
    go_ret
    refine ⟨ret_bool ?_, (by first | exact hx | exact Ext.trans hx (by assumption) | exact Ext.trans hx (Ext.trans hb1 (by assumption)))⟩
    clear c0 c1 c2 c3 c4
    (try simp only [nil_iff] at *)
    unfold leafF
    (try unfold bareF at *)
    skip
    first | (simp_all; done) | (simp_all; omega)
set_option maxRecDepth 100000 in
set_option maxHeartbeats 1600000 in
theorem r4_valid6 (n d : Int) (s : ByteArray) (m : Nat) (A : Option Addr) (c : Nat) (nest : Int) (w : World) (_hs : s.size ≤ 140737488355328) : Calls Tryz.prog 97 #[.agg #[.int .i64 6, .int .i64 n, .int .i64 d, .string s, .slice A m c], .int .i64 nest] w fun e w' => e = .returned (.bool (leafF 6 n d s m)) ∧ Ext w w' := by
  obtain ⟨g, w1, hg, hw1, ⟨c0, c1, c2, c3, c4⟩, hx, -⟩ := box5 w 6 n d s A m c 40
  have HW1 := Lib.hid hw1
  have HG := Lib.hid hg
  clear hw1 hg
  go_enter Tryz.func97, Tryz.ntmps97
  go_upto_region 1 with (fail)
  rw [← HW1.out, ← HG.out]
  clear HW1 HG
  go_wp2_with (go_at_call 111; ((with_reducible refine (r4_bare_tfff _ _ _ _ _ _ _ _).mono ?_); rintro e w' ⟨rfl, hb⟩; have hb1 : Ext w1 w' := hb; replace c0 := hb1.cell c0; replace c1 := hb1.cell c1; replace c2 := hb1.cell c2; replace c3 := hb1.cell c3; replace c4 := hb1.cell c4))
  all_goals
    go_ret
    refine ⟨ret_bool ?_, (by first | exact hx | exact Ext.trans hx (by assumption) | exact Ext.trans hx (Ext.trans hb1 (by assumption)))⟩
    clear c0 c1 c2 c3 c4
    (try simp only [nil_iff] at *)
    unfold leafF
    (try unfold bareF at *)
    skip
    first | (simp_all; done) | (simp_all; omega)
set_option maxRecDepth 100000 in
set_option maxHeartbeats 1600000 in
theorem r4_valido (k : Int) (hk : (k == 0) = false ∧ (k == 1) = false ∧ (k == 2) = false ∧ (k == 3) = false ∧ (k == 4) = false ∧ (k == 5) = false ∧ (k == 6) = false ∧ (k == 7) = false ∧ (k == 8) = false) (n d : Int) (s : ByteArray) (m : Nat) (A : Option Addr) (c : Nat) (nest : Int) (w : World) (_hs : s.size ≤ 140737488355328) : Calls Tryz.prog 97 #[.agg #[.int .i64 k, .int .i64 n, .int .i64 d, .string s, .slice A m c], .int .i64 nest] w fun e w' => e = .returned (.bool (leafF k n d s m)) ∧ Ext w w' := by
  have hne := other9 hk
  obtain ⟨h0, h1, h2, h3, h4, h5, h6, h7, h8⟩ := hk
  obtain ⟨n0, n1, n2, n3, n4, n5, n6, n7, n8⟩ := hne
  obtain ⟨g, w1, hg, hw1, ⟨c0, c1, c2, c3, c4⟩, hx, -⟩ := box5 w k n d s A m c 40
  have HW1 := Lib.hid hw1
  have HG := Lib.hid hg
  clear hw1 hg
  go_enter Tryz.func97, Tryz.ntmps97
  go_upto_region 1 with (fail)
  rw [← HW1.out, ← HG.out]
  clear HW1 HG
  go_wp2_with fail
  all_goals
    go_ret
    refine ⟨ret_bool ?_, (by first | exact hx | exact Ext.trans hx (by assumption) | exact Ext.trans hx (Ext.trans hb1 (by assumption)))⟩
    clear c0 c1 c2 c3 c4
    (try simp only [nil_iff] at *)
    unfold leafF
    (try unfold bareF at *)
    skip
    first | (simp_all; done) | (simp_all; omega)
end Go.Proofs.YtbjddimafilflaaGreatDoor
