/- THE WALK over the law's worked examples, whole. -/
import Derived.Test.YtanclhcoiagcfaaGreatDoorSchZb
namespace Go.Proofs.YtanclhcoiagcfaaGreatDoor
open Go.RowKit

theorem same_lit (w : World) (A : Option Addr) (s : List RuleP) (c : Nat) (l : List RuleP) (hs : Rules w A s) (h1 : s.length ≤ 1000) (h2 : l.length ≤ 1000) :
    Calls Tryz.prog 15 #[.slice A s.length c, .slice (some ⟨w.heap.size, 0, none⟩) l.length l.length] (w.alloc (.cells (flatR l).toArray 23)) fun e w' => e = .returned (.bool (decide (s = l))) ∧ Ext w w' :=
  (r9_Same s l A (some ⟨w.heap.size, 0, none⟩) c l.length _ (hs.ext ((Ext.refl _).alloc _)) (rules_lit w l h2) h1 h2).mono (fun _ _ h => ⟨h.1, (Ext.alloc (Ext.refl _) _).trans h.2⟩)
theorem valid_lit (w : World) (l : List RuleP) (h2 : l.length ≤ 1000) :
    Calls Tryz.prog 18 #[.slice (some ⟨w.heap.size, 0, none⟩) l.length l.length] (w.alloc (.cells (flatR l).toArray 23)) fun e w' => e = .returned (.bool (validB l)) ∧ Ext w w' :=
  (s_Valid l (some ⟨w.heap.size, 0, none⟩) l.length _ (rules_lit w l h2) h2).mono (fun _ _ h => ⟨h.1, (Ext.alloc (Ext.refl _) _).trans h.2⟩)

theorem lv_same1 (w : World) (A : Option Addr) (c : Nat) (hs : Rules w A [uR, xR]) : Calls Tryz.prog 15 #[.slice A 2 c, .slice (some ⟨w.heap.size, 0, none⟩) 2 2] (w.alloc (.cells (flatR [uR, xR]).toArray 23)) fun e w' => e = .returned (.bool true) ∧ Ext w w' :=
  (same_lit w A [uR, xR] c [uR, xR] hs (by decide) (by decide)).mono (fun _ _ h => ⟨h.1.trans (by rw [decide_eq_true rfl]), h.2⟩)
theorem lv_same2 (w : World) (A : Option Addr) (c : Nat) (hs : Rules w A [uR]) : Calls Tryz.prog 15 #[.slice A 1 c, .slice (some ⟨w.heap.size, 0, none⟩) 1 1] (w.alloc (.cells (flatR [uR]).toArray 23)) fun e w' => e = .returned (.bool true) ∧ Ext w w' :=
  (same_lit w A [uR] c [uR] hs (by decide) (by decide)).mono (fun _ _ h => ⟨h.1.trans (by rw [decide_eq_true rfl]), h.2⟩)
theorem lv_text (w : World) (hw : LaidW w) : Calls Tryz.prog 8 #[nR.val] w fun e w' => e = .returned (.string ⟨#[101, 110, 100, 115, 32, 75, 78, 79, 87, 83, 32, 80, 101, 114, 115, 111, 110, 32, 42]⟩) ∧ Ext w w' :=
  (s_Text nR w hw).mono (fun _ _ h => ⟨h.1.trans (by rw [text_n]; rfl), h.2⟩)
theorem lv_chkn (w : World) : Calls Tryz.prog 6 #[nR.val] w fun e w' => e = .returned (.int .i64 0) ∧ Ext w w' :=
  (s_Check nR w).mono (fun _ _ h => ⟨h.1.trans (by rw [chk_n]), h.2⟩)
theorem lv_chkk (w : World) : Calls Tryz.prog 6 #[kR.val] w fun e w' => e = .returned (.int .i64 1) ∧ Ext w w' :=
  (s_Check kR w).mono (fun _ _ h => ⟨h.1.trans (by rw [chk_k]), h.2⟩)
theorem lv_val (w : World) (A : Option Addr) (c : Nat) (hs : Rules w A [uR, xR]) : Calls Tryz.prog 18 #[.slice A 2 c] w fun e w' => e = .returned (.bool true) ∧ Ext w w' :=
  (s_Valid [uR, xR] A c w hs (by decide)).mono (fun _ _ h => ⟨h.1.trans (by rw [val_ux]), h.2⟩)
theorem lv_val2 (w : World) : Calls Tryz.prog 18 #[.slice (some ⟨w.heap.size, 0, none⟩) 2 2] (w.alloc (.cells (flatR [xR, uR]).toArray 23)) fun e w' => e = .returned (.bool false) ∧ Ext w w' :=
  (valid_lit w [xR, uR] (by decide)).mono (fun _ _ h => ⟨h.1.trans (by rw [val_xu]), h.2⟩)
theorem lv_ord (w : World) : Calls Tryz.prog 35 #[uR.val, xR.val] w fun e w' => e = .returned (.int .i64 (-1)) ∧ Ext w w' :=
  (s_Order uR xR w).mono (fun _ _ h => ⟨h.1.trans (by rw [ord_ux]), h.2⟩)
theorem lv_fault (w : World) : Calls Tryz.prog 10 #[.int .i64 6] w fun e w' => e = .returned (.int .i64 16) ∧ Ext w w' :=
  (s_Fault 6 w).mono (fun _ _ h => ⟨h.1.trans rfl, h.2 ▸ Ext.refl _⟩)

set_option maxRecDepth 100000 in
set_option maxHeartbeats 6400000 in
theorem l_lives (w : World) (hw : LaidS w) : Calls Tryz.prog 12 #[] w fun e w' => e = .returned (.bool true) ∧ Ext w w' := by
  obtain ⟨g1, g2, w1, hg1, hg2, hw1, hb1, hb2, hx1⟩ := two_boxes w
  have HB1 := Lib.hid (fun V (e : Ext w1 V) => hb1.ext e)
  have HB2 := Lib.hid (fun V (e : Ext w1 V) => hb2.ext e)
  have HW1 := Lib.hid hw1
  have HG1 := Lib.hid hg1
  have HG2 := Lib.hid hg2
  have HL := Lib.hid (hw.ext hx1)
  have HX1 := Lib.hid hx1
  clear hw1 hg1 hg2 hb1 hb2 hw hx1
  go_enter Tryz.func12, Tryz.ntmps12
  go_upto_region 2 with (fail)
  rw [← HW1.out, ← HG2.out, ← HG1.out]
  clear HW1 HG1 HG2
  obtain ⟨a0, a1, a2, a3, a4, a5⟩ := HB1.out w1 (Ext.refl _)
  simp only [uR] at a0 a1 a2 a3 a4 a5
  obtain ⟨b0, b1, b2, b3, b4, b5⟩ := HB2.out w1 (Ext.refl _)
  simp only [xR] at b0 b1 b2 b3 b4 b5
  have C := s_Add [] none 0 xR w1 (fun h => absurd h (by simp)) (fun _ => rfl) (by decide)
  rw [add_1] at C
  have HC := Lib.hid C
  clear C
  go_wp2_with fail
  refine (HC.out).mono ?_
  rintro e w2 ⟨A3, c3, rfl, hl3, hE2⟩
  clear HC
  clear a0 a1 a2 a3 a4 a5 b0 b1 b2 b3 b4 b5
  obtain ⟨a0, a1, a2, a3, a4, a5⟩ := HB1.out w2 hE2
  simp only [uR] at a0 a1 a2 a3 a4 a5
  obtain ⟨b0, b1, b2, b3, b4, b5⟩ := HB2.out w2 hE2
  simp only [xR] at b0 b1 b2 b3 b4 b5
  have C := s_Add [xR] A3 c3 uR w2 hl3 (fun h => by subst h; obtain ⟨b, o, h, _⟩ := hl3 (by decide); cases h) (by decide)
  rw [add_2] at C
  have HC := Lib.hid C
  clear C hl3
  go_wp2_with fail
  refine (HC.out).mono ?_
  rintro e w3 ⟨A5, c5, rfl, hl5, hE3⟩
  replace hE3 := hE2.trans hE3
  clear HC hE2
  clear a0 a1 a2 a3 a4 a5 b0 b1 b2 b3 b4 b5
  obtain ⟨a0, a1, a2, a3, a4, a5⟩ := HB1.out w3 hE3
  simp only [uR] at a0 a1 a2 a3 a4 a5
  obtain ⟨b0, b1, b2, b3, b4, b5⟩ := HB2.out w3 hE3
  simp only [xR] at b0 b1 b2 b3 b4 b5
  have C := s_Add [uR, xR] A5 c5 uR w3 hl5 (fun h => by subst h; obtain ⟨b, o, h, _⟩ := hl5 (by decide); cases h) (by decide)
  rw [add_3] at C
  have HC := Lib.hid C
  clear C
  go_wp2_with fail
  refine (HC.out).mono ?_
  rintro e w4 ⟨A6, c6, rfl, -, hE4⟩
  replace hl5 := hl5.ext hE4
  replace hE4 := hE3.trans hE4
  clear HC hE3
  clear a0 a1 a2 a3 a4 a5 b0 b1 b2 b3 b4 b5
  obtain ⟨a0, a1, a2, a3, a4, a5⟩ := HB1.out w4 hE4
  simp only [uR] at a0 a1 a2 a3 a4 a5
  obtain ⟨b0, b1, b2, b3, b4, b5⟩ := HB2.out w4 hE4
  simp only [xR] at b0 b1 b2 b3 b4 b5
  have C := s_Drop [uR, xR] A5 c5 xR w4 hl5 (fun h => by subst h; obtain ⟨b, o, h, _⟩ := hl5 (by decide); cases h) (by decide)
  rw [drop_1] at C
  have HC := Lib.hid C
  clear C
  go_wp2_with fail
  refine (HC.out).mono ?_
  rintro e w5 ⟨A8, c8, rfl, hl8, hE5⟩
  replace hl5 := hl5.ext hE5
  replace hE5 := hE4.trans hE5
  clear HC hE4
  clear a0 a1 a2 a3 a4 a5 b0 b1 b2 b3 b4 b5
  have HP := Lib.hid (s_Parse ⟨#[101, 110, 100, 115, 32, 84, 32, 42, 32, 66]⟩ w5 (HL.out.ext hE5) (by decide))
  go_wp2_with fail
  refine (HP.out).mono ?_
  rintro e w6 ⟨r1, e1, rfl, hp1, hE6⟩
  obtain ⟨rfl, rfl⟩ := parse_1 hp1
  replace hl5 := hl5.ext hE6
  replace hl8 := hl8.ext hE6
  replace hE6 := hE5.trans hE6
  clear HP hp1 hE5
  obtain ⟨g10, w7, hg10, hw7, hb10, hx7, -⟩ := box_rule w6 pR 23
  simp only [pR] at hw7
  have HW7 := Lib.hid hw7
  have HG10 := Lib.hid hg10
  clear hw7 hg10
  unfold RuleP.val
  simp only [pR]
  go_upto_region 7 with (fail)
  rw [← HW7.out, ← HG10.out]
  replace hl5 := hl5.ext hx7
  replace hl8 := hl8.ext hx7
  replace hE6 := hE6.trans hx7
  clear HW7 HG10 hx7
  have HP := Lib.hid (s_Parse ⟨#[109, 97, 120, 111, 117, 116, 32, 84, 32, 48, 51]⟩ w7 (HL.out.ext hE6) (by decide))
  go_wp2_with fail
  refine (HP.out).mono ?_
  rintro e w8 ⟨r2, e2, rfl, hp2, hE8⟩
  obtain ⟨rfl, rfl⟩ := parse_2 hp2
  replace hl5 := hl5.ext hE8
  replace hl8 := hl8.ext hE8
  replace hb10 := hb10.ext hE8
  replace hE8 := hE6.trans hE8
  clear HP hp2 hE6
  obtain ⟨g12, w9, hg12, hw9, -, hx9, -⟩ := box_rule w8 zeroR 23
  have HW9 := Lib.hid (show w9 = w8.alloc (.cells #[.int .i64 0, .int .i64 0, .string ByteArray.empty, .string ByteArray.empty, .string ByteArray.empty, .string ByteArray.empty] 23) from hw9)
  have HG12 := Lib.hid hg12
  clear hw9 hg12
  unfold RuleP.val zeroR emptyB
  go_upto_region 8 with (fail)
  rw [← HW9.out, ← HG12.out]
  replace hl5 := hl5.ext hx9
  replace hl8 := hl8.ext hx9
  replace hb10 := hb10.ext hx9
  replace hE8 := hE8.trans hx9
  clear HW9 HG12 hx9
  obtain ⟨g14, w10, hg14, hw10, hb14, hx10, -⟩ := box_rule w9 nR 23
  simp only [nR] at hw10
  have HW10 := Lib.hid hw10
  have HG14 := Lib.hid hg14
  clear hw10 hg14
  go_upto_region 9 with (fail)
  rw [← HW10.out, ← HG14.out]
  replace hl5 := hl5.ext hx10
  replace hl8 := hl8.ext hx10
  replace hb10 := hb10.ext hx10
  have hE := hE8.trans hx10
  clear HW10 HG14 hx10 hE8
  obtain ⟨a0, a1, a2, a3, a4, a5⟩ := HB1.out w10 hE
  simp only [uR] at a0 a1 a2 a3 a4 a5
  obtain ⟨b0, b1, b2, b3, b4, b5⟩ := HB2.out w10 hE
  simp only [xR] at b0 b1 b2 b3 b4 b5
  obtain ⟨p0, p1, p2, p3, p4, p5⟩ := id hb10
  simp only [pR] at p0 p1 p2 p3 p4 p5
  obtain ⟨n0, n1, n2, n3, n4, n5⟩ := id hb14
  simp only [nR] at n0 n1 n2 n3 n4 n5
  have HGR := guard_rule
  have HPQ := fun W => eql_rule pR pR W
  simp only [pR] at HPQ
  have HD0 := Lib.hid (decide_eq_true rfl : decide (pR = pR) = true)
  simp only [List.append]
  go_wp2_with fail
  refine (lv_same1 w10 A5 c5 hl5).mono ?_
  rintro e w11 ⟨rfl, hEn⟩
  have hEn : Ext w10 w11 := Ext.trans (by repeat (first | with_reducible exact Ext.refl _ | with_reducible assumption | with_reducible refine Ext.drew ?_ | with_reducible refine Ext.drewN ?_ _ | with_reducible refine Ext.alloc ?_ _)) hEn
  replace hl5 := hl5.ext hEn
  replace hl8 := hl8.ext hEn
  replace hb10 := hb10.ext hEn
  replace hb14 := hb14.ext hEn
  replace hE := hE.trans hEn
  clear a0 a1 a2 a3 a4 a5 b0 b1 b2 b3 b4 b5 p0 p1 p2 p3 p4 p5 n0 n1 n2 n3 n4 n5
  clear hEn
  obtain ⟨a0, a1, a2, a3, a4, a5⟩ := HB1.out w11 hE
  simp only [uR] at a0 a1 a2 a3 a4 a5
  obtain ⟨b0, b1, b2, b3, b4, b5⟩ := HB2.out w11 hE
  simp only [xR] at b0 b1 b2 b3 b4 b5
  obtain ⟨p0, p1, p2, p3, p4, p5⟩ := id hb10
  simp only [pR] at p0 p1 p2 p3 p4 p5
  obtain ⟨n0, n1, n2, n3, n4, n5⟩ := id hb14
  simp only [nR] at n0 n1 n2 n3 n4 n5
  go_wp2_with fail
  refine (lv_same2 w11 A8 c8 hl8).mono ?_
  rintro e w12 ⟨rfl, hEn⟩
  have hEn : Ext w11 w12 := Ext.trans (by repeat (first | with_reducible exact Ext.refl _ | with_reducible assumption | with_reducible refine Ext.drew ?_ | with_reducible refine Ext.drewN ?_ _ | with_reducible refine Ext.alloc ?_ _)) hEn
  replace hl5 := hl5.ext hEn
  replace hl8 := hl8.ext hEn
  replace hb10 := hb10.ext hEn
  replace hb14 := hb14.ext hEn
  replace hE := hE.trans hEn
  clear a0 a1 a2 a3 a4 a5 b0 b1 b2 b3 b4 b5 p0 p1 p2 p3 p4 p5 n0 n1 n2 n3 n4 n5
  clear hEn
  obtain ⟨a0, a1, a2, a3, a4, a5⟩ := HB1.out w12 hE
  simp only [uR] at a0 a1 a2 a3 a4 a5
  obtain ⟨b0, b1, b2, b3, b4, b5⟩ := HB2.out w12 hE
  simp only [xR] at b0 b1 b2 b3 b4 b5
  obtain ⟨p0, p1, p2, p3, p4, p5⟩ := id hb10
  simp only [pR] at p0 p1 p2 p3 p4 p5
  obtain ⟨n0, n1, n2, n3, n4, n5⟩ := id hb14
  simp only [nR] at n0 n1 n2 n3 n4 n5
  go_wp2_with fail
  refine (lv_text w12 (HL.out.ext hE).1).mono ?_
  rintro e w13 ⟨rfl, hEn⟩
  have hEn : Ext w12 w13 := Ext.trans (by repeat (first | with_reducible exact Ext.refl _ | with_reducible assumption | with_reducible refine Ext.drew ?_ | with_reducible refine Ext.drewN ?_ _ | with_reducible refine Ext.alloc ?_ _)) hEn
  replace hl5 := hl5.ext hEn
  replace hl8 := hl8.ext hEn
  replace hb10 := hb10.ext hEn
  replace hb14 := hb14.ext hEn
  replace hE := hE.trans hEn
  clear a0 a1 a2 a3 a4 a5 b0 b1 b2 b3 b4 b5 p0 p1 p2 p3 p4 p5 n0 n1 n2 n3 n4 n5
  clear hEn
  obtain ⟨a0, a1, a2, a3, a4, a5⟩ := HB1.out w13 hE
  simp only [uR] at a0 a1 a2 a3 a4 a5
  obtain ⟨b0, b1, b2, b3, b4, b5⟩ := HB2.out w13 hE
  simp only [xR] at b0 b1 b2 b3 b4 b5
  obtain ⟨p0, p1, p2, p3, p4, p5⟩ := id hb10
  simp only [pR] at p0 p1 p2 p3 p4 p5
  obtain ⟨n0, n1, n2, n3, n4, n5⟩ := id hb14
  simp only [nR] at n0 n1 n2 n3 n4 n5
  go_wp2_with fail
  refine (lv_chkn w13).mono ?_
  rintro e w14 ⟨rfl, hEn⟩
  have hEn : Ext w13 w14 := Ext.trans (by repeat (first | with_reducible exact Ext.refl _ | with_reducible assumption | with_reducible refine Ext.drew ?_ | with_reducible refine Ext.drewN ?_ _ | with_reducible refine Ext.alloc ?_ _)) hEn
  replace hl5 := hl5.ext hEn
  replace hl8 := hl8.ext hEn
  replace hb10 := hb10.ext hEn
  replace hb14 := hb14.ext hEn
  replace hE := hE.trans hEn
  clear a0 a1 a2 a3 a4 a5 b0 b1 b2 b3 b4 b5 p0 p1 p2 p3 p4 p5 n0 n1 n2 n3 n4 n5
  clear hEn
  obtain ⟨a0, a1, a2, a3, a4, a5⟩ := HB1.out w14 hE
  simp only [uR] at a0 a1 a2 a3 a4 a5
  obtain ⟨b0, b1, b2, b3, b4, b5⟩ := HB2.out w14 hE
  simp only [xR] at b0 b1 b2 b3 b4 b5
  obtain ⟨p0, p1, p2, p3, p4, p5⟩ := id hb10
  simp only [pR] at p0 p1 p2 p3 p4 p5
  obtain ⟨n0, n1, n2, n3, n4, n5⟩ := id hb14
  simp only [nR] at n0 n1 n2 n3 n4 n5
  go_wp2_with fail
  refine (lv_chkk w14).mono ?_
  rintro e w15 ⟨rfl, hEn⟩
  have hEn : Ext w14 w15 := Ext.trans (by repeat (first | with_reducible exact Ext.refl _ | with_reducible assumption | with_reducible refine Ext.drew ?_ | with_reducible refine Ext.drewN ?_ _ | with_reducible refine Ext.alloc ?_ _)) hEn
  replace hl5 := hl5.ext hEn
  replace hl8 := hl8.ext hEn
  replace hb10 := hb10.ext hEn
  replace hb14 := hb14.ext hEn
  replace hE := hE.trans hEn
  clear a0 a1 a2 a3 a4 a5 b0 b1 b2 b3 b4 b5 p0 p1 p2 p3 p4 p5 n0 n1 n2 n3 n4 n5
  clear hEn
  obtain ⟨a0, a1, a2, a3, a4, a5⟩ := HB1.out w15 hE
  simp only [uR] at a0 a1 a2 a3 a4 a5
  obtain ⟨b0, b1, b2, b3, b4, b5⟩ := HB2.out w15 hE
  simp only [xR] at b0 b1 b2 b3 b4 b5
  obtain ⟨p0, p1, p2, p3, p4, p5⟩ := id hb10
  simp only [pR] at p0 p1 p2 p3 p4 p5
  obtain ⟨n0, n1, n2, n3, n4, n5⟩ := id hb14
  simp only [nR] at n0 n1 n2 n3 n4 n5
  go_wp2_with fail
  refine (lv_val w15 A5 c5 hl5).mono ?_
  rintro e w16 ⟨rfl, hEn⟩
  have hEn : Ext w15 w16 := Ext.trans (by repeat (first | with_reducible exact Ext.refl _ | with_reducible assumption | with_reducible refine Ext.drew ?_ | with_reducible refine Ext.drewN ?_ _ | with_reducible refine Ext.alloc ?_ _)) hEn
  replace hl5 := hl5.ext hEn
  replace hl8 := hl8.ext hEn
  replace hb10 := hb10.ext hEn
  replace hb14 := hb14.ext hEn
  replace hE := hE.trans hEn
  clear a0 a1 a2 a3 a4 a5 b0 b1 b2 b3 b4 b5 p0 p1 p2 p3 p4 p5 n0 n1 n2 n3 n4 n5
  clear hEn
  obtain ⟨a0, a1, a2, a3, a4, a5⟩ := HB1.out w16 hE
  simp only [uR] at a0 a1 a2 a3 a4 a5
  obtain ⟨b0, b1, b2, b3, b4, b5⟩ := HB2.out w16 hE
  simp only [xR] at b0 b1 b2 b3 b4 b5
  obtain ⟨p0, p1, p2, p3, p4, p5⟩ := id hb10
  simp only [pR] at p0 p1 p2 p3 p4 p5
  obtain ⟨n0, n1, n2, n3, n4, n5⟩ := id hb14
  simp only [nR] at n0 n1 n2 n3 n4 n5
  go_wp2_with fail
  refine (lv_val2 w16).mono ?_
  rintro e w17 ⟨rfl, hEn⟩
  have hEn : Ext w16 w17 := Ext.trans (by repeat (first | with_reducible exact Ext.refl _ | with_reducible assumption | with_reducible refine Ext.drew ?_ | with_reducible refine Ext.drewN ?_ _ | with_reducible refine Ext.alloc ?_ _)) hEn
  replace hl5 := hl5.ext hEn
  replace hl8 := hl8.ext hEn
  replace hb10 := hb10.ext hEn
  replace hb14 := hb14.ext hEn
  replace hE := hE.trans hEn
  clear a0 a1 a2 a3 a4 a5 b0 b1 b2 b3 b4 b5 p0 p1 p2 p3 p4 p5 n0 n1 n2 n3 n4 n5
  clear hEn
  obtain ⟨a0, a1, a2, a3, a4, a5⟩ := HB1.out w17 hE
  simp only [uR] at a0 a1 a2 a3 a4 a5
  obtain ⟨b0, b1, b2, b3, b4, b5⟩ := HB2.out w17 hE
  simp only [xR] at b0 b1 b2 b3 b4 b5
  obtain ⟨p0, p1, p2, p3, p4, p5⟩ := id hb10
  simp only [pR] at p0 p1 p2 p3 p4 p5
  obtain ⟨n0, n1, n2, n3, n4, n5⟩ := id hb14
  simp only [nR] at n0 n1 n2 n3 n4 n5
  go_wp2_with fail
  refine (lv_ord w17).mono ?_
  rintro e w18 ⟨rfl, hEn⟩
  have hEn : Ext w17 w18 := Ext.trans (by repeat (first | with_reducible exact Ext.refl _ | with_reducible assumption | with_reducible refine Ext.drew ?_ | with_reducible refine Ext.drewN ?_ _ | with_reducible refine Ext.alloc ?_ _)) hEn
  replace hl5 := hl5.ext hEn
  replace hl8 := hl8.ext hEn
  replace hb10 := hb10.ext hEn
  replace hb14 := hb14.ext hEn
  replace hE := hE.trans hEn
  clear a0 a1 a2 a3 a4 a5 b0 b1 b2 b3 b4 b5 p0 p1 p2 p3 p4 p5 n0 n1 n2 n3 n4 n5
  clear hEn
  obtain ⟨a0, a1, a2, a3, a4, a5⟩ := HB1.out w18 hE
  simp only [uR] at a0 a1 a2 a3 a4 a5
  obtain ⟨b0, b1, b2, b3, b4, b5⟩ := HB2.out w18 hE
  simp only [xR] at b0 b1 b2 b3 b4 b5
  obtain ⟨p0, p1, p2, p3, p4, p5⟩ := id hb10
  simp only [pR] at p0 p1 p2 p3 p4 p5
  obtain ⟨n0, n1, n2, n3, n4, n5⟩ := id hb14
  simp only [nR] at n0 n1 n2 n3 n4 n5
  go_wp2_with fail
  refine (lv_fault w18).mono ?_
  rintro e w19 ⟨rfl, hEn⟩
  have hEn : Ext w18 w19 := Ext.trans (by repeat (first | with_reducible exact Ext.refl _ | with_reducible assumption | with_reducible refine Ext.drew ?_ | with_reducible refine Ext.drewN ?_ _ | with_reducible refine Ext.alloc ?_ _)) hEn
  replace hE := hE.trans hEn
  clear a0 a1 a2 a3 a4 a5 b0 b1 b2 b3 b4 b5 p0 p1 p2 p3 p4 p5 n0 n1 n2 n3 n4 n5
  clear hEn hl5 hl8 hb10 hb14
  clear HB1 HB2 HPQ HGR HL HD0
  go_wp2_with fail
  exact bodyPost_ret (v := .bool true) (by simp [results, Tryz.results12, go_sem] <;> rfl) rfl ⟨rfl, HX1.out.trans hE⟩

end Go.Proofs.YtanclhcoiagcfaaGreatDoor
