/- PARTS OF THE WALKS, joined: CpJ, CoT, CpI, CoU, CpC, CoV. -/
import Derived.Test.YtnheioehadldmaaT16
import Derived.Test.YtnheioehadldmaaT08
import Derived.Test.YtnheioehadldmaaT15
import Derived.Test.YtnheioehadldmaaT11
import Derived.Test.YtnheioehadldmaaT04
import Derived.Test.YtnheioehadldmaaT09
import Derived.Laws.BitsAllLaws
/- THE WALK over column.Build. -/
namespace Go.Proofs.Ytnheioehadldmaa
open Go.RowKit
theorem flat3 : ∀ (l : List Sh) (j : Nat) (u : Value), (l.flatMap Sh.cells)[j]? = some u → ∃ k r, k < l.length ∧ j = k * 3 + r ∧ (Sh.cells l[k]!)[r]? = some u
 | [], j, u, h => by simp at h
 | x :: l, j, u, h => by
  rw [List.flatMap_cons] at h
  by_cases hj : j < 3
  ·rw [List.getElem?_append_left (by show j < 3; exact hj)] at h
   exact ⟨0, j, by simp, by omega, by simpa using h⟩
  ·rw [List.getElem?_append_right (by show 3 ≤ j; omega)] at h
   obtain ⟨k, r, h1, h2, h3⟩ := flat3 l _ u h
   have h2' : j - 3 = k * 3 + r := h2
   exact ⟨k + 1, r, by simpa using h1, by omega, by simpa using h3⟩
theorem Shares.cellsF {w : World} {ok : Nat → Prop} {A : Option Addr} {l : List Sh} (h : Shares w ok A l) : ∀ ad, A = some ad → ∀ (j : Nat) (u : Value), (l.flatMap KA.enc)[j]? = some u → w.cell? (ad.add j) = some u := fun ad e j u hu => by
 obtain ⟨k, r, hk, rfl, hr⟩ := flat3 l j u hu
 obtain ⟨b, o, e2, hc⟩ := h.at_ hk
 rw [e] at e2
 injection e2 with e2
 subst e2
 obtain ⟨-, c0, c1, c2⟩ := hc k hk
 rw [Addr.add_mid]
 match r, hr with
 | 0, hr => rw [Nat.add_zero, c0]; exact hr
 | 1, hr => rw [← Nat.add_assoc, c1]; exact hr
 | 2, hr => rw [← Nat.add_assoc, c2]; exact hr
 | r + 3, hr => cases hr
theorem Shares.noneLen {w : World} {ok : Nat → Prop} {A : Option Addr} {l : List Sh} (h : Shares w ok A l) : A = none → l.length = 0 := fun e => by
 rcases Nat.eq_zero_or_pos l.length with h0 | h0
 ·exact h0
 ·obtain ⟨b, o, e2, -⟩ := h.at_ h0
  rw [e] at e2; cases e2
def dirB (dir : Int) : Bool := decide (dir ≠ 1) && decide (dir ≠ 2)
def typE (typ : ByteArray) : Bool := decide (typ ≠ ByteArray.empty) && !nameB typ
def buildR (g : GraphG) (typ : ByteArray) (dir : Int) : Int × Col := if chkG g ≠ 0 then (chkG g, noCol) else if dirB dir = true then (1, noCol) else if typE typ = true then (6, noCol) else (0, packC (rowsG g (typsOf typ) dir))
def rowsN (g : GraphG) (types : List ByteArray) (dir : Int) (i : Nat) : List Sh := (g.nodes.take i).flatMap (fun n => (stepsL g types dir n.id).map (adjOf n.id))
theorem rowsN_succ (g : GraphG) (types : List ByteArray) (dir : Int) {i : Nat} (hi : i < g.nodes.length) : rowsN g types dir (i + 1) = rowsN g types dir i ++ (stepsL g types dir g.nodes[i]!.id).map (adjOf g.nodes[i]!.id) := by
 unfold rowsN
 rw [List.take_succ_eq_append_getElem hi, List.flatMap_append, getElem!_pos g.nodes i hi]
 simp
theorem rowsN_len (g : GraphG) (types : List ByteArray) (dir : Int) : ∀ {i : Nat}, i ≤ g.nodes.length → (rowsN g types dir i).length ≤ i * g.edges.length
 | 0, _ => Nat.zero_le _
 | i + 1, hi => by
  have ih := rowsN_len g types dir (i := i) (by omega)
  have h1 := stepsL_len g types dir g.nodes[i]!.id
  rw [rowsN_succ g types dir (by omega), List.length_append, List.length_map, Nat.add_mul, Nat.one_mul]
  omega
theorem rowsN_all (g : GraphG) (types : List ByteArray) (dir : Int) : rowsN g types dir g.nodes.length = rowsG g types dir := by unfold rowsN rowsG; rw [List.take_length]
theorem Strs.one {w : World} {b : Nat} {s : ByteArray} (h : w.cell? ⟨b, 0, none⟩ = some (.string s)) : Strs w (fun _ => True) (some ⟨b, 0, none⟩) [s] := by
 refine ⟨by show 1 ≤ 140737488355328; decide, fun _ => ⟨b, 0, rfl, fun k hk => ?_⟩⟩
 obtain rfl : k = 0 := by simpa using hk
 exact ⟨trivial, h⟩
set_option maxRecDepth 100000 in
set_option maxHeartbeats 1600000 in
theorem co_Build (g : GraphG) (typ : ByteArray) (dir : Int) (ok : Nat → Prop) (A B : Option Addr) (c d : Nat) (w : World) (hg : GraphAt w ok A B g) (hl : g.nodes.length ≤ 1000 ∧ g.edges.length ≤ 1000) :
  Calls Try.prog 22 #[.agg #[.slice A g.nodes.length c, .slice B g.edges.length d, .int .i64 g.nn, .int .i64 g.ne], .string typ, .int .i64 dir] w fun e w' => ∃ A B C D k0 k1 k2 k3, e = .returned (.tuple #[agC (buildR g typ dir).2 A B C D k0 k1 k2 k3, .int .i64 (buildR g typ dir).1]) ∧ ColAt w' (fun b => w.heap.size ≤ b) A B C D (buildR g typ dir).2 ∧ Ext w w' := by
 obtain ⟨q, w1, hq, hw1, g0, g1, g2, g3, hx1⟩ := box_graph w A B c d g 46
 obtain ⟨q2, w2, hq2, hw2, hrx, hrz, hx2⟩ := box_zero w1 26
 have HW1 := Lib.hid hw1
 have HW2 := Lib.hid hw2
 have HQQ := Lib.hid hq
 have HQ2 := Lib.hid (show q2 = q + 1 by rw [hq2, hw1, hq]; simp)
 have HRX := Lib.hid hrx
 have HRZ := Lib.hid hrz
 have HX := Lib.hid (hx1.trans hx2)
 have HQ := Lib.hid (show w.heap.size ≤ q2 by have := hx1.le; omega)
 have HQ1 := Lib.hid (show ¬ w2.heap.size ≤ q2 by rw [hw2, hq2]; simp)
 have HG := Lib.hid ((hg.ext hx1).ext hx2)
 have HCK := Lib.hid (gr_Check g ok A B c d w2 ((hg.ext hx1).ext hx2))
 have HPK := Lib.hid (fun (B : Option Addr) (ok : Nat → Prop) m W (h : Shares W ok B (rowsG g (typsOf typ) dir)) h2 => co_pack (rowsG g (typsOf typ) dir) ok B m W h h2)
 have HST := Lib.hid (fun (n : Int) (ok' : Nat → Prop) T e W (x : Ext w2 W) (ht : Strs W ok' T (typsOf typ)) => gr_Steps g (typsOf typ) n dir ok ok' A B T c d e W ((hg.ext hx1).ext (hx2.trans x)).edges ht (by omega))
 obtain ⟨R, hR⟩ : ∃ R, R = buildR g typ dir := ⟨_, rfl⟩
 rw [← hR]
 have HB0 := Lib.hid (fun (h : chkG g ≠ 0) => (by rw [hR]; unfold buildR; rw [if_pos h] : R = (chkG g, noCol)))
 have HB1 := Lib.hid (fun (h : chkG g = 0) (h1 : dirB dir = true) => (by rw [hR]; unfold buildR; rw [if_neg (fun e => e h), if_pos h1] : R = (1, noCol)))
 have HB2 := Lib.hid (fun (h : chkG g = 0) (h1 : dirB dir = false) (h2 : typE typ = true) => (by rw [hR]; unfold buildR; rw [if_neg (fun e => e h), if_neg (by rw [h1]; exact Bool.false_ne_true), if_pos h2] : R = (6, noCol)))
 have HB3 := Lib.hid (fun (h : chkG g = 0) (h1 : dirB dir = false) (h2 : typE typ = false) => (by rw [hR]; unfold buildR; rw [if_neg (fun e => e h), if_neg (by rw [h1]; exact Bool.false_ne_true), if_neg (by rw [h2]; exact Bool.false_ne_true)] : R = (0, packC (rowsG g (typsOf typ) dir))))
 replace g0 := hx2.cell g0
 replace g1 := hx2.cell g1
 replace g2 := hx2.cell g2
 replace g3 := hx2.cell g3
 have HLL := Lib.hid (fun i (hi : i ≤ g.nodes.length) => (by have h := rowsN_len g (typsOf typ) dir hi; have h2 : i * g.edges.length ≤ 1000 * 1000 := Nat.mul_le_mul (by omega) (by omega); omega : (rowsN g (typsOf typ) dir i).length ≤ 1000000))
 have HSL := Lib.hid (fun n => (by rw [List.length_map]; have := stepsL_len g (typsOf typ) dir n; omega : ((stepsL g (typsOf typ) dir n).map (adjOf n)).length ≤ 1000))
 have HRS := Lib.hid (fun i (hi : i < g.nodes.length) => rowsN_succ g (typsOf typ) dir hi)
 have HRA := Lib.hid (rowsN_all g (typsOf typ) dir)
 have HNV := Lib.hid ((hg.ext hx1).ext hx2).nodes
 have hnl := ((hg.ext hx1).ext hx2).nodes.len
 clear hR hg hw1 hw2 hq hq2 hrx hrz hx1 hx2
 obtain ⟨ec, hec⟩ : ∃ ec, ec = chkG g := ⟨_, rfl⟩
 rw [← hec] at HCK HB0 HB1 HB2 HB3
 clear hec HG
 go_enter Try.func22, Try.ntmps22
 go_upto_region 1 with (fail)
 rw [← HW1.out, ← HQQ.out, ← HQ2.out, ← HW2.out]
 clear HW1 HW2 HQQ HQ2
 have MKG := Lib.hid (fun V (e : Ext w2 V) => (⟨e.cell g0, e.cell g1, e.cell g2, e.cell g3⟩ : (V.cell? ⟨q, 0, none⟩ = some (.slice A g.nodes.length c) ∧ V.cell? ⟨q, 1, none⟩ = some (.slice B g.edges.length d) ∧ V.cell? ⟨q, 2, none⟩ = some (.int .i64 g.nn) ∧ V.cell? ⟨q, 3, none⟩ = some (.int .i64 g.ne))))
 by_cases hc0 : ec = 0
 ·replace HB1 := Lib.hid (HB1.out hc0)
  replace HB2 := Lib.hid (HB2.out hc0)
  replace HB3 := Lib.hid (HB3.out hc0)
  clear HB0
  subst hc0
  go_upto_region 4 with (go_at_call 45; ((with_reducible refine (HCK.out).mono ?_); rintro e w3 ⟨rfl, hx3⟩; obtain ⟨g0, g1, g2, g3⟩ := MKG.out _ hx3; clear HCK))
  have HX3 := Lib.hid hx3
  obtain ⟨bd, hbd⟩ : ∃ bd, bd = dirB dir := ⟨_, rfl⟩
  have HBD := Lib.hid hbd
  clear hbd
  go_cut [20] from 21 (fun s20 wx => s20 = .bool bd ∧ wx = w3)
  case first =>
   by_cases d1 : dir = 1
   ·have K := Lib.hid (by rw [HBD.out, d1]; rfl : bd = false)
    have g4 : (dir != 1) = false := by rw [d1]; rfl
    have g5 : (dir == 1) = true := by rw [d1]; rfl
    clear d1 HBD
    go_wp2_with fail
    go_meet
    case rel => exact ⟨by rw [K.out], rfl⟩
   ·by_cases d2 : dir = 2
    ·have K := Lib.hid (by rw [HBD.out, d2]; rfl : bd = false)
     have g4 : (dir != 1) = true := by rw [d2]; rfl
     have g5 : (dir != 2) = false := by rw [d2]; rfl
     clear d1 d2 HBD
     go_wp2_with fail
     go_meet
     case rel => exact ⟨by rw [K.out], rfl⟩
    ·have K := Lib.hid (by rw [HBD.out]; unfold dirB; rw [decide_eq_true d1, decide_eq_true d2]; rfl : bd = true)
     have g4 : (dir != 1) = true := bne_iff_ne.2 d1
     have g5 : (dir != 2) = true := bne_iff_ne.2 d2
     clear d1 d2 HBD
     go_wp2_with fail
     go_meet
     case rel => exact ⟨by rw [K.out], rfl⟩
  case rest =>
   obtain ⟨rfl, hwx⟩ := hcut
   subst hwx
   obtain ⟨w4, hw4⟩ : ∃ W, W = wc := ⟨_, rfl⟩
   subst hw4
   cases bd
   ·have HD0 := Lib.hid HBD.out.symm
    clear HBD
    go_upto_region 6 with (fail)
    obtain ⟨bn, hbn⟩ : ∃ bn, bn = typE typ := ⟨_, rfl⟩
    have HBN := Lib.hid hbn
    obtain ⟨bt, hbt⟩ : ∃ bt : Bool, bt = decide (typ ≠ ByteArray.empty) := ⟨_, rfl⟩
    have HBT := Lib.hid hbt
    have hte : typ = ByteArray.empty ↔ typ.toList = [] := ⟨fun h => by rw [h, ByteArray.toList_eq]; rfl, fun h => by rw [ByteArray.toList_eq] at h; exact ba_ext h⟩
    have t1 : typ.toList.isEmpty = !bt := by
     rw [hbt]
     by_cases h : typ.toList = []
     ·rw [decide_eq_false (show ¬ typ ≠ ByteArray.empty from fun h2 => h2 (hte.2 h)), h]; rfl
     ·rw [decide_eq_true (show typ ≠ ByteArray.empty from fun h2 => h (hte.1 h2))]
      cases hl9 : typ.toList with
      | nil => exact absurd hl9 h
      | cons a l => rfl
    have HTE := Lib.hid (⟨fun h => by
     rw [hbt] at h
     exact hte.1 (Decidable.not_not.1 (of_decide_eq_false h)), fun h h2 => by
     rw [hbt] at h
     exact of_decide_eq_true h (hte.2 h2)⟩ : (bt = false → typ.toList = []) ∧ (bt = true → ¬ typ.toList = []))
    clear hte
    have HNM := Lib.hid (g_Name typ w4)
    clear hbn hbt
    go_cut [28] from 29 (fun s28 wx => s28 = .bool bn ∧ wx = w4)
    case first =>
     cases bt
     ·have t2 := HTE.out.1 rfl
      have K := Lib.hid (by rw [HBN.out]; unfold typE; rw [← HBT.out]; rfl : bn = false)
      clear HBN HBT HNM HTE
      go_wp2_with fail
      go_meet
      case rel => exact ⟨by rw [K.out], rfl⟩
     ·have t2 := HTE.out.2 rfl
      have K0 := Lib.hid (by rw [HBN.out]; unfold typE; rw [← HBT.out]; rfl : bn = !nameB typ)
      generalize nameB typ = nb at *
      cases nb
      ·have K := Lib.hid (K0.out.trans (by rfl : _ = true))
       clear HBN HBT K0 HTE
       go_wp2_with (go_at_call 46; ((with_reducible refine (HNM.out).mono ?_); rintro e w5 ⟨rfl, rfl⟩))
       go_meet
       case rel => exact ⟨by rw [K.out], rfl⟩
      ·have K := Lib.hid (K0.out.trans (by rfl : _ = false))
       clear HBN HBT K0 HTE
       go_wp2_with (go_at_call 46; ((with_reducible refine (HNM.out).mono ?_); rintro e w5 ⟨rfl, rfl⟩))
       go_meet
       case rel => exact ⟨by rw [K.out], rfl⟩
    case rest =>
     obtain ⟨rfl, hwx⟩ := hcut
     subst hwx
     obtain ⟨w5, hw5⟩ : ∃ W, W = wc := ⟨_, rfl⟩
     subst hw5
     cases bn
     ·have HRR := Lib.hid (HB3.out HD0.out HBN.out.symm)
      have HTY := Lib.hid (by unfold typsOf; rfl : typsOf typ = if typ = ByteArray.empty then [] else [typ])
      clear HNM HB1 HB2 HB3 HBN
      go_upto_if 38 with (fail)
      clear t1
      go_cut [9] from 37 (fun s9 wx => ∃ (T : Option Addr) (e : Nat), s9 = .slice T (typsOf typ).length e ∧ Hid (Strs wx (fun _ => True) T (typsOf typ)) ∧ Hid (Ext w2 wx))
      case first =>
       cases bt
       ·have t2 := HTE.out.1 rfl
        have K := Lib.hid (HTY.out.trans (if_pos (by have h := HBT.out; simpa using h.symm)))
        clear HBT HTY HTE
        go_wp2_with fail
        go_meet
        case rel => exact ⟨none, 0, by rw [K.out]; rfl, Lib.hid (by rw [K.out]; exact SliceR.nil _ _ _), HX3⟩
       ·have t2 := HTE.out.2 rfl
        have K := Lib.hid (HTY.out.trans (if_neg (by have h := HBT.out; simpa using h.symm)))
        have HSX := Lib.hid (HX3.out.trans ((Ext.refl w5).alloc (.cells #[.string typ] 9)))
        have HSS := Lib.hid (Strs.one (w := w5.alloc (.cells #[.string typ] 9)) (b := w5.heap.size) (s := typ) (by go_simp))
        clear HBT HTY HTE
        go_wp2_with fail
        go_meet
        case rel => exact ⟨some ⟨w5.heap.size, 0, none⟩, 1, by rw [K.out]; rfl, Lib.hid (by rw [K.out]; exact HSS.out), HSX⟩
      case rest =>
       obtain ⟨T, e, rfl, HSS, HX5⟩ := hcut
       obtain ⟨w6, hw6⟩ : ∃ W, W = wc := ⟨_, rfl⟩
       subst hw6
       clear HBT HTY HTE HX3 g0 g1 g2 g3 HD0
       obtain ⟨g0, g1, g2, g3⟩ := MKG.out _ HX5.out
       go_wp2_with fail
       go_loopw [10, 44] (fun u10 u W => ∃ (vO : Value) (i : Nat), vO = u10 ∧ u = .int .i64 i ∧ i ≤ g.nodes.length ∧ Hid (OA W w6.heap.size vO (rowsN g (typsOf typ) dir i)) ∧ Hid (Ext w6 W)) (fun _ u _ => g.nodes.length - (intOf u).toNat)
       case atStart => exact ⟨_, 0, rfl, rfl, Nat.zero_le _, Lib.hid (show OA _ _ _ [] from OwnG.nil _ _ _ _ _), Lib.hid (Ext.refl _)⟩
       case round =>
        clear g0 g1 g2 g3
        obtain ⟨vO, i, rfl, rfl, hi, HO, hE⟩ := hrel
        by_cases hlt : i < g.nodes.length
        ·obtain ⟨b, o, rfl, hcn⟩ := HNV.out.2 (by omega)
         obtain ⟨-, n0, LA, lc, PA, pc, n1, -, -, n2, -, -⟩ := hcn i hlt
         have HEW := Lib.hid (HX5.out.trans hE.out)
         replace n0 := HEW.out.cell n0
         replace n1 := HEW.out.cell n1
         replace n2 := HEW.out.cell n2
         rw [← getElem!_pos g.nodes i hlt] at n0 n1 n2
         have HSC := Lib.hid (HRS.out i hlt)
         have HLN := Lib.hid (HLL.out i (by omega))
         have HLS := Lib.hid (HSL.out g.nodes[i]!.id)
         clear hcn
         generalize g.nodes[i]! = nd at *
         obtain ⟨y, w7, hy, hw7, a0, a1, a2, hx7⟩ := box_node wr nd.id LA PA nd.labels.length lc nd.props.length pc 51
         have HW7 := Lib.hid hw7
         have HY := Lib.hid hy
         have HST2 := Lib.hid (HST.out nd.id (fun _ => True) T e w7 (HEW.out.trans hx7) (HSS.out.ext (hE.out.trans hx7)))
         have HX7 := Lib.hid hx7
         obtain ⟨g0, g1, g2, g3⟩ := MKG.out _ (HEW.out.trans hx7)
         obtain ⟨L, hL⟩ : ∃ L, L = (stepsL g (typsOf typ) dir nd.id).map (adjOf nd.id) := ⟨_, rfl⟩
         have hLl : (stepsL g (typsOf typ) dir nd.id).length = L.length := by rw [hL, List.length_map]
         rw [← hL] at HSC HLS HST2
         rw [hLl] at HST2
         have hl8 : (rowsN g (typsOf typ) dir i).length + L.length ≤ 8388608 := by have h1 := HLN.out; have h2 := HLS.out; omega
         generalize rowsN g (typsOf typ) dir i = K at *
         clear hL hLl hw7 hy hx7
         go_upto_region 15 with (fail)
         rw [← HW7.out, ← HY.out]
         clear HW7 HY n0 n1 n2
         go_upto_region 16 with (first | (go_at_call 23; ((with_reducible refine (HST2.out).mono ?_); rintro e9 w8 ⟨A8, c8, rfl, -, hS8, hx8⟩; have HS8 := Lib.hid hS8; clear HST2 hS8)) | (at_builtin; go_loud (refine own_catG T_ka rfl (.tmp 48) (.tmp 54) rfl rfl (OwnG.ext HO.out (HX7.out.trans hx8)) (Nat.le_trans hE.out.le (Nat.le_trans HX7.out.le hx8.le)) A8 L.length c8 L rfl rfl HS8.out.noneLen HS8.out.cellsF (fun _ _ => trivial) hl8 (by decide) ?_); intro v9 w9 hO9 hg9 _; have HO9 := Lib.hid hO9; have HE9 := Lib.hid ((hE.out.trans (HX7.out.trans hx8)).grown hg9 (fun k hk => (OwnG.lt HO.out hk).1)); clear hO9 hg9))
         clear HO hE g0 g1 g2 g3 a0 a1 a2 hx8 hl8
         go_wp2_with fail
         go_roundw
         case rel => exact ⟨_, i + 1, rfl, by go_num, by omega, Lib.hid (by rw [HSC.out]; exact HO9.out), HE9⟩
         case measure => simp [intOf]; omega
        ·have hke : i = g.nodes.length := by omega
         have HOF := Lib.hid (by have h := HO.out; rw [hke, HRA.out] at h; exact h : OA wr w6.heap.size vO (rowsG g (typsOf typ) dir))
         have HGL := Lib.hid (by have h := HLL.out g.nodes.length (Nat.le_refl _); rw [HRA.out] at h; exact h : (rowsG g (typsOf typ) dir).length ≤ 1000000)
         have HEW := Lib.hid (HX5.out.trans hE.out)
         clear HO hke HLL HRS HRA HSL HST hE
         obtain ⟨A9, c9, e9, h9, hV9⟩ := OA.shares HOF.out (by have := HGL.out; omega)
         have HP9 := Lib.hid (HPK.out A9 _ c9 wr hV9 (by have := HGL.out; omega))
         subst e9
         generalize packC (rowsG g (typsOf typ) dir) = Z at *
         generalize rowsG g (typsOf typ) dir = S at *
         clear hV9 HPK HOF
         go_wp2_with (go_at_call 26; ((with_reducible refine (HP9.out).mono ?_); rintro e w7 ⟨A3, B3, C3, D3, k0, k1, k2, k3, rfl, hc7, hx7⟩; obtain ⟨r0, r1, r2, r3⟩ := HRX.out.grown ((HEW.out.trans hx7).gr none) (by simp); obtain ⟨f0, f1, f2, f3⟩ := HRZ.out.grown HRX.out ((HEW.out.trans hx7).gr none) (by simp)))
         (try simp only [Exit.inBlock, Exit.then])
         have HX7 := Lib.hid (HEW.out.trans hx7)
         obtain ⟨w8, hw8⟩ : ∃ W, W = (((w7.setCell ⟨q2, 0, none⟩ (.slice A3 Z.nodes.length k0)).setCell ⟨q2, 1, none⟩ (.slice B3 Z.first.length k1)).setCell ⟨q2, 2, none⟩ (.slice C3 Z.tos.length k2)).setCell ⟨q2, 3, none⟩ (.slice D3 Z.edges.length k3) := ⟨_, rfl⟩
         have hd := set4 (HRX.out.grown (HX7.out.gr none) (by simp)) (.slice A3 Z.nodes.length k0) (.slice B3 Z.first.length k1) (.slice C3 Z.tos.length k2) (.slice D3 Z.edges.length k3)
         rw [← hw8] at hd
         obtain ⟨e0, e1, e2, e3⟩ := hd
         have HF := Lib.hid (by rw [hw8]; exact ((((HX.out.trans HX7.out).setCell HQ.out _).setCell HQ.out _).setCell HQ.out _).setCell HQ.out _ : Ext w w8)
         have hnq : ¬ wr.heap.size ≤ q2 := fun h => HQ1.out (Nat.le_trans HEW.out.le h)
         have HCC := Lib.hid (by rw [hw8]; exact (((hc7.put hnq 0 _).put hnq 1 _).put hnq 2 _).put hnq 3 _ : ColAt w8 (fun b => wr.heap.size ≤ b) A3 B3 C3 D3 Z)
         have HLW := Lib.hid (Nat.le_trans HX.out.le HEW.out.le)
         rw [← hw8]
         clear hw8 r0 r1 r2 r3 f0 f1 f2 f3 hc7 hx7 hnq h9
         refine bodyPost_ret (v := .tuple #[.agg #[.slice A3 Z.nodes.length k0, .slice B3 Z.first.length k1, .slice C3 Z.tos.length k2, .slice D3 Z.edges.length k3], .int .i64 0]) (by simp [results, Try.results22, go_sem, *]) rfl ?_
         rw [HRR.out]
         first | exact ⟨A3, B3, C3, D3, k0, k1, k2, k3, rfl, HCC.out.to (fun b hb => Nat.le_trans HLW.out hb), HF.out⟩ | exact ⟨A3, B3, C3, D3, ⟨k0, k1, k2, k3, rfl⟩, HCC.out.to (fun b hb => Nat.le_trans HLW.out hb), HF.out⟩
     ·have HNO := Lib.hid (HB2.out HD0.out HBN.out.symm)
      clear HNM t1 HTE g0 g1 g2 g3
      go_upto_region 7 with (fail)
      obtain ⟨r0, r1, r2, r3⟩ := HRX.out.grown (HX3.out.gr none) (by simp)
      obtain ⟨f0, f1, f2, f3⟩ := HRZ.out.grown HRX.out (HX3.out.gr none) (by simp)
      obtain ⟨w8, hw8⟩ : ∃ W, W = (((w5.setCell ⟨q2, 0, none⟩ (.slice none 0 0)).setCell ⟨q2, 1, none⟩ (.slice none 0 0)).setCell ⟨q2, 2, none⟩ (.slice none 0 0)).setCell ⟨q2, 3, none⟩ (.slice none 0 0) := ⟨_, rfl⟩
      have hd := set4 (HRX.out.grown (HX3.out.gr none) (by simp)) (.slice none 0 0) (.slice none 0 0) (.slice none 0 0) (.slice none 0 0)
      rw [← hw8] at hd
      obtain ⟨e0, e1, e2, e3⟩ := hd
      have HF := Lib.hid (by rw [hw8]; exact ((((HX.out.trans HX3.out).setCell HQ.out _).setCell HQ.out _).setCell HQ.out _).setCell HQ.out _ : Ext w w8)
      go_wp2_with fail
      (try simp only [Exit.inBlock, Exit.then])
      rw [← hw8]
      clear hw8 r0 r1 r2 r3 f0 f1 f2 f3
      refine bodyPost_ret (v := .tuple #[.agg #[.slice none 0 0, .slice none 0 0, .slice none 0 0, .slice none 0 0], .int .i64 6]) (by simp [results, Try.results22, go_sem, *]) rfl ?_
      rw [HNO.out]
      first | exact ⟨none, none, none, none, 0, 0, 0, 0, rfl, ColAt.none _ _, by first | exact HF.out | exact X1 HF.out⟩ | exact ⟨none, none, none, none, ⟨0, 0, 0, 0, rfl⟩, ColAt.none _ _, by first | exact HF.out | exact X1 HF.out⟩
   ·have HNO := Lib.hid (HB1.out HBD.out.symm)
    clear g0 g1 g2 g3
    go_upto_region 5 with (fail)
    obtain ⟨r0, r1, r2, r3⟩ := HRX.out.grown (HX3.out.gr none) (by simp)
    obtain ⟨f0, f1, f2, f3⟩ := HRZ.out.grown HRX.out (HX3.out.gr none) (by simp)
    obtain ⟨w8, hw8⟩ : ∃ W, W = (((w4.setCell ⟨q2, 0, none⟩ (.slice none 0 0)).setCell ⟨q2, 1, none⟩ (.slice none 0 0)).setCell ⟨q2, 2, none⟩ (.slice none 0 0)).setCell ⟨q2, 3, none⟩ (.slice none 0 0) := ⟨_, rfl⟩
    have hd := set4 (HRX.out.grown (HX3.out.gr none) (by simp)) (.slice none 0 0) (.slice none 0 0) (.slice none 0 0) (.slice none 0 0)
    rw [← hw8] at hd
    obtain ⟨e0, e1, e2, e3⟩ := hd
    have HF := Lib.hid (by rw [hw8]; exact ((((HX.out.trans HX3.out).setCell HQ.out _).setCell HQ.out _).setCell HQ.out _).setCell HQ.out _ : Ext w w8)
    go_wp2_with fail
    (try simp only [Exit.inBlock, Exit.then])
    rw [← hw8]
    clear hw8 r0 r1 r2 r3 f0 f1 f2 f3
    refine bodyPost_ret (v := .tuple #[.agg #[.slice none 0 0, .slice none 0 0, .slice none 0 0, .slice none 0 0], .int .i64 1]) (by simp [results, Try.results22, go_sem, *]) rfl ?_
    rw [HNO.out]
    first | exact ⟨none, none, none, none, 0, 0, 0, 0, rfl, ColAt.none _ _, by first | exact HF.out | exact X1 HF.out⟩ | exact ⟨none, none, none, none, ⟨0, 0, 0, 0, rfl⟩, ColAt.none _ _, by first | exact HF.out | exact X1 HF.out⟩
 ·have HNO := Lib.hid (HB0.out hc0)
  have g : (ec != 0) = true := by rw [bne_iff_ne]; exact hc0
  have gx : (ec == 0) = false := beq_eq_false_iff_ne.2 hc0
  go_upto_region 3 with (go_at_call 45; ((with_reducible refine (HCK.out).mono ?_); rintro e w3 ⟨rfl, hx3⟩; obtain ⟨g0, g1, g2, g3⟩ := MKG.out _ hx3; clear HCK))
  clear g0 g1 g2 g3
  obtain ⟨r0, r1, r2, r3⟩ := HRX.out.grown (hx3.gr none) (by simp)
  obtain ⟨f0, f1, f2, f3⟩ := HRZ.out.grown HRX.out (hx3.gr none) (by simp)
  obtain ⟨w8, hw8⟩ : ∃ W, W = (((w3.setCell ⟨q2, 0, none⟩ (.slice none 0 0)).setCell ⟨q2, 1, none⟩ (.slice none 0 0)).setCell ⟨q2, 2, none⟩ (.slice none 0 0)).setCell ⟨q2, 3, none⟩ (.slice none 0 0) := ⟨_, rfl⟩
  have hd := set4 (HRX.out.grown (hx3.gr none) (by simp)) (.slice none 0 0) (.slice none 0 0) (.slice none 0 0) (.slice none 0 0)
  rw [← hw8] at hd
  obtain ⟨e0, e1, e2, e3⟩ := hd
  have HF := Lib.hid (by rw [hw8]; exact ((((HX.out.trans hx3).setCell HQ.out _).setCell HQ.out _).setCell HQ.out _).setCell HQ.out _ : Ext w w8)
  go_wp2_with fail
  (try simp only [Exit.inBlock, Exit.then])
  rw [← hw8]
  clear hw8 r0 r1 r2 r3 f0 f1 f2 f3
  refine bodyPost_ret (v := .tuple #[.agg #[.slice none 0 0, .slice none 0 0, .slice none 0 0, .slice none 0 0], .int .i64 ec]) (by simp [results, Try.results22, go_sem, *]) rfl ?_
  rw [HNO.out]
  first | exact ⟨none, none, none, none, 0, 0, 0, 0, rfl, ColAt.none _ _, by first | exact HF.out | exact X1 HF.out⟩ | exact ⟨none, none, none, none, ⟨0, 0, 0, 0, rfl⟩, ColAt.none _ _, by first | exact HF.out | exact X1 HF.out⟩
end Go.Proofs.Ytnheioehadldmaa

/- THE WALK over column.Entries. -/
namespace Go.Proofs.Ytnheioehadldmaa
open Go.RowKit
set_option maxRecDepth 100000 in
theorem co_Entries (c : Col) (ok : Nat → Prop) (A B Cx D : Option Addr) (k0 k1 k2 k3 : Nat) (w : World) (hv : ColAt w ok A B Cx D c) (hm : c.tos.length ≤ 8000000) :
  Calls Try.prog 17 #[agC c A B Cx D k0 k1 k2 k3] w fun e w' => ∃ A' c', e = .returned (.slice A' (entR c).length c') ∧ (entR c).length ≤ c' ∧ Shares w' (fun b => w.heap.size ≤ b) A' (entR c) ∧ Ext w w' := by
 obtain ⟨q, w1, hq, hw1, ⟨a0, a1, a2, a3⟩, hx⟩ := box_col w c A B Cx D k0 k1 k2 k3 26
 have HW := Lib.hid hw1
 have HQ := Lib.hid hq
 have HX := Lib.hid hx
 have HVA := Lib.hid (co_Valid c ok A B Cx D k0 k1 k2 k3 w1 (hv.ext hx) hm)
 have HFT := Lib.hid (fun (hs : shapeP c) W (e : Ext w1 W) => co_unpack c ok A B Cx D k0 k1 k2 k3 W ((hv.ext hx).ext e) hs hm)
 have HE1 := Lib.hid (fun (h : colB c = true) => (by unfold entR; rw [if_pos h] : entR c = flatC c))
 have HE0 := Lib.hid (fun (h : colB c = false) => (by unfold entR; rw [if_neg (by rw [h]; exact Bool.false_ne_true)] : entR c = []))
 have HSP := Lib.hid (fun (h : colB c = true) => valid_shape (colB_iff.1 h))
 obtain ⟨R, hR⟩ : ∃ R, R = entR c := ⟨_, rfl⟩
 rw [← hR] at HE1 HE0 ⊢
 clear hw1 hq hv hx hR
 unfold agC at HVA HFT ⊢
 go_enter Try.func17, Try.ntmps17
 go_upto_region 1 with (fail)
 rw [← HW.out, ← HQ.out]
 clear HW HQ
 cases hb : colB c
 ·rw [hb] at HVA
  have e := HE0.out hb
  subst e
  clear hb HE0 HE1 HSP HFT
  go_wp2_with (go_at_call 12; ((with_reducible refine (HVA.out).mono ?_); rintro e w2 ⟨rfl, hx2⟩))
  go_ret
  exact ⟨none, 0, rfl, Nat.le_refl _, SliceR.nil _ _ _, HX.out.trans hx2⟩
 ·rw [hb] at HVA
  have e := HE1.out hb
  have HF2 := Lib.hid (HFT.out (HSP.out hb))
  rw [← e] at HF2
  clear hb e HE0 HE1 HSP HFT
  go_wp2_with (first | (go_at_call 12; ((with_reducible refine (HVA.out).mono ?_); rintro e w2 ⟨rfl, hx2⟩; replace a0 := hx2.cell a0; replace a1 := hx2.cell a1; replace a2 := hx2.cell a2; replace a3 := hx2.cell a3)) | (go_at_call 34; ((with_reducible refine (HF2.out _ hx2).mono ?_); rintro e w3 ⟨A3, c3, rfl, hc3, hV3, hx3⟩)))
  go_ret
  have hle := Nat.le_trans HX.out.le hx2.le
  exact ⟨A3, c3, rfl, hc3, SliceR.mono hV3 (fun _ _ _ _ hx => ⟨Nat.le_trans hle hx.1, hx.2⟩), HX.out.trans (hx2.trans hx3)⟩
end Go.Proofs.Ytnheioehadldmaa

/- THE WALKS over slices.IndexFunc, slices.DeleteFunc at entries; column.Row, column.Degree. -/
namespace Go.Proofs.Ytnheioehadldmaa
open Go.RowKit
set_option maxRecDepth 100000 in
set_option maxHeartbeats 3200000 in
theorem co_unpackO (c : Col) (ok : Nat → Prop) (A B Cx D : Option Addr) (k0 k1 k2 k3 : Nat) (w : World) (hv : ColAt w ok A B Cx D c) (hs : shapeP c) (hm : c.tos.length ≤ 8000000) :
  Calls Try.prog 34 #[agC c A B Cx D k0 k1 k2 k3] w fun e w' => ∃ v, e = .returned v ∧ OA w' w.heap.size v (flatC c) ∧ Ext w w' := by
 obtain ⟨q, w1, hq, hw1, ⟨a0, a1, a2, a3⟩, hx⟩ := box_col w c A B Cx D k0 k1 k2 k3 26
 have HW := Lib.hid hw1
 have HQ := Lib.hid hq
 have HX := Lib.hid hx
 have hnl := hv.n.len
 have HV := Lib.hid (hv.ext hx)
 obtain ⟨R, hR⟩ : ∃ R, R = flatC c := ⟨_, rfl⟩
 rw [← hR]
 have HR := Lib.hid hR
 clear hw1 hq hv hx hR
 unfold agC
 go_enter Try.func34, Try.ntmps34
 go_upto_region 1 with (fail)
 rw [← HW.out, ← HQ.out]
 clear HW HQ
 by_cases hn0 : c.nodes.length = 0
 ·have hz : R = [] := by
   rw [HR.out]; unfold flatC; rw [hn0]; rfl
  subst hz
  clear HV HR
  generalize c.nodes.length = nl at *
  subst hn0
  go_wp2_with fail
  go_loopw [3, 10] (fun v u W => ∃ (_ : Nat), v = .slice none 0 0 ∧ u = .int .i64 0 ∧ Hid (Ext w1 W)) (fun _ _ _ => 0)
  case atStart => exact ⟨0, rfl, rfl, Lib.hid (by solve_by_elim [X0, X1, X2, X3])⟩
  case round =>
   obtain ⟨-, rfl, rfl, hE⟩ := hrel
   replace a0 := hE.out.cell a0
   go_wp2_with fail
   go_ret
   exact ⟨_, rfl, OwnG.nil _ _ _ _ _, HX.out.trans hE.out⟩
 ·have hS : ShapeC c := by
   rcases hs with ⟨h1, -⟩ | h1
   ·exact absurd (by rw [h1]; rfl) hn0
   ·exact h1
  have hfl : c.nodes.length + 1 ≤ c.first.length := by have := hS.len; omega
  have hel : c.tos.length ≤ c.edges.length := by have := hS.same; omega
  have hlast := hS.lt (i := 0) (j := c.nodes.length) (by omega) (Nat.le_refl _)
  rw [hS.zero, hS.last] at hlast
  obtain ⟨bn, on, rfl, hcn⟩ := HV.out.n.2 (by omega)
  obtain ⟨bf, of, rfl, hcf⟩ := HV.out.f.2 (by omega)
  obtain ⟨bt, ot, rfl, hct⟩ := HV.out.t.2 (by omega)
  obtain ⟨be, oe, rfl, hce⟩ := HV.out.e.2 (by omega)
  have HN := Lib.hid (fun t (ht : t < c.nodes.length) W (e : Ext w1 W) => (by have h := (hcn t ht).2; rw [Nat.mul_one, ← getElem!_pos _ t ht] at h; exact e.cell h : W.cell? ⟨bn, on + t, none⟩ = some (.int .i64 c.nodes[t]!)))
  have HF := Lib.hid (fun t (ht : t < c.first.length) W (e : Ext w1 W) => (by have h := (hcf t ht).2; rw [Nat.mul_one, ← getElem!_pos _ t ht] at h; exact e.cell h : W.cell? ⟨bf, of + t, none⟩ = some (.int .i64 c.first[t]!)))
  have HT := Lib.hid (fun t (ht : t < c.tos.length) W (e : Ext w1 W) => (by have h := (hct t ht).2; rw [Nat.mul_one, ← getElem!_pos _ t ht] at h; exact e.cell h : W.cell? ⟨bt, ot + t, none⟩ = some (.int .i64 c.tos[t]!)))
  have HEE := Lib.hid (fun t (ht : t < c.edges.length) W (e : Ext w1 W) => (by have h := (hce t ht).2; rw [Nat.mul_one, ← getElem!_pos _ t ht] at h; exact e.cell h : W.cell? ⟨be, oe + t, none⟩ = some (.int .i64 c.edges[t]!)))
  have MKQ := Lib.hid (fun V (e : Ext w1 V) => (⟨e.cell a0, e.cell a1, e.cell a2, e.cell a3⟩ : (V.cell? ⟨q, 0, none⟩ = some (.slice (some ⟨bn, on, none⟩) c.nodes.length k0) ∧ V.cell? ⟨q, 1, none⟩ = some (.slice (some ⟨bf, of, none⟩) c.first.length k1) ∧ V.cell? ⟨q, 2, none⟩ = some (.slice (some ⟨bt, ot, none⟩) c.tos.length k2) ∧ V.cell? ⟨q, 3, none⟩ = some (.slice (some ⟨be, oe, none⟩) c.edges.length k3))))
  have HS := Lib.hid hS
  clear hcn hcf hct hce HV hn0 hlast
  go_wp2_with fail
  go_loopw [3, 10] (fun v3 u W => ∃ (vO : Value) (i : Nat), vO = v3 ∧ u = .int .i64 i ∧ i ≤ c.nodes.length ∧ Hid (OA W w1.heap.size vO (flatK c i)) ∧ Hid (Ext w1 W)) (fun _ u _ => c.nodes.length - (intOf u).toNat)
  case atStart => exact ⟨_, 0, rfl, rfl, Nat.zero_le _, Lib.hid (OwnG.nil _ _ _ _ _), Lib.hid (by solve_by_elim [X0, X1, X2, X3])⟩
  case round =>
   obtain ⟨vO, i, rfl, rfl, hi, HO, hE⟩ := hrel
   obtain ⟨a0, a1, a2, a3⟩ := MKQ.out wr hE.out
   by_cases hlt : i < c.nodes.length
   ·obtain ⟨nv, hnv⟩ : ∃ nv, nv = c.nodes[i]! := ⟨_, rfl⟩
    have HCN := Lib.hid (HN.out i hlt)
    rw [← hnv] at HCN
    have n0 := HCN.out wr hE.out
    have f0 := HF.out i (by omega) wr hE.out
    have hi1 : i + 1 < c.first.length := by omega
    have hi0 : i < c.first.length := by omega
    obtain ⟨x, hx⟩ : ∃ x : Nat, x = c.first[i]!.toNat := ⟨_, rfl⟩
    obtain ⟨y, hy⟩ : ∃ y : Nat, y = c.first[i + 1]!.toNat := ⟨_, rfl⟩
    have ex : c.first[i]! = (x : Int) := by have := HS.out.nn (i := i) (by omega); omega
    have ey : c.first[i + 1]! = (y : Int) := by have := HS.out.nn (i := i + 1) (by omega); omega
    have hxy : x ≤ y := by have := HS.out.rise i hlt; omega
    have hyt : y ≤ c.tos.length := by have := HS.out.le (i := i + 1) (by omega); omega
    have hlx := flatK_len HS.out hi
    have wi : IntKind.i64.wrap ((i : Int) + 1) = ((i + 1 : Nat) : Int) := by rw [IntKind.wrap_i64]; omega
    have HFN := Lib.hid (fun W (e : Ext w1 W) => (by have h := HF.out (i + 1) hi1 W e; rw [ey] at h; exact h : W.cell? ⟨bf, of + (i + 1), none⟩ = some (.int .i64 (y : Int))))
    have HSC := Lib.hid (flatK_succ c i)
    rw [← hy] at HSC
    have HRS := Lib.hid (fun k (hk : x ≤ k) => ((rowK_snoc (c := c) (i := i) (k := k) (by omega)).trans (by rw [hnv]; rfl) : rowK c i (k + 1) = rowK c i k ++ [(⟨nv, c.tos[k]!, c.edges[k]!⟩ : Sh)]))
    have HR0 := Lib.hid (by rw [hx]; exact rowK_start c i : rowK c i x = [])
    have HRL := Lib.hid (fun k => (by unfold rowK; rw [List.length_map, List.length_range', ← hx] : (rowK c i k).length = k - x))
    rw [← hx] at hlx
    have HLX := Lib.hid hlx
    clear hlx
    rw [ex] at f0
    have HE0 := hE
    have HO0 := Lib.hid (by rw [HR0.out, List.append_nil]; exact HO.out : OA wr w1.heap.size vO (flatK c i ++ rowK c i x))
    clear hx hy ex ey HO hE HR0 hnv
    go_wp2_with fail
    go_loopw [3, 6] (fun v3 u W => ∃ (vO : Value) (k : Nat), vO = v3 ∧ u = .int .i64 k ∧ x ≤ k ∧ k ≤ y ∧ Hid (OA W w1.heap.size vO (flatK c i ++ rowK c i k)) ∧ Hid (Ext w1 W)) (fun _ u _ => y - (intOf u).toNat)
    case atStart => exact ⟨_, x, rfl, rfl, Nat.le_refl _, hxy, HO0, HE0⟩
    case round =>
     clear HO0 HE0 a0 a1 a2 a3 n0 f0
     obtain ⟨vO, k, rfl, rfl, hxk, hky, HO, hE⟩ := hrel
     obtain ⟨a0, a1, a2, a3⟩ := MKQ.out wr hE.out
     have f1 := HFN.out wr hE.out
     by_cases hky' : k < y
     ·have hkt : k < c.tos.length := by omega
      have hke : k < c.edges.length := by omega
      have HCT := Lib.hid (HT.out k hkt)
      have HCE := Lib.hid (HEE.out k hke)
      have hl8 : (flatK c i ++ rowK c i k).length + 1 ≤ 8388608 := by rw [List.length_append, HLX.out, HRL.out]; omega
      have HSN := Lib.hid (by rw [HRS.out k hxk, List.append_assoc] : flatK c i ++ rowK c i (k + 1) = flatK c i ++ rowK c i k ++ [(⟨nv, c.tos[k]!, c.edges[k]!⟩ : Sh)])
      generalize c.tos[k]! = tv at *
      generalize c.edges[k]! = ev at *
      have MK := Lib.hid (fun V (e : Ext wr V) => (⟨MKQ.out V (hE.out.trans e), HCT.out V (hE.out.trans e), HCE.out V (hE.out.trans e)⟩ : (V.cell? ⟨q, 0, none⟩ = some (.slice (some ⟨bn, on, none⟩) c.nodes.length k0) ∧ V.cell? ⟨q, 1, none⟩ = some (.slice (some ⟨bf, of, none⟩) c.first.length k1) ∧ V.cell? ⟨q, 2, none⟩ = some (.slice (some ⟨bt, ot, none⟩) c.tos.length k2) ∧ V.cell? ⟨q, 3, none⟩ = some (.slice (some ⟨be, oe, none⟩) c.edges.length k3)) ∧ V.cell? ⟨bt, ot + k, none⟩ = some (.int .i64 tv) ∧ V.cell? ⟨be, oe + k, none⟩ = some (.int .i64 ev)))
      go_upto_region 8 with (fail)
      refine wp_region_held_drew (S := (fun V => (V.cell? ⟨q, 0, none⟩ = some (.slice (some ⟨bn, on, none⟩) c.nodes.length k0) ∧ V.cell? ⟨q, 1, none⟩ = some (.slice (some ⟨bf, of, none⟩) c.first.length k1) ∧ V.cell? ⟨q, 2, none⟩ = some (.slice (some ⟨bt, ot, none⟩) c.tos.length k2) ∧ V.cell? ⟨q, 3, none⟩ = some (.slice (some ⟨be, oe, none⟩) c.edges.length k3)) ∧ V.cell? ⟨bt, ot + k, none⟩ = some (.int .i64 tv) ∧ V.cell? ⟨be, oe + k, none⟩ = some (.int .i64 ev))) (by kernel_rfl) ?hs66001 (fun hHeld => ?go66001)
      case hs66001 => (first | exact MK.out _ (by solve_by_elim [X0, X1, X2, X3]) | exact MK6.out _ (by solve_by_elim [X0, X1, X2, X3]))
      refine TK 0 (v := ?v66002) hHeld ?hy66002 ?_
      case hy66002 => (intro w hSw; (try dsimp only at hSw); go_simp <;> first | with_reducible rfl | rw [if_neg (by omega)] | rw [if_pos (by omega)])
      (try simp only [PU])
      refine TK 1 (v := ?v66003) hHeld ?hy66003 ?_
      case hy66003 => (intro w hSw; (try dsimp only at hSw); go_simp <;> first | with_reducible rfl | rw [if_neg (by omega)] | rw [if_pos (by omega)])
      (try simp only [PU])
      refine TK 2 (v := ?v66004) hHeld ?hy66004 ?_
      case hy66004 => (intro w hSw; (try dsimp only at hSw); go_simp <;> first | with_reducible rfl | rw [if_neg (by omega)] | rw [if_pos (by omega)])
      (try simp only [PU])
      refine TK 3 (v := ?v66005) hHeld ?hy66005 ?_
      case hy66005 => (intro w hSw; (try dsimp only at hSw); go_simp <;> first | with_reducible rfl | rw [if_neg (by omega)] | rw [if_pos (by omega)])
      (try simp only [PU])
      refine TK 4 (v := ?v66006) hHeld ?hy66006 ?_
      case hy66006 => (intro w hSw; (try dsimp only at hSw); go_simp <;> first | with_reducible rfl | rw [if_neg (by omega)] | rw [if_pos (by omega)])
      (try simp only [PU])
      refine TK 5 (v := ?v66007) hHeld ?hy66007 ?_
      case hy66007 => (intro w hSw; (try dsimp only at hSw); go_simp <;> first | with_reducible rfl | rw [if_neg (by omega)] | rw [if_pos (by omega)])
      (try simp only [PU])
      refine TK 6 (v := ?v66008) hHeld ?hy66008 ?_
      case hy66008 => (intro w hSw; (try dsimp only at hSw); go_simp <;> first | with_reducible rfl | rw [if_neg (by omega)] | rw [if_pos (by omega)])
      (try simp only [PU])
      refine TK 7 (v := ?v66009) hHeld ?hy66009 ?_
      case hy66009 => (intro w hSw; (try dsimp only at hSw); go_simp <;> first | with_reducible rfl | rw [if_neg (by omega)] | rw [if_pos (by omega)])
      (try simp only [PU])
      refine TK 8 (v := ?v66010) hHeld ?hy66010 ?_
      case hy66010 => (intro w hSw; (try dsimp only at hSw); go_simp <;> first | with_reducible rfl | rw [if_neg (by omega)] | rw [if_pos (by omega)])
      (try simp only [PU])
      refine TK 9 (v := ?v66011) hHeld ?hy66011 ?_
      case hy66011 => (intro w hSw; (try dsimp only at hSw); go_simp <;> first | with_reducible rfl | rw [if_neg (by omega)] | rw [if_pos (by omega)])
      (try simp only [PU])
      refine TK 10 (v := ?v66012) hHeld ?hy66012 ?_
      case hy66012 => (intro w hSw; (try dsimp only at hSw); go_simp <;> first | with_reducible rfl | rw [if_neg (by omega)] | rw [if_pos (by omega)])
      (try simp only [PU])
      refine TK 11 (v := ?v66013) hHeld ?hy66013 ?_
      case hy66013 => (intro w hSw; (try dsimp only at hSw); go_simp <;> first | with_reducible rfl | rw [if_neg (by omega)] | rw [if_pos (by omega)])
      (try simp only [PU])
      refine TK 12 (v := ?v66014) hHeld ?hy66014 ?_
      case hy66014 => (intro w hSw; (try dsimp only at hSw); go_simp <;> first | with_reducible rfl | rw [if_neg (by omega)] | rw [if_pos (by omega)])
      (try simp only [PU])
      refine wpAnyH_ready (rs := [13]) (by kernel_rfl) (by simp) ?_
      refine AllReadyH.cons (o := ⟨_, _, _, _, _, _⟩) rfl (fun K hK => ?step66015x0) ?more66015x0
      case more66015x0 => exact AllReadyH.nil
      go_simp
      refine hK.out _ _ ?hS66015x0 (fun H66015 => ?_)
      case hS66015x0 => first | (first | exact MK.out _ (by solve_by_elim [X0, X1, X2, X3]) | exact MK6.out _ (by solve_by_elim [X0, X1, X2, X3])) | ((try dsimp only); (first | exact MK.out _ (by solve_by_elim [X0, X1, X2, X3]) | exact MK6.out _ (by solve_by_elim [X0, X1, X2, X3])))
      clear hK K
      clear hHeld
      (try simp only [PU])
      refine wpAnyH_ready (rs := [14]) (by kernel_rfl) (by simp) ?_
      refine AllReadyH.cons (o := ⟨_, _, _, _, _, _⟩) rfl (fun K hK => ?step66016x0) ?more66016x0
      case more66016x0 => exact AllReadyH.nil
      (refine step_pushAt (v := vO) (hs := flatK c i ++ rowK c i k) T_ka rfl (.tmp 30) (.tmp 43) rfl rfl (OwnG.ext HO.out (by solve_by_elim [X0, X1, X2, X3])) (Nat.le_trans hE.out.le (Ext.le (a := wr) (by solve_by_elim [X0, X1, X2, X3]))) (⟨nv, tv, ev⟩ : Sh) trivial ⟨_, 0, none⟩ 1 rfl (adj_cell (by go_simp) (by go_simp) (by go_simp)) hl8 (by decide) ?_; intro v6 w6 hO6 hg6 hd6; have hE6 : Ext w1 w6 := (hE.out.trans (show Ext wr _ from (by solve_by_elim [X0, X1, X2, X3]))).grown hg6 (fun g e => (OwnG.lt HO.out e).1); have HO6 := Lib.hid hO6; have HE6 := Lib.hid hE6; have MK6 := Lib.hid (fun V (e : Ext w6 V) => (⟨MKQ.out V (HE6.out.trans e), (HCT.out V (HE6.out.trans e)), (HCE.out V (HE6.out.trans e))⟩ : (V.cell? ⟨q, 0, none⟩ = some (.slice (some ⟨bn, on, none⟩) c.nodes.length k0) ∧ V.cell? ⟨q, 1, none⟩ = some (.slice (some ⟨bf, of, none⟩) c.first.length k1) ∧ V.cell? ⟨q, 2, none⟩ = some (.slice (some ⟨bt, ot, none⟩) c.tos.length k2) ∧ V.cell? ⟨q, 3, none⟩ = some (.slice (some ⟨be, oe, none⟩) c.edges.length k3)) ∧ V.cell? ⟨bt, ot + k, none⟩ = some (.int .i64 tv) ∧ V.cell? ⟨be, oe + k, none⟩ = some (.int .i64 ev))); clear hO6 hg6 hd6 hE6)
      refine hK.out _ _ ?hS66016x0 (fun H66016 => ?_)
      case hS66016x0 => first | (first | exact MK.out _ (by solve_by_elim [X0, X1, X2, X3]) | exact MK6.out _ (by solve_by_elim [X0, X1, X2, X3])) | ((try dsimp only); (first | exact MK.out _ (by solve_by_elim [X0, X1, X2, X3]) | exact MK6.out _ (by solve_by_elim [X0, X1, X2, X3])))
      clear hK K
      clear H66015
      (try simp only [PU])
      refine TK 15 (v := ?v66017) H66016 ?hy66017 ?_
      case hy66017 => (intro w hSw; (try dsimp only at hSw); go_simp <;> first | with_reducible rfl | rw [if_neg (by omega)] | rw [if_pos (by omega)])
      (try simp only [PU])
      refine wpAnyH_done (by kernel_rfl) ?_ _
      clear H66016
      go_wp2_with fail
      go_roundw
      case rel => exact ⟨_, k + 1, rfl, by go_num, by omega, by omega, Lib.hid (by rw [HSN.out]; exact HO6.out), HE6⟩
      case measure => simp [intOf]; omega
     ·have hke : k = y := by omega
      have HOF := Lib.hid (by rw [HSC.out, ← hke]; exact HO.out : OA wr w1.heap.size vO (flatK c (i + 1)))
      clear hke HO
      go_wp2_with fail
      go_roundw
      case rel => exact ⟨_, i + 1, rfl, by go_num, by omega, HOF, hE⟩
      case measure => simp [intOf]; omega
   ·have hke : i = c.nodes.length := by omega
    have HOF := Lib.hid (by have h := HO.out; rw [hke] at h; rw [HR.out]; exact h : OA wr w1.heap.size vO R)
    have hRl : R.length = c.tos.length := by rw [HR.out]; exact flatC_len HS.out
    have HLE := Lib.hid HX.out.le
    clear HO hke HR
    go_wp2_with fail
    go_ret
    exact ⟨_, rfl, OwnG.mono HOF.out HLE.out, HX.out.trans hE.out⟩
set_option maxRecDepth 100000 in
theorem co_EntriesO (c : Col) (ok : Nat → Prop) (A B Cx D : Option Addr) (k0 k1 k2 k3 : Nat) (w : World) (hv : ColAt w ok A B Cx D c) (hm : c.tos.length ≤ 8000000) :
  Calls Try.prog 17 #[agC c A B Cx D k0 k1 k2 k3] w fun e w' => ∃ v, e = .returned v ∧ OA w' w.heap.size v (entR c) ∧ Ext w w' := by
 obtain ⟨q, w1, hq, hw1, ⟨a0, a1, a2, a3⟩, hx⟩ := box_col w c A B Cx D k0 k1 k2 k3 26
 have HW := Lib.hid hw1
 have HQ := Lib.hid hq
 have HX := Lib.hid hx
 have HVA := Lib.hid (co_Valid c ok A B Cx D k0 k1 k2 k3 w1 (hv.ext hx) hm)
 have HFT := Lib.hid (fun (hs : shapeP c) W (e : Ext w1 W) => co_unpackO c ok A B Cx D k0 k1 k2 k3 W ((hv.ext hx).ext e) hs hm)
 have HE1 := Lib.hid (fun (h : colB c = true) => (by unfold entR; rw [if_pos h] : entR c = flatC c))
 have HE0 := Lib.hid (fun (h : colB c = false) => (by unfold entR; rw [if_neg (by rw [h]; exact Bool.false_ne_true)] : entR c = []))
 have HSP := Lib.hid (fun (h : colB c = true) => valid_shape (colB_iff.1 h))
 obtain ⟨R, hR⟩ : ∃ R, R = entR c := ⟨_, rfl⟩
 rw [← hR] at HE1 HE0 ⊢
 clear hw1 hq hv hx hR
 unfold agC at HVA HFT ⊢
 go_enter Try.func17, Try.ntmps17
 go_upto_region 1 with (fail)
 rw [← HW.out, ← HQ.out]
 clear HW HQ
 cases hb : colB c
 ·rw [hb] at HVA
  have e := HE0.out hb
  subst e
  clear hb HE0 HE1 HSP HFT
  go_wp2_with (go_at_call 12; ((with_reducible refine (HVA.out).mono ?_); rintro e w2 ⟨rfl, hx2⟩))
  go_ret
  exact ⟨_, rfl, OwnG.nil _ _ _ _ _, HX.out.trans hx2⟩
 ·rw [hb] at HVA
  have e := HE1.out hb
  have HF2 := Lib.hid (HFT.out (HSP.out hb))
  rw [← e] at HF2
  clear hb e HE0 HE1 HSP HFT
  go_wp2_with (first | (go_at_call 12; ((with_reducible refine (HVA.out).mono ?_); rintro e w2 ⟨rfl, hx2⟩; replace a0 := hx2.cell a0; replace a1 := hx2.cell a1; replace a2 := hx2.cell a2; replace a3 := hx2.cell a3)) | (go_at_call 34; ((with_reducible refine (HF2.out _ hx2).mono ?_); rintro e w3 ⟨v3, rfl, hO3, hx3⟩)))
  go_ret
  exact ⟨v3, rfl, OwnG.mono hO3 (Nat.le_trans HX.out.le hx2.le), (HX.out.trans hx2).trans hx3⟩
theorem flat_setC {α : Type} (f : α → List Value) (hf : ∀ x, (f x).length = 3) (a0 a1 a2 : Value) : ∀ (l : List α) (i : Nat) (y : α), i < l.length → f y = [a0, a1, a2] → (l.set i y).flatMap f = (((l.flatMap f).set (i * 3) a0).set (i * 3 + 1) a1).set (i * 3 + 2) a2
 | [], i, y, h, _ => absurd h (by simp)
 | x :: l, 0, y, _, hy => by
  have hx := hf x
  match hfx : f x, hx with
  | [b0, b1, b2], _ => simp [hfx, hy]
 | x :: l, i + 1, y, h, hy => by
  have ih := flat_setC f hf a0 a1 a2 l i y (by simpa using h) hy
  have e0 : (i + 1) * 3 = 3 + i * 3 := by omega
  have hx : (f x).length = 3 := hf x
  have S : ∀ (m : List Value) (j : Nat) (u : Value), (f x ++ m).set (3 + j) u = f x ++ m.set j u := fun m j u => by
   rw [List.set_append_right _ _ (by omega), hx, Nat.add_sub_cancel_left]
  rw [List.set_cons_succ, List.flatMap_cons, List.flatMap_cons, ih, e0, S, Nat.add_assoc, S, Nat.add_assoc, S]
theorem OwnG.put3 {α : Type} {K : KindG α} {e : TypeId} {W : World} {base : Nat} {ok0 : Nat → Prop} {hs : List α} (hK : K.size = 3) {g n c : Nat} (h : OwnG K e W base ok0 (.slice (some ⟨g, 0, none⟩) n c) hs) {i : Nat} (hi : i < hs.length) (y : α) {a0 a1 a2 : Value} (hy : K.enc y = [a0, a1, a2]) (hl : K.lies W (fun b => ok0 b ∧ some b ≠ some g) y) :
  OwnG K e (((W.setCell ⟨g, i * 3, none⟩ a0).setCell ⟨g, i * 3 + 1, none⟩ a1).setCell ⟨g, i * 3 + 2, none⟩ a2) base ok0 (.slice (some ⟨g, 0, none⟩) n c) (hs.set i y) ∧ W.grownBy (((W.setCell ⟨g, i * 3, none⟩ a0).setCell ⟨g, i * 3 + 1, none⟩ a1).setCell ⟨g, i * 3 + 2, none⟩ a2) (some g) := by
 obtain ⟨A, c', hv⟩ := own_form h.own
 injection hv with h1 h2 h3
 subst h2
 obtain ⟨k0, g0⟩ := World.ownsRow.stored h.own (i * 3) a0
 obtain ⟨k1, g1⟩ := World.ownsRow.stored k0 (i * 3 + 1) a1
 obtain ⟨k2, g2⟩ := World.ownsRow.stored k1 (i * 3 + 2) a2
 have G := grown_two g0 (grown_two g1 g2)
 refine ⟨⟨?_, fun p hp => ?_⟩, G⟩
 ·rw [List.length_set, flat_setC K.enc (fun x => by rw [K.len, hK]) _ _ _ hs i y hi hy]; exact k2
 ·have hlies : K.lies W (fun b => ok0 b ∧ some b ≠ (Value.slice (some ⟨g, 0, none⟩) hs.length c).ownBlock) p := by
   rcases List.mem_or_eq_of_mem_set hp with hp | hp
   ·exact h.lies p hp
   ·rw [hp]; exact hl
  exact K.keep _ _ _ _ _ (fun b o x hb hc => ⟨G.cell hc (fun e2 => hb.2 (by rw [e2]; rfl)), hb⟩) hlies
abbrev OwnW (W : World) (base : Nat) (ok0 : Nat → Prop) (v : Value) (hs : List Sh) : Prop := OwnG KA 54 W base ok0 v hs
theorem own_cells3 {W : World} {base g n c : Nat} {ok0 : Nat → Prop} {hs : List Sh} (h : OwnW W base ok0 (.slice (some ⟨g, 0, none⟩) n c) hs) {i : Nat} (hi : i < hs.length) : (W.cell? ⟨g, i * 3, none⟩ = some (.int .i64 hs[i].id) ∧ W.cell? ⟨g, i * 3 + 1, none⟩ = some (.int .i64 hs[i].n) ∧ W.cell? ⟨g, i * 3 + 2, none⟩ = some (.int .i64 hs[i].d)) ∧
  W.frozen? ⟨g, i * 3, none⟩ = false ∧ W.frozen? ⟨g, i * 3 + 1, none⟩ = false ∧ W.frozen? ⟨g, i * 3 + 2, none⟩ = false := by
 obtain ⟨g', hg, -, -, -, -, hc⟩ := OwnG.cellAt h hi
 injection hg with hg
 injection hg with hg
 subst hg
 exact ⟨⟨(hc 0 (by decide)).1, (hc 1 (by decide)).1, (hc 2 (by decide)).1⟩, (hc 0 (by decide)).2, (hc 1 (by decide)).2, (hc 2 (by decide)).2⟩
def PredW (f : Nat) (p : Sh → Bool) (cb : Array Value) (Q : Sh → Prop) (ok0 : Nat → Prop) (g : Nat) (w : World) : Prop := ∀ (W : World) (x : Sh), w.grownBy W (some g) → KA.lies W (fun b => ok0 b ∧ some b ≠ some g) x → Q x → Calls Try.prog f (#[Sh.agg x] ++ cb) W fun e w' => e = .returned (.bool (p x)) ∧ Ext W w'
set_option maxRecDepth 100000 in
set_option maxHeartbeats 1600000 in
theorem a_IndexF (p : Sh → Bool) (f : Nat) (eg : ∀ args w, (callFunc f args).run Try.prog w = .ok (.enter f args) w) (cb : Array Value) (Q : Sh → Prop) (hs : List Sh) (base : Nat) (ok0 : Nat → Prop) (g n c : Nat) (w : World) (hp : PredW f p cb Q ok0 g w) (hq : ∀ x ∈ hs, Q x) (h : OwnW w base ok0 (.slice (some ⟨g, 0, none⟩) n c) hs) (hn : n = hs.length) (hl : hs.length ≤ 8000000) :
  Calls Try.prog 55 #[.slice (some ⟨g, 0, none⟩) n c, .func (.func f) #[] cb] w fun e w' => e = .returned (.int .i64 (idxF (fun x => p x) hs)) ∧ Ext w w' := by
 have HO := Lib.hid h
 have HP := Lib.hid hp
 have HQ := Lib.hid hq
 have HY := Lib.hid (fun h => idxF_none (p := fun x : Sh => p x) (l := hs) h)
 have HB := Lib.hid (fun i (hi : i < hs.length) h1 h2 => idxF_at (p := fun x : Sh => p x) i hi h1 h2)
 obtain ⟨R, hR⟩ : ∃ R, R = idxF (fun x : Sh => p x) hs := ⟨_, rfl⟩
 rw [← hR] at HY HB ⊢
 have HN := Lib.hid hn
 have hnl : n ≤ 8000000 := by omega
 clear h hR hp hn hq
 go_enter Try.func55, Try.ntmps55
 go_wp2_with fail
 go_loopw [8] (fun u W => ∃ k : Nat, u = .int .i64 k ∧ k ≤ n ∧ Hid (∀ i (hi : i < hs.length), i < k → p hs[i] = false) ∧ Ext w W) (fun u _ => n - (intOf u).toNat)
 case atStart => exact ⟨0, rfl, Nat.zero_le _, Lib.hid (fun i _ hi => absurd hi (Nat.not_lt_zero _)), Ext.refl _⟩
 case round =>
  obtain ⟨k, rfl, hk, hgd, hE⟩ := hrel
  by_cases hlt : k < n
  ·have hkl : k < hs.length := by have := HN.out; omega
   obtain ⟨⟨c0, c1, c2⟩, -⟩ := own_cells3 (HO.out.ext hE) hkl
   have hlie := (HO.out.ext hE).lies hs[k] (List.getElem_mem hkl)
   have HS := Lib.hid (fun (h : p hs[k] = false) i hi (hj : i < k + 1) => (if e : i = k then (by subst e; exact h) else hgd.out i hi (by omega) : p hs[i] = false))
   have HB' := Lib.hid (HB.out k hkl hgd.out)
   have HC := Lib.hid (fun W (e : Ext wr W) => HP.out W hs[k] ((hE.trans e).gr _) (KA.keep _ _ _ _ _ (fun _ _ _ hb hc => ⟨e.cell hc, hb⟩) hlie) (HQ.out _ (List.getElem_mem hkl)))
   unfold Sh.agg at HC
   clear hlie
   clear HB hgd
   generalize hs[k] = x at *
   generalize p x = q at *
   cases q
   ·have HT := Lib.hid (HS.out rfl)
    go_wp2_with (go_at_fn f; ((with_reducible refine (HC.out _ (by solve_by_elim [X0, X1, X2, X3])).mono ?_); rintro e w7 ⟨rfl, hx7⟩))
    go_roundw
    case rel => exact ⟨k + 1, by go_num, by omega, HT, hE.trans hx7⟩
    case measure => simp [intOf]; omega
   ·have HT := Lib.hid (HB'.out rfl)
    go_wp2_with (go_at_fn f; ((with_reducible refine (HC.out _ (by solve_by_elim [X0, X1, X2, X3])).mono ?_); rintro e w7 ⟨rfl, hx7⟩))
    go_ret
    exact ⟨ret_int HT.out.symm, hE.trans hx7⟩
  ·have HT := Lib.hid (HY.out (fun i hi => hgd.out i hi (by have := HN.out; omega)))
   go_wp2_with fail
   go_ret
   exact ⟨ret_int HT.out.symm, hE⟩
set_option maxRecDepth 100000 in
theorem a_IndexF0 (A : Option Addr) (c : Nat) (fv : Value) (w : World) : Calls Try.prog 55 #[.slice A 0 c, fv] w fun e w' => e = .returned (.int .i64 (-1)) ∧ Ext w w' := by
 go_enter Try.func55, Try.ntmps55
 go_wp2_with fail
 go_loopw [8] (fun u W => u = .int .i64 0 ∧ Ext w W) (fun _ _ => 0)
 case atStart => exact ⟨rfl, Ext.refl _⟩
 case round =>
  obtain ⟨rfl, hE⟩ := hrel
  go_wp2_with fail
  go_ret
  exact ⟨rfl, hE⟩
/-- a list struck in place: i elements kept of the first j -/
structure KpA {α : Type} (q : α → Bool) (hs L : List α) (i j : Nat) : Prop where
 lt : i < j
 le : j ≤ hs.length
 len : L.length = hs.length
 lo : L.take i = (hs.take j).filter q
 hi : ∀ t, j ≤ t → L[t]? = hs[t]?
section
variable {α : Type} {q : α → Bool} {hs L : List α} {i j : Nat}
theorem fil1_t {x : α} (h : q x = true) : [x].filter q = [x] := by simp [h]
theorem fil1_f {x : α} (h : q x = false) : [x].filter q = [] := by simp [h]
theorem take_next {l : List α} {j : Nat} (h : j < l.length) : l.take (j + 1) = l.take j ++ [l[j]] := by
 rw [List.take_add_one, List.getElem?_eq_getElem h]; rfl
theorem KpA.start (hi : i < hs.length) (h1 : ∀ t (ht : t < hs.length), t < i → q hs[t] = true) (h2 : q hs[i] = false) : KpA q hs hs i (i + 1) := by
 refine ⟨by omega, hi, rfl, ?_, fun _ _ => rfl⟩
 rw [take_next hi, List.filter_append, fil1_f h2, List.append_nil]
 refine (List.filter_eq_self.2 (fun a ha => ?_)).symm
 obtain ⟨t, ht, rfl⟩ := List.getElem_of_mem ha
 rw [List.length_take] at ht
 rw [List.getElem_take]
 exact h1 t (by omega) (by omega)
theorem KpA.skip (h : KpA q hs L i j) (hj : j < hs.length) (hq : q hs[j] = false) : KpA q hs L i (j + 1) := by
 refine ⟨by have := h.lt; omega, hj, h.len, ?_, fun t ht => h.hi t (by omega)⟩
 rw [take_next hj, List.filter_append, fil1_f hq, List.append_nil, h.lo]
theorem KpA.keep (h : KpA q hs L i j) (hj : j < hs.length) (hq : q hs[j] = true) : KpA q hs (L.set i hs[j]) (i + 1) (j + 1) := by
 have h1 := h.lt
 have h2 := h.len
 refine ⟨by omega, hj, by rw [List.length_set]; exact h2, ?_, fun t ht => ?_⟩
 ·rw [take_next hj, List.filter_append, fil1_t hq, ← h.lo, take_next (l := L.set i hs[j]) (j := i) (by rw [List.length_set]; omega), List.take_set_of_le (Nat.le_refl _)]
  simp
 ·rw [List.getElem?_set_ne (by omega)]; exact h.hi t (by omega)
theorem KpA.done (h : KpA q hs L i hs.length) : L.take i = hs.filter q := by rw [h.lo, List.take_length]
theorem KpA.at_ (h : KpA q hs L i j) (hj : j < hs.length) : ∃ hl : j < L.length, L[j] = hs[j] := by
 have h1 := h.len
 have h2 := h.hi j (Nat.le_refl _)
 rw [List.getElem?_eq_getElem (by omega), List.getElem?_eq_getElem hj] at h2
 exact ⟨by omega, Option.some.inj h2⟩
end
def zAj : Value := .agg #[.int .i64 0, .int .i64 0, .int .i64 0]
theorem zero_aj (w : World) : (zeroValue 54).run Try.prog w = .ok zAj w := Try.zeroValue54 w
set_option maxRecDepth 100000 in
set_option maxHeartbeats 3200000 in
theorem a_DeleteF (p : Sh → Bool) (f : Nat) (eg : ∀ args w, (callFunc f args).run Try.prog w = .ok (.enter f args) w) (cb : Array Value) (Q : Sh → Prop) (hs : List Sh) (base : Nat) (ok0 : Nat → Prop) (g n c : Nat) (w : World) (hp : PredW f p cb Q ok0 g w) (hq : ∀ x ∈ hs, Q x) (h : OwnW w base ok0 (.slice (some ⟨g, 0, none⟩) n c) hs) (hn : n = hs.length) (hl : hs.length ≤ 8000000) :
  Calls Try.prog 38 #[.slice (some ⟨g, 0, none⟩) n c, .func (.func f) #[] cb] w fun e w' => ∃ m, e = .returned (.slice (some ⟨g, 0, none⟩) m c) ∧ OwnW w' base ok0 (.slice (some ⟨g, 0, none⟩) m c) (hs.filter (fun x => !p x)) ∧ w.grownBy w' (some g) := by
 have HI := Lib.hid (a_IndexF p f eg cb Q hs base ok0 g n c w hp hq h hn hl)
 have HO := Lib.hid h
 have HP := Lib.hid hp
 have HQ := Lib.hid hq
 have hnl : n ≤ 8000000 := by omega
 have hnc : n ≤ c := by
  rcases h.own.2 with ⟨hv, -⟩ | ⟨g', cap', cur, hv, -, -, hcp, -⟩
  ·simp at hv
  ·simp only [Value.slice.injEq] at hv; omega
 cases hf : hs.findIdx? (fun x => p x) with
 | none =>
  have e1 : idxF (fun x : Sh => p x) hs = -1 := by unfold idxF; rw [hf]
  have HF := Lib.hid (show hs.filter (fun x => !p x) = hs from List.filter_eq_self.2 (fun a ha => by rw [List.findIdx?_eq_none_iff.1 hf a ha]; rfl))
  rw [e1] at HI
  clear h hp hq hf e1 hn hl
  go_enter Try.func38, Try.ntmps38
  go_wp2_with (go_at_call 55; ((with_reducible refine (HI.out).mono ?_); rintro e w1 ⟨rfl, hx1⟩))
  go_ret
  exact ⟨_, rfl, by rw [HF.out]; exact HO.out.ext hx1, hx1.gr _⟩
 | some i0 =>
  have e1 : idxF (fun x : Sh => p x) hs = (i0 : Int) := by unfold idxF; rw [hf]
  obtain ⟨hi0, hp0, hlo0⟩ := List.findIdx?_eq_some_iff_getElem.1 hf
  have HK0 := Lib.hid (KpA.start (q := fun x : Sh => !p x) hi0 (fun t ht hti => by
   have := hlo0 t hti
   cases hpt : p hs[t]
   ·rfl
   ·rw [hpt] at this; exact absurd rfl this) (by rw [hp0]; rfl))
  rw [e1] at HI
  have HN := Lib.hid hn
  have hi0n : i0 < n := by omega
  have hne : ((i0 : Int) == -1) = false := beq_eq_false_iff_ne.2 (by omega)
  clear h hp hq hf e1 hn hl hi0 hp0 hlo0
  go_enter Try.func38, Try.ntmps38
  go_wp2_with (go_at_call 55; ((with_reducible refine (HI.out).mono ?_); rintro e w1 ⟨rfl, hx1⟩))
  clear hne
  go_loopw [5, 6] (fun u v W => ∃ (i j : Nat) (L : List Sh), u = .int .i64 i ∧ v = .int .i64 j ∧ i < j ∧ j ≤ n ∧ Hid (OwnW W base ok0 (.slice (some ⟨g, 0, none⟩) n c) L) ∧ Hid (KpA (fun x : Sh => !p x) hs L i j) ∧ Hid (∀ x ∈ L, Q x) ∧ Hid (w.grownBy W (some g))) (fun _ v _ => n - (intOf v).toNat)
  case atStart => exact ⟨i0, i0 + 1, hs, rfl, by go_num, by omega, by omega, Lib.hid (HO.out.ext hx1), HK0, HQ, Lib.hid (hx1.gr _)⟩
  case round =>
   clear HI HK0 hx1
   obtain ⟨i, j, L, rfl, rfl, hij, hj, hown, hkp, hQL, hgr⟩ := hrel
   by_cases hlt : j < n
   ·have hjh : j < hs.length := by have := HN.out; omega
    obtain ⟨hjL, hjx⟩ := hkp.out.at_ hjh
    have hiL : i < L.length := by omega
    obtain ⟨⟨c0, c1, c2⟩, -⟩ := own_cells3 hown.out hjL
    obtain ⟨g1, w2, hg1, hw2, ⟨p0, p1, p2⟩, hx2⟩ := box_adj wr L[j] 54
    have HC := Lib.hid (fun W (e : Ext wr W) => HP.out W L[j] (grown_two hgr.out (e.gr _)) (KA.keep _ _ _ _ _ (fun _ _ _ hb hc => ⟨e.cell hc, hb⟩) (hown.out.lies L[j] (List.getElem_mem hjL))) (hQL.out _ (List.getElem_mem hjL)))
    have HQX := Lib.hid (hQL.out _ (List.getElem_mem hjL))
    have HLX := Lib.hid (hown.out.lies L[j] (List.getElem_mem hjL))
    have HKS := Lib.hid (fun (h : p L[j] = true) => hkp.out.skip hjh (by rw [← hjx, h]; rfl))
    have HKK := Lib.hid (fun (h : p L[j] = false) => (by have := hkp.out.keep hjh (by rw [← hjx, h]; rfl); rwa [← hjx] at this : KpA (fun x : Sh => !p x) hs (L.set i L[j]) (i + 1) (j + 1)))
    have HW2 := Lib.hid hw2
    have HG1 := Lib.hid hg1
    have hgb : g < wr.heap.size := (hown.out.lt rfl).2
    have hgg : g1 ≠ g := by omega
    unfold Sh.agg at HC
    clear hw2 hg1 hkp hjx
    generalize L[j] = x at *
    cases hq : p x
    ·rw [hq] at HC
     have HKK' := Lib.hid (HKK.out hq)
     clear HKS HKK hq
     go_upto_region 8 with (fail)
     rw [← HW2.out, ← HG1.out]
     clear HW2 HG1 c0 c1 c2
     go_upto_region 9 with (go_at_fn f; ((with_reducible refine (HC.out _ hx2).mono ?_); rintro e w7 ⟨rfl, hx7⟩; replace p0 := hx7.cell p0; replace p1 := hx7.cell p1; replace p2 := hx7.cell p2))
     have hO7 := hown.out.ext (hx2.trans hx7)
     obtain ⟨⟨q0, q1, q2⟩, f0, f1, f2⟩ := own_cells3 hO7 hiL
     obtain ⟨hO8, hG8⟩ := OwnG.put3 (K := KA) rfl hO7 hiL x (a0 := .int .i64 x.id) (a1 := .int .i64 x.n) (a2 := .int .i64 x.d) rfl (KA.keep _ _ _ _ _ (fun b o y hb hc => ⟨(hx2.trans hx7).cell hc, hb⟩) HLX.out)
     obtain ⟨W8, hW8⟩ : ∃ W8, W8 = ((w7.setCell ⟨g, i * 3, none⟩ (.int .i64 x.id)).setCell ⟨g, i * 3 + 1, none⟩ (.int .i64 x.n)).setCell ⟨g, i * 3 + 2, none⟩ (.int .i64 x.d) := ⟨_, rfl⟩
     rw [← hW8] at hO8 hG8
     have HO8 := Lib.hid hO8
     have HG8 := Lib.hid (grown_two (grown_two hgr.out ((hx2.trans hx7).gr _)) hG8)
     have HW8 := Lib.hid hW8
     clear hO8 hG8 hW8 hO7 hown hgr HC hx7
     go_upto_region 10 with (fail)
     rw [← HW8.out]
     clear HW8
     go_wp2_with fail
     go_roundw
     case rel => exact ⟨i + 1, j + 1, _, by go_num, by go_num, by omega, by omega, HO8, HKK', Lib.hid (fun y hy => (List.mem_or_eq_of_mem_set hy).elim (fun h => hQL.out y h) (fun h => h ▸ HQX.out)), HG8⟩
     case measure => simp [intOf]; omega
    ·rw [hq] at HC
     have HKS' := Lib.hid (HKS.out hq)
     clear HKS HKK hq
     go_upto_region 8 with (fail)
     rw [← HW2.out, ← HG1.out]
     clear HW2 HG1 c0 c1 c2
     go_wp2_with (go_at_fn f; ((with_reducible refine (HC.out _ hx2).mono ?_); rintro e w7 ⟨rfl, hx7⟩))
     go_roundw
     case rel => exact ⟨i, j + 1, L, rfl, by go_num, by omega, by omega, Lib.hid (hown.out.ext (hx2.trans hx7)), HKS', hQL, Lib.hid (grown_two hgr.out ((hx2.trans hx7).gr _))⟩
     case measure => simp [intOf]; omega
   ·have hjn : j = n := by omega
    subst hjn
    obtain ⟨W9, hcl, hO9, hG9⟩ := OwnG.cleared (P := Try.prog) (t := 22) (z := zAj) Try.underlying22 zero_aj rfl (by decide) (by decide) hown.out (by have := HN.out; have := hkp.out.len; omega) hij
    have HF := Lib.hid (show L.take i = hs.filter (fun x => !p x) by have h1 := hkp.out; have h2 := HN.out; subst h2; exact h1.done)
    have HO9 := Lib.hid hO9
    have HG9 := Lib.hid (grown_two hgr.out hG9)
    have hin : (i : Int) ≤ (j : Int) := by omega
    have hic : (i : Int) ≤ (c : Int) := by omega
    have hin2 : i ≤ j := by omega
    have hic2 : i ≤ c := by omega
    replace hcl : ∀ ty c', (Builtin.clear_ #[22] ty #[.slice (some ⟨g, i * 3, none⟩) (j - i) c']).run Try.prog wr = .ok (.tuple #[]) W9 := hcl
    clear hO9 hG9 hown hkp hgr
    go_wp2_with fail
    go_ret
    exact ⟨_, rfl, by rw [← HF.out]; exact HO9.out, HG9.out⟩
set_option maxRecDepth 100000 in
theorem a_DeleteF0 (A : Option Addr) (c : Nat) (fv : Value) (w : World) : Calls Try.prog 38 #[.slice A 0 c, fv] w fun e w' => e = .returned (.slice A 0 c) ∧ Ext w w' := by
 go_enter Try.func38, Try.ntmps38
 go_wp2_with (go_at_call 55; ((with_reducible refine (a_IndexF0 _ _ _ _).mono ?_); rintro e w1 ⟨rfl, hx1⟩))
 go_ret
 exact ⟨rfl, hx1⟩
theorem a_DeleteV (p : Sh → Bool) (f : Nat) (eg : ∀ args w, (callFunc f args).run Try.prog w = .ok (.enter f args) w) (cb : Array Value) (l : List Sh) (w0 : World) (v : Value) (w : World) (hp : ∀ (W : World) (x : Sh), Ext w0 W → Calls Try.prog f (#[Sh.agg x] ++ cb) W fun e w' => e = .returned (.bool (p x)) ∧ Ext W w') (h : OA w w0.heap.size v l) (hx : Ext w0 w) (hl : l.length ≤ 8000000) :
  Calls Try.prog 38 #[v, .func (.func f) #[] cb] w fun e w' => ∃ v', e = .returned v' ∧ OA w' w0.heap.size v' (l.filter (fun x => !p x)) ∧ Ext w0 w' := by
 rcases h.own.2 with ⟨rfl, h0⟩ | ⟨g, cp, cur, rfl, hb, -, -⟩
 ·obtain rfl : l = [] := List.eq_nil_of_length_eq_zero (by first | exact h0 | simpa using h0)
  exact (a_DeleteF0 none 0 _ w).mono (fun e w' ⟨h1, h2⟩ => ⟨_, h1, OwnG.nil _ _ _ _ _, hx.trans h2⟩)
 ·refine (a_DeleteF p f eg cb (fun _ => True) l w0.heap.size (fun _ => False) g l.length cp w (fun W x hg _ _ => hp W x (hx.grown hg (fun k hk => by cases hk; exact hb))) (fun _ _ => trivial) h rfl hl).mono ?_
  rintro e w' ⟨m, rfl, hO, hg⟩
  exact ⟨_, rfl, hO, hx.grown hg (fun k hk => by cases hk; exact hb)⟩
set_option maxRecDepth 100000 in
theorem co_Row1 (x : Sh) (id : Int) (y0 : Nat) (w : World) (hy : w.cell? ⟨y0, 0, none⟩ = some (.int .i64 id)) :
  Calls Try.prog 39 (#[Sh.agg x] ++ #[.pointer (some ⟨y0, 0, none⟩)]) w fun e w' => e = .returned (.bool (!decide (x.id = id))) ∧ Ext w w' := by
 obtain ⟨q, w1, hq, hw1, ⟨c0, c1, c2⟩, hx⟩ := box_adj w x 54
 have hy1 := hx.cell hy
 have HW := Lib.hid hw1
 have HQ := Lib.hid hq
 unfold Sh.agg
 generalize x.id = a at *
 generalize x.n = b at *
 generalize x.d = c at *
 have g : (a != id) = !decide (a = id) := by
  by_cases h : a = id
  ·simp [h]
  ·simp [h]
 have HG := Lib.hid g
 clear hw1 hq hy g
 refine (show Calls Try.prog 39 #[.agg #[.int .i64 a, .int .i64 b, .int .i64 c], .pointer (some ⟨y0, 0, none⟩)] w _ from ?_)
 go_enter Try.func39, Try.ntmps39
 go_upto_region 1 with (fail)
 rw [← HW.out, ← HQ.out]
 clear HW HQ
 go_wp2_with fail
 go_ret
 exact ⟨ret_bool HG.out, hx⟩
theorem eg_row (args : Array Value) (w : World) : (callFunc 39 args).run Try.prog w = .ok (.enter 39 args) w :=
 run_enter (c := Try.f39.body.get!) Try.func39 (by kernel_rfl) (by kernel_rfl) args w
set_option maxRecDepth 100000 in
theorem co_Row (c : Col) (id : Int) (ok : Nat → Prop) (A B Cx D : Option Addr) (k0 k1 k2 k3 : Nat) (w : World) (hv : ColAt w ok A B Cx D c) (hm : c.tos.length ≤ 8000000) :
  Calls Try.prog 15 #[agC c A B Cx D k0 k1 k2 k3, .int .i64 id] w fun e w' => ∃ A' c', e = .returned (.slice A' ((entR c).filter (fun a => decide (a.id = id))).length c') ∧ Shares w' (fun b => w.heap.size ≤ b) A' ((entR c).filter (fun a => decide (a.id = id))) ∧ Ext w w' := by
 obtain ⟨q, w1, hq, hw1, ⟨a0, a1, a2, a3⟩, hx1⟩ := box_col w c A B Cx D k0 k1 k2 k3 26
 obtain ⟨y, w2, hy, hw2, hc2, hx2⟩ : ∃ (y : Nat) (w2 : World), y = w1.heap.size ∧ w2 = w1.alloc (.cells #[.int .i64 id] 3) ∧ w2.cell? ⟨y, 0, none⟩ = some (.int .i64 id) ∧ Ext w1 w2 := ⟨_, _, rfl, rfl, by go_simp, (Ext.refl _).alloc _⟩
 replace a0 := hx2.cell a0
 replace a1 := hx2.cell a1
 replace a2 := hx2.cell a2
 replace a3 := hx2.cell a3
 have HW1 := Lib.hid hw1
 have HW2 := Lib.hid hw2
 have HQ := Lib.hid hq
 have HY := Lib.hid (show y = q + 1 by rw [hy, hw1, hq]; simp)
 have HX := Lib.hid (hx1.trans hx2)
 have HEN := Lib.hid (co_EntriesO c ok A B Cx D k0 k1 k2 k3 w2 ((hv.ext hx1).ext hx2) hm)
 have HCY := Lib.hid (fun V (e : Ext w2 V) => e.cell hc2)
 have HEL := Lib.hid (show (entR c).length ≤ 8000000 by
  unfold entR
  split
  ·rename_i h
   rcases valid_shape (colB_iff.1 h) with ⟨h1, h2, h3, h4⟩ | h1
   ·unfold flatC; rw [h1]; exact Nat.zero_le _
   ·rw [flatC_len h1]; exact hm
  ·exact Nat.zero_le _)
 generalize entR c = l at *
 have HFE := Lib.hid (show l.filter (fun x => !(fun x : Sh => !decide (x.id = id)) x) = l.filter (fun a => decide (a.id = id)) by congr 1; funext a; simp)
 clear hw1 hw2 hq hy hv hx1 hx2 hc2 hm
 unfold agC at HEN ⊢
 go_enter Try.func15, Try.ntmps15
 go_upto_region 1 with (fail)
 rw [← HW1.out, ← HQ.out, ← HY.out, ← HW2.out]
 clear HW1 HW2 HQ HY
 go_wp2_with (first | (go_at_call 17; ((with_reducible refine (HEN.out).mono ?_); rintro e w3 ⟨v3, rfl, hO3, hx3⟩; have HX3 := Lib.hid hx3; have HDL := Lib.hid (a_DeleteV (fun x => !decide (x.id = id)) 39 eg_row #[.pointer (some ⟨y, 0, none⟩)] l w2 v3 w3 (fun W x hx => co_Row1 x id y W (HCY.out _ hx)) hO3 HX3.out HEL.out); clear HEN hO3 hx3)) | (go_at_call 38; ((with_reducible refine (HDL.out).mono ?_); rintro e w4 ⟨v4, rfl, hO4, hx4⟩)))
 rw [HFE.out] at hO4
 obtain ⟨A5, c5, e5, -, hS5⟩ := OA.shares hO4 (by have h1 := List.length_filter_le (fun a : Sh => decide (a.id = id)) l; have h2 := HEL.out; omega)
 subst e5
 clear hO4
 go_ret
 exact ⟨A5, c5, rfl, SliceR.mono hS5 (fun _ _ _ _ hx => ⟨Nat.le_trans HX.out.le hx.1, hx.2⟩), HX.out.trans hx4⟩
set_option maxRecDepth 100000 in
theorem co_Degree (c : Col) (id : Int) (ok : Nat → Prop) (A B Cx D : Option Addr) (k0 k1 k2 k3 : Nat) (w : World) (hv : ColAt w ok A B Cx D c) (hm : c.tos.length ≤ 8000000) :
  Calls Try.prog 16 #[agC c A B Cx D k0 k1 k2 k3, .int .i64 id] w fun e w' => e = .returned (.int .i64 (((entR c).filter (fun a => decide (a.id = id))).length : Int)) ∧ Ext w w' := by
 obtain ⟨q, w1, hq, hw1, ⟨a0, a1, a2, a3⟩, hx1⟩ := box_col w c A B Cx D k0 k1 k2 k3 26
 have HW1 := Lib.hid hw1
 have HQ := Lib.hid hq
 have HX := Lib.hid hx1
 have HR := Lib.hid (co_Row c id ok A B Cx D k0 k1 k2 k3 w1 (hv.ext hx1) hm)
 generalize (entR c).filter (fun a => decide (a.id = id)) = l at *
 clear hw1 hq hv hx1 hm
 unfold agC at HR ⊢
 go_enter Try.func16, Try.ntmps16
 go_upto_region 1 with (fail)
 rw [← HW1.out, ← HQ.out]
 clear HW1 HQ
 go_wp2_with (go_at_call 15; ((with_reducible refine (HR.out).mono ?_); rintro e w3 ⟨A3, c3, rfl, hS3, hx3⟩))
 go_ret
 exact ⟨rfl, HX.out.trans hx3⟩
end Go.Proofs.Ytnheioehadldmaa

/- ROWS OF BYTES that a call owns; the walk over codec.varint. -/
namespace Go.Proofs.Ytnheioehadldmaa
open Go.RowKit
def KB : KindG Nat := ⟨fun x => [.int .u8 (x : Int)], 1, fun _ _ _ => True, fun _ => rfl, fun _ u hu => by rw [List.mem_singleton.1 hu]; rfl, fun _ _ _ _ _ _ _ => trivial⟩
theorem T_kb : ElT Try.prog 38 5 KB.size 1 := ⟨Try.underlying38, ⟨.int .u8 0, by kernel_rfl, rfl⟩, by decide⟩
abbrev OB (W : World) (base : Nat) (v : Value) (l : List Nat) : Prop := OwnG KB 5 W base (fun _ => False) v l
theorem OB.byts {W : World} {base : Nat} {v : Value} {l : List Nat} (h : OB W base v l) (hm : l.length ≤ 140737488355328) : ∃ A c, v = .slice A l.length c ∧ l.length ≤ c ∧ Byts W (fun b => base ≤ b) A l := by
 obtain ⟨A, c, h1, h2, h3⟩ := OwnG.slice (R := ByteC W (fun b => base ≤ b)) (fun x : Nat => x) h hm (fun g o x hg hc _ => ⟨hg, hc 0 _ rfl⟩)
 exact ⟨A, c, h1, h2, by rw [List.map_id'] at h3; exact h3⟩
theorem or128F : ∀ m : Fin 256, bits .or .u8 ((m.val : Nat) : Int) 128 = ((m.val % 128 + 128 : Nat) : Int) := by decide +kernel
theorem or128 (n : Nat) : bits .or .u8 ((n : Int) % 256) 128 = ((n % 128 + 128 : Nat) : Int) := by
 have h := or128F ⟨n % 256, Nat.mod_lt _ (by decide)⟩
 have e : ((n % 256 : Nat) : Int) = (n : Int) % 256 := by omega
 rw [← e, h, show n % 256 % 128 = n % 128 by omega]
set_option maxRecDepth 100000 in
set_option maxHeartbeats 1600000 in
theorem co_varint (u : Nat) (hu : u < 18446744073709551616) (w : World) :
  Calls Try.prog 58 #[.slice none 0 0, .int .u64 (u : Int)] w fun e w' => ∃ v, e = .returned v ∧ OB w' w.heap.size v (vi u) ∧ Ext w w' := by
 have HL := Lib.hid (vi_len10 hu)
 obtain ⟨R, hR⟩ : ∃ R, R = vi u := ⟨_, rfl⟩
 rw [← hR] at HL ⊢
 have HR := Lib.hid hR
 clear hR
 go_enter Try.func58, Try.ntmps58
 go_wp2_with fail
 go_loopw [0, 1] (fun v0 u1 W => ∃ (vO : Value) (n : Nat) (acc : List Nat), vO = v0 ∧ u1 = .int .u64 (n : Int) ∧ n < 18446744073709551616 ∧ Hid (OB W w.heap.size vO acc) ∧ Hid (acc ++ vi n = R) ∧ Hid (Ext w W)) (fun _ u1 _ => (intOf u1).toNat)
 case atStart => exact ⟨_, u, [], rfl, rfl, hu, Lib.hid (OwnG.nil _ _ _ _ _), Lib.hid HR.out.symm, Lib.hid (Ext.refl _)⟩
 case round =>
  obtain ⟨vO, n, acc, rfl, rfl, hn, HO, HM, hE⟩ := hrel
  have hm8 : acc.length + 1 ≤ 8388608 := by have h1 := congrArg List.length HM.out; rw [List.length_append] at h1; have h2 := HL.out; have h3 := List.length_pos_iff.2 (vi_ne n); omega
  by_cases hge : 128 ≤ n
  ·have HM2 := Lib.hid (by have h := HM.out; rw [vi_big hge] at h; rw [List.append_assoc]; exact h : (acc ++ [n % 128 + 128]) ++ vi (n / 128) = R)
   clear HM
   go_upto_region 3 with (at_builtin; go_loud (refine own_pushG (v := vO) (hs := acc) T_kb rfl (.tmp 7) (.tmp 11) rfl wr rfl HO.out hE.out.le (n % 128 + 128 : Nat) trivial (by rw [or128]; rfl) _ rfl rfl hm8 (by decide) ?_); intro v6 w6 hO6 hg6 hd6)
   have hE6 : Ext w w6 := hE.out.grown hg6 (fun b e => (OwnG.lt HO.out e).1)
   have HO6 := Lib.hid hO6
   have HE6 := Lib.hid hE6
   clear hO6 hg6 hd6 hE6
   go_wp2_with fail
   go_roundw
   case rel => exact ⟨_, n / 128, _, rfl, by go_num, by omega, HO6, HM2, HE6⟩
   case measure => simp [intOf]; omega
  ·have HM2 := Lib.hid (by have h := HM.out; rw [vi_small (by omega)] at h; exact h : acc ++ [n] = R)
   clear HM
   go_wp2_with (at_builtin; go_loud (refine own_pushG (v := vO) (hs := acc) T_kb rfl (.tmp 15) (.tmp 18) rfl wr rfl HO.out hE.out.le (n : Nat) trivial rfl _ rfl rfl hm8 (by decide) ?_); intro v6 w6 hO6 hg6 hd6)
   rw [HM2.out] at hO6
   have hE6 : Ext w w6 := hE.out.grown hg6 (fun b e => (OwnG.lt HO.out e).1)
   go_ret
   exact ⟨v6, rfl, hO6, hE6⟩
end Go.Proofs.Ytnheioehadldmaa

/- PLAIN: what column.Encode writes; an append of a row of bytes. -/
namespace Go.Proofs.Ytnheioehadldmaa
open Go.RowKit
theorem fm_bytes : ∀ l : List Nat, l.flatMap KB.enc = l.map (fun x : Nat => Value.int .u8 (x : Int))
 | [] => rfl
 | x :: l => by rw [List.flatMap_cons, fm_bytes l]; rfl
/-- an own row of bytes appended to an own row of bytes -/
theorem run_catB (ty : TypeId) {w : World} {base base2 : Nat} {v v2 : Value} {l l2 : List Nat} (h : OB w base v l) (hb : base ≤ w.heap.size) (h2 : OB w base2 v2 l2) (h63 : l.length + l2.length ≤ 8388608) :
  ∃ v' w', (Builtin.append_ #[38, 38] ty #[v, v2]).run Try.prog w = .ok v' w' ∧ OB w' base v' (l ++ l2) ∧ w.grownBy w' v.ownBlock := by
 obtain ⟨A, c, hv, hle, hB⟩ := h2.byts (by omega)
 have hA : A = none → l2.length = 0 := fun e => by
  rcases Nat.eq_zero_or_pos l2.length with h0 | h0
  ·exact h0
  ·obtain ⟨b, o, e2, -⟩ := hB.2 h0
   rw [e] at e2; cases e2
 have hC : ∀ ad, A = some ad → ∀ j u, (l2.flatMap KB.enc)[j]? = some u → w.cell? (ad.add j) = some u := fun ad e j u hu => by
  rw [fm_bytes, List.getElem?_map] at hu
  cases hj : l2[j]? with
  | none => rw [hj] at hu; cases hu
  | some x =>
   rw [hj] at hu
   obtain ⟨hjl, hx⟩ := List.getElem?_eq_some_iff.1 hj
   obtain ⟨b, o, e2, hc⟩ := hB.2 (by omega)
   rw [e] at e2
   injection e2 with e2
   subst e2
   have h9 := (hc j hjl).2
   rw [Addr.add_mid]
   rw [Nat.mul_one, hx] at h9
   rw [h9, ← hu]; rfl
 obtain ⟨v', w', k1, k2, k3, -⟩ := run_catG T_kb ty w h hb A l2.length c l2 rfl hA hC (fun _ _ => trivial) h63 (by decide)
 exact ⟨v', w', by rw [hv]; exact k1, k2, k3⟩
theorem own_catB {ops : Array Oper} {rest : List Oper} {o : Oper} {a : Act} {Q : Exit → Act → World → Prop} {w : World} {base base2 : Nat} {v v2 : Value} {l l2 : List Nat} (hgd : o.guard = none) (s y : Operand)
  (ho : o.op = .call { callee := .builtin .append, args := #[s, y], argTypes := #[38, 38] }) (hs' : a.eval s = v) (hy : a.eval y = v2) (h : OB w base v l) (hb : base ≤ w.heap.size) (h2 : OB w base2 v2 l2) (h63 : l.length + l2.length ≤ 8388608)
  (hK : ∀ v' w', OB w' base v' (l ++ l2) → w.grownBy w' v.ownBlock → wpList Try.prog ops Q rest (a.put o.dst v') w') : wpList Try.prog ops Q (o :: rest) a w := by
 obtain ⟨v', w', hr, h1, h3⟩ := run_catB o.type h hb h2 h63
 refine wpList_plain hgd fun K2 hK2 => ?_
 unfold Oper.wp execOp
 simp only [ho, resolve, invoke, builtin, Sem.run_bind, Sem.run_pure, Result.andThen_ok, List.map_toArray, List.map_cons, List.map_nil, hs', hy, hr]
 exact hK2 _ _ (hK v' w' h1 h3)
theorem step_catB {ops : Array Oper} {o : Oper} {a : Act} {K2 : Act → World → Prop} {Q : Exit → Act → World → Prop} {E : Prop} {w : World} {base base2 : Nat} {v v2 : Value} {l l2 : List Nat} (hgd : o.guard = none) (s y : Operand)
  (ho : o.op = .call { callee := .builtin .append, args := #[s, y], argTypes := #[38, 38] }) (hs' : a.eval s = v) (hy : a.eval y = v2) (h : OB w base v l) (hb : base ≤ w.heap.size) (h2 : OB w base2 v2 l2) (h63 : l.length + l2.length ≤ 8388608)
  (hK : ∀ v' w', OB w' base v' (l ++ l2) → w.grownBy w' v.ownBlock → K2 (a.put o.dst v') w') : if Region.wanted o (yielded ops a.tmps) = true then Oper.wp Try.prog o a w K2 Q else E := by
 obtain ⟨v', w', hr, h1, h3⟩ := run_catB o.type h hb h2 h63
 exact step_append_run' hgd s y _ _ ho v _ hs' hy hr (hK v' w' h1 h3)
def prevN (c : Col) (i : Nat) : Int := if i = 0 then 0 else c.nodes[i - 1]!
def prevE (c : Col) (k : Nat) : Int := if k = 0 then 0 else c.edges[k - 1]!
def prevT (c : Col) (i k : Nat) : Int := if k = c.first[i]!.toNat then c.nodes[i]! else c.tos[k - 1]!
def entB (c : Col) (i k : Nat) : List Nat := vi (zig (c.tos[k]! - prevT c i k)) ++ vi (zig (c.edges[k]! - prevE c k))
def entsB (c : Col) (i k : Nat) : List Nat := (List.range' c.first[i]!.toNat (k - c.first[i]!.toNat)).flatMap (entB c i)
def hdB (c : Col) (i : Nat) : List Nat := vi (c.nodes[i]! - prevN c i).toNat ++ vi (c.first[i + 1]!.toNat - c.first[i]!.toNat)
def rowB (c : Col) (i : Nat) : List Nat := hdB c i ++ entsB c i c.first[i + 1]!.toNat
def rowsB (c : Col) (i : Nat) : List Nat := (List.range i).flatMap (rowB c)
def encC (c : Col) : List Nat := vi c.nodes.length ++ rowsB c c.nodes.length
noncomputable def encR (c : Col) : List Nat := if colB c = true then encC c else []
theorem ents_start (c : Col) (i : Nat) : entsB c i c.first[i]!.toNat = [] := by unfold entsB; rw [Nat.sub_self]; rfl
theorem ents_snoc {c : Col} {i k : Nat} (h : c.first[i]!.toNat ≤ k) : entsB c i (k + 1) = entsB c i k ++ entB c i k := by
 unfold entsB
 rw [show k + 1 - c.first[i]!.toNat = (k - c.first[i]!.toNat) + 1 by omega, List.range'_concat, List.flatMap_append, show c.first[i]!.toNat + 1 * (k - c.first[i]!.toNat) = k by omega]
 simp
theorem rows_succB (c : Col) (i : Nat) : rowsB c (i + 1) = rowsB c i ++ rowB c i := by
 unfold rowsB
 rw [List.range_succ, List.flatMap_append]
 simp
theorem prevN_succ (c : Col) (i : Nat) : prevN c (i + 1) = c.nodes[i]! := by unfold prevN; rw [if_neg (by omega)]; rfl
theorem prevE_succ (c : Col) (k : Nat) : prevE c (k + 1) = c.edges[k]! := by unfold prevE; rw [if_neg (by omega)]; rfl
theorem prevT_succ {c : Col} {i k : Nat} (h : c.first[i]!.toNat ≤ k) : prevT c i (k + 1) = c.tos[k]! := by unfold prevT; rw [if_neg (by omega)]; rfl
theorem prevT_start (c : Col) (i : Nat) : prevT c i c.first[i]!.toNat = c.nodes[i]! := by unfold prevT; rw [if_pos rfl]
theorem nb_node {c : Col} (h : validP c) {i : Nat} (hi : i < c.nodes.length) : 0 ≤ c.nodes[i]! - prevN c i ∧ c.nodes[i]! - prevN c i ≤ 1000000 := by
 obtain ⟨⟨-, hs⟩, -⟩ := (valid_ref c).1 h
 obtain ⟨h1, h2⟩ := hs i hi
 unfold prevN
 unfold idOk at h1
 split
 ·omega
 ·rename_i h0
  obtain ⟨j, rfl⟩ : ∃ j, i = j + 1 := ⟨i - 1, by omega⟩
  have h3 := h2 j rfl
  have h4 := (hs j (by omega)).1
  unfold idOk at h4
  rw [Nat.add_sub_cancel]
  omega
theorem nb_ent {c : Col} (h : validP c) {i k : Nat} (hi : i < c.nodes.length) (hk : k < c.tos.length) : (-1000000 ≤ c.tos[k]! - prevT c i k ∧ c.tos[k]! - prevT c i k ≤ 1000000) ∧ -1000000 ≤ c.edges[k]! - prevE c k ∧ c.edges[k]! - prevE c k ≤ 1000000 := by
 obtain ⟨⟨-, hs⟩, ht, -⟩ := (valid_ref c).1 h
 obtain ⟨h1, h2⟩ := ht k hk
 have h3 := (hs i hi).1
 unfold prevT prevE
 unfold idOk at h1 h2 h3
 refine ⟨?_, ?_⟩
 ·split
  ·omega
  ·rename_i h0
   have h4 := (ht (k - 1) (by omega)).1
   unfold idOk at h4
   omega
 ·split
  ·omega
  ·rename_i h0
   have h4 := (ht (k - 1) (by omega)).2
   unfold idOk at h4
   omega
theorem entB_len {c : Col} (h : validP c) {i k : Nat} (hi : i < c.nodes.length) (hk : k < c.tos.length) : (entB c i k).length ≤ 20 := by
 obtain ⟨h1, h2⟩ := nb_ent h hi hk
 unfold entB
 rw [List.length_append]
 have a := vi_len10 (zig_lt (n := c.tos[k]! - prevT c i k) (by omega))
 have b := vi_len10 (zig_lt (n := c.edges[k]! - prevE c k) (by omega))
 omega
theorem entsB_len {c : Col} (h : validP c) {i : Nat} (hi : i < c.nodes.length) : ∀ d, c.first[i]!.toNat + d ≤ c.tos.length → (entsB c i (c.first[i]!.toNat + d)).length ≤ 20 * d
 | 0, _ => by rw [Nat.add_zero, ents_start]; exact Nat.zero_le _
 | d + 1, hd => by
  have ih := entsB_len h hi d (by omega)
  rw [← Nat.add_assoc, ents_snoc (by omega), List.length_append]
  have := entB_len h hi (k := c.first[i]!.toNat + d) (by omega)
  omega
theorem hdB_len {c : Col} (h : validP c) {i : Nat} (hi : i < c.nodes.length) (hm : c.first[i + 1]!.toNat ≤ 1000000) : (hdB c i).length ≤ 20 := by
 have h1 := nb_node h hi
 unfold hdB
 rw [List.length_append]
 have a := vi_len10 (u := (c.nodes[i]! - prevN c i).toNat) (by omega)
 have b := vi_len10 (u := c.first[i + 1]!.toNat - c.first[i]!.toNat) (by omega)
 omega
theorem rowsB_len {c : Col} (h : validP c) (hs : ShapeC c) (hm : c.tos.length ≤ 1000000) : ∀ {i : Nat}, i ≤ c.nodes.length → (rowsB c i).length ≤ 20 * i + 20 * c.first[i]!.toNat
 | 0, _ => Nat.zero_le _
 | i + 1, hi => by
  have ih := rowsB_len h hs hm (i := i) (by omega)
  have hle := hs.le (i := i + 1) hi
  have hr := hs.lt (i := i) (j := i + 1) (by omega) hi
  have hnn := hs.nn (i := i) (by omega)
  have a := hdB_len h (i := i) (by omega) (by omega)
  have b := entsB_len h (i := i) (by omega) (c.first[i + 1]!.toNat - c.first[i]!.toNat) (by omega)
  rw [show c.first[i]!.toNat + (c.first[i + 1]!.toNat - c.first[i]!.toNat) = c.first[i + 1]!.toNat by omega] at b
  rw [rows_succB, List.length_append]
  unfold rowB
  rw [List.length_append]
  omega
end Go.Proofs.Ytnheioehadldmaa

/- THE WALKS over codec.PutUint and codec.PutInt. -/
namespace Go.Proofs.Ytnheioehadldmaa
open Go.RowKit
set_option maxRecDepth 100000 in
theorem co_PutUint (m : Nat) (hm : m ≤ 9223372036854775807) (w : World) :
  Calls Try.prog 43 #[.int .i64 (m : Int)] w fun e w' => ∃ v, e = .returned v ∧ OB w' w.heap.size v (vi m) ∧ Ext w w' := by
 have HV := Lib.hid (co_varint m (by omega) w)
 have w1 : IntKind.u64.wrap (m : Int) = (m : Int) := by rw [IntKind.wrap_u64]; omega
 have w2 : (m : Int) % 18446744073709551616 = (m : Int) := by omega
 have g : decide ((m : Int) < 0) = false := decide_eq_false (by omega)
 go_enter Try.func43, Try.ntmps43
 go_wp2_with (go_at_call 58; ((with_reducible refine (HV.out).mono ?_); rintro e w2 ⟨v, rfl, hO, hx⟩))
 go_ret
 exact ⟨v, rfl, hO, hx⟩
theorem xor_all {x : Nat} (h : x < 2 ^ 64) : (2 ^ 64 - 1) ^^^ x = 2 ^ 64 - (x + 1) := by
 apply Nat.eq_of_testBit_eq
 intro i
 rw [Nat.testBit_xor, Nat.testBit_two_pow_sub_one, Nat.testBit_two_pow_sub_succ h]
 by_cases hi : i < 64
 ·rw [decide_eq_true hi]; simp
 ·rw [decide_eq_false hi, Nat.testBit_lt_two_pow (Nat.lt_of_lt_of_le h (Nat.pow_le_pow_right (by decide) (by omega)))]; rfl
set_option maxRecDepth 100000 in
theorem co_PutInt (n : Int) (hn : -9223372036854775808 ≤ n ∧ n ≤ 9223372036854775807) (w : World) :
  Calls Try.prog 44 #[.int .i64 n] w fun e w' => ∃ v, e = .returned v ∧ OB w' w.heap.size v (vi (zig n)) ∧ Ext w w' := by
 have HV := Lib.hid (co_varint (zig n) (zig_lt hn) w)
 go_enter Try.func44, Try.ntmps44
 by_cases h : n < 0
 ·have e1 : IntKind.u64.wrap (IntKind.u64.wrap n * 2) = ((18446744073709551616 - (-2 * n).toNat : Nat) : Int) := by rw [IntKind.wrap_u64, IntKind.wrap_u64]; omega
  have e2 : bits BinOp.xor IntKind.u64 (if IntKind.u64.signed = true then -1 else IntKind.u64.max) (IntKind.u64.wrap (IntKind.u64.wrap n * 2)) = ((zig n : Nat) : Int) := by
   rw [e1, show (if IntKind.u64.signed = true then -1 else IntKind.u64.max) = (18446744073709551615 : Int) by decide, u64_xor _ _ (by decide) (by decide) (by omega) (by omega)]
   have h1 := xor_all (x := 18446744073709551616 - (-2 * n).toNat) (by omega)
   rw [show (18446744073709551615 : Int).toNat = 2 ^ 64 - 1 by decide, Int.toNat_natCast, h1]
   unfold zig
   rw [if_pos h]
   omega
  have E2 := Lib.hid e2
  clear e1 e2
  go_upto_region 4 with (fail)
  rw [E2.out]
  clear E2
  go_wp2_with (go_at_call 58; ((with_reducible refine (HV.out).mono ?_); rintro e w2 ⟨v, rfl, hO, hx⟩))
  go_ret
  exact ⟨v, rfl, hO, hx⟩
 ·have e1 : ((zig n : Nat) : Int) = n * 2 := by unfold zig; rw [if_neg h]; omega
  rw [e1] at HV
  go_wp2_with (go_at_call 58; ((with_reducible refine (HV.out).mono ?_); rintro e w2 ⟨v, rfl, hO, hx⟩))
  go_ret
  exact ⟨v, rfl, hO, hx⟩
end Go.Proofs.Ytnheioehadldmaa
