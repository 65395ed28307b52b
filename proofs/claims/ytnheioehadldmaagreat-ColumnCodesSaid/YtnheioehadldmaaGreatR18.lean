/- PARTS OF THE WALKS, joined: CpJ, CoT, CoU, CoV, CoW, CoX. -/
import Derived.Test.YtnheioehadldmaaGreatR17
import Derived.Test.YtnheioehadldmaaGreatR08
import Derived.Test.YtnheioehadldmaaGreatR16
import Derived.Laws.BitsAllLaws
import Derived.Laws.DeepNot64
/- THE WALK over column.Build. -/
namespace Go.Proofs.YtnheioehadldmaaGreat
open Go.RowKit
theorem flat3 : ∀ (l : List Sh) (j : Nat) (u : Value), (l.flatMap Sh.cells)[j]? = some u → ∃ k r, k < l.length ∧ j = k * 3 + r ∧ (Sh.cells l[k]!)[r]? = some u
 | [], j, u, h => by simp at h
 | x :: l, j, u, h => by
  rw [List.flatMap_cons] at h
  by_cases hj : j < 3
  ·rw [List.getElem?_append_left (by show j < 3; exact hj)] at h
   exact ⟨0, j, by simp, by omega, by simpa using h⟩
  ·rw [List.getElem?_append_right (by show 3 ≤ j; omega)] at h
   obtain ⟨k, r, h1, h2, h3⟩ := flat3 l _ u h
   have h2' : j - 3 = k * 3 + r := h2
   exact ⟨k + 1, r, by simpa using h1, by omega, by simpa using h3⟩
theorem Shares.cellsF {w : World} {ok : Nat → Prop} {A : Option Addr} {l : List Sh} (h : Shares w ok A l) : ∀ ad, A = some ad → ∀ (j : Nat) (u : Value), (l.flatMap KA.enc)[j]? = some u → w.cell? (ad.add j) = some u := fun ad e j u hu => by
 obtain ⟨k, r, hk, rfl, hr⟩ := flat3 l j u hu
 obtain ⟨b, o, e2, hc⟩ := h.at_ hk
 rw [e] at e2
 injection e2 with e2
 subst e2
 obtain ⟨-, c0, c1, c2⟩ := hc k hk
 rw [Addr.add_mid]
 match r, hr with
 | 0, hr => rw [Nat.add_zero, c0]; exact hr
 | 1, hr => rw [← Nat.add_assoc, c1]; exact hr
 | 2, hr => rw [← Nat.add_assoc, c2]; exact hr
 | r + 3, hr => cases hr
theorem Shares.noneLen {w : World} {ok : Nat → Prop} {A : Option Addr} {l : List Sh} (h : Shares w ok A l) : A = none → l.length = 0 := fun e => by
 rcases Nat.eq_zero_or_pos l.length with h0 | h0
 ·exact h0
 ·obtain ⟨b, o, e2, -⟩ := h.at_ h0
  rw [e] at e2; cases e2
def dirB (dir : Int) : Bool := decide (dir ≠ 1) && decide (dir ≠ 2)
def typE (typ : ByteArray) : Bool := decide (typ ≠ ByteArray.empty) && !nameB typ
def buildR (g : GraphG) (typ : ByteArray) (dir : Int) : Int × Col := if chkG g ≠ 0 then (chkG g, noCol) else if dirB dir = true then (1, noCol) else if typE typ = true then (6, noCol) else (0, packC (rowsG g (typsOf typ) dir))
def rowsN (g : GraphG) (types : List ByteArray) (dir : Int) (i : Nat) : List Sh := (g.nodes.take i).flatMap (fun n => (stepsL g types dir n.id).map (adjOf n.id))
theorem rowsN_succ (g : GraphG) (types : List ByteArray) (dir : Int) {i : Nat} (hi : i < g.nodes.length) : rowsN g types dir (i + 1) = rowsN g types dir i ++ (stepsL g types dir g.nodes[i]!.id).map (adjOf g.nodes[i]!.id) := by
 unfold rowsN
 rw [List.take_succ_eq_append_getElem hi, List.flatMap_append, getElem!_pos g.nodes i hi]
 simp
theorem rowsN_len (g : GraphG) (types : List ByteArray) (dir : Int) : ∀ {i : Nat}, i ≤ g.nodes.length → (rowsN g types dir i).length ≤ i * g.edges.length
 | 0, _ => Nat.zero_le _
 | i + 1, hi => by
  have ih := rowsN_len g types dir (i := i) (by omega)
  have h1 := stepsL_len g types dir g.nodes[i]!.id
  rw [rowsN_succ g types dir (by omega), List.length_append, List.length_map, Nat.add_mul, Nat.one_mul]
  omega
theorem rowsN_all (g : GraphG) (types : List ByteArray) (dir : Int) : rowsN g types dir g.nodes.length = rowsG g types dir := by unfold rowsN rowsG; rw [List.take_length]
theorem Strs.one {w : World} {b : Nat} {s : ByteArray} (h : w.cell? ⟨b, 0, none⟩ = some (.string s)) : Strs w (fun _ => True) (some ⟨b, 0, none⟩) [s] := by
 refine ⟨by show 1 ≤ 140737488355328; decide, fun _ => ⟨b, 0, rfl, fun k hk => ?_⟩⟩
 obtain rfl : k = 0 := by simpa using hk
 exact ⟨trivial, h⟩
set_option maxRecDepth 100000 in
set_option maxHeartbeats 1600000 in
theorem co_Build (g : GraphG) (typ : ByteArray) (dir : Int) (ok : Nat → Prop) (A B : Option Addr) (c d : Nat) (w : World) (hg : GraphAt w ok A B g) (hl : g.nodes.length ≤ 1000 ∧ g.edges.length ≤ 1000) :
  Calls Tryz.prog 6 #[.agg #[.slice A g.nodes.length c, .slice B g.edges.length d, .int .i64 g.nn, .int .i64 g.ne], .string typ, .int .i64 dir] w fun e w' => ∃ A B C D k0 k1 k2 k3, e = .returned (.tuple #[agC (buildR g typ dir).2 A B C D k0 k1 k2 k3, .int .i64 (buildR g typ dir).1]) ∧ ColAt w' (fun b => w.heap.size ≤ b) A B C D (buildR g typ dir).2 ∧ Ext w w' := by
 obtain ⟨q, w1, hq, hw1, g0, g1, g2, g3, hx1⟩ := box_graph w A B c d g 25
 obtain ⟨q2, w2, hq2, hw2, hrx, hrz, hx2⟩ := box_zero w1 29
 have HW1 := Lib.hid hw1
 have HW2 := Lib.hid hw2
 have HQQ := Lib.hid hq
 have HQ2 := Lib.hid (show q2 = q + 1 by rw [hq2, hw1, hq]; simp)
 have HRX := Lib.hid hrx
 have HRZ := Lib.hid hrz
 have HX := Lib.hid (hx1.trans hx2)
 have HQ := Lib.hid (show w.heap.size ≤ q2 by have := hx1.le; omega)
 have HQ1 := Lib.hid (show ¬ w2.heap.size ≤ q2 by rw [hw2, hq2]; simp)
 have HG := Lib.hid ((hg.ext hx1).ext hx2)
 have HCK := Lib.hid (gr_Check g ok A B c d w2 ((hg.ext hx1).ext hx2))
 have HPK := Lib.hid (fun (B : Option Addr) (ok : Nat → Prop) m W (h : Shares W ok B (rowsG g (typsOf typ) dir)) h2 => co_pack (rowsG g (typsOf typ) dir) ok B m W h h2)
 have HST := Lib.hid (fun (n : Int) (ok' : Nat → Prop) T e W (x : Ext w2 W) (ht : Strs W ok' T (typsOf typ)) => gr_Steps g (typsOf typ) n dir ok ok' A B T c d e W ((hg.ext hx1).ext (hx2.trans x)).edges ht (by omega))
 obtain ⟨R, hR⟩ : ∃ R, R = buildR g typ dir := ⟨_, rfl⟩
 rw [← hR]
 have HB0 := Lib.hid (fun (h : chkG g ≠ 0) => (by rw [hR]; unfold buildR; rw [if_pos h] : R = (chkG g, noCol)))
 have HB1 := Lib.hid (fun (h : chkG g = 0) (h1 : dirB dir = true) => (by rw [hR]; unfold buildR; rw [if_neg (fun e => e h), if_pos h1] : R = (1, noCol)))
 have HB2 := Lib.hid (fun (h : chkG g = 0) (h1 : dirB dir = false) (h2 : typE typ = true) => (by rw [hR]; unfold buildR; rw [if_neg (fun e => e h), if_neg (by rw [h1]; exact Bool.false_ne_true), if_pos h2] : R = (6, noCol)))
 have HB3 := Lib.hid (fun (h : chkG g = 0) (h1 : dirB dir = false) (h2 : typE typ = false) => (by rw [hR]; unfold buildR; rw [if_neg (fun e => e h), if_neg (by rw [h1]; exact Bool.false_ne_true), if_neg (by rw [h2]; exact Bool.false_ne_true)] : R = (0, packC (rowsG g (typsOf typ) dir))))
 replace g0 := hx2.cell g0
 replace g1 := hx2.cell g1
 replace g2 := hx2.cell g2
 replace g3 := hx2.cell g3
 have HLL := Lib.hid (fun i (hi : i ≤ g.nodes.length) => (by have h := rowsN_len g (typsOf typ) dir hi; have h2 : i * g.edges.length ≤ 1000 * 1000 := Nat.mul_le_mul (by omega) (by omega); omega : (rowsN g (typsOf typ) dir i).length ≤ 1000000))
 have HSL := Lib.hid (fun n => (by rw [List.length_map]; have := stepsL_len g (typsOf typ) dir n; omega : ((stepsL g (typsOf typ) dir n).map (adjOf n)).length ≤ 1000))
 have HRS := Lib.hid (fun i (hi : i < g.nodes.length) => rowsN_succ g (typsOf typ) dir hi)
 have HRA := Lib.hid (rowsN_all g (typsOf typ) dir)
 have HNV := Lib.hid ((hg.ext hx1).ext hx2).nodes
 have hnl := ((hg.ext hx1).ext hx2).nodes.len
 clear hR hg hw1 hw2 hq hq2 hrx hrz hx1 hx2
 obtain ⟨ec, hec⟩ : ∃ ec, ec = chkG g := ⟨_, rfl⟩
 rw [← hec] at HCK HB0 HB1 HB2 HB3
 clear hec HG
 go_enter Tryz.func6, Tryz.ntmps6
 go_upto_region 1 with (fail)
 rw [← HW1.out, ← HQQ.out, ← HQ2.out, ← HW2.out]
 clear HW1 HW2 HQQ HQ2
 have MKG := Lib.hid (fun V (e : Ext w2 V) => (⟨e.cell g0, e.cell g1, e.cell g2, e.cell g3⟩ : (V.cell? ⟨q, 0, none⟩ = some (.slice A g.nodes.length c) ∧ V.cell? ⟨q, 1, none⟩ = some (.slice B g.edges.length d) ∧ V.cell? ⟨q, 2, none⟩ = some (.int .i64 g.nn) ∧ V.cell? ⟨q, 3, none⟩ = some (.int .i64 g.ne))))
 by_cases hc0 : ec = 0
 ·replace HB1 := Lib.hid (HB1.out hc0)
  replace HB2 := Lib.hid (HB2.out hc0)
  replace HB3 := Lib.hid (HB3.out hc0)
  clear HB0
  subst hc0
  go_upto_region 4 with (go_at_call 20; ((with_reducible refine (HCK.out).mono ?_); rintro e w3 ⟨rfl, hx3⟩; obtain ⟨g0, g1, g2, g3⟩ := MKG.out _ hx3; clear HCK))
  have HX3 := Lib.hid hx3
  obtain ⟨bd, hbd⟩ : ∃ bd, bd = dirB dir := ⟨_, rfl⟩
  have HBD := Lib.hid hbd
  clear hbd
  go_cut [20] from 21 (fun s20 wx => s20 = .bool bd ∧ wx = w3)
  case first =>
   by_cases d1 : dir = 1
   ·have K := Lib.hid (by rw [HBD.out, d1]; rfl : bd = false)
    have g4 : (dir != 1) = false := by rw [d1]; rfl
    have g5 : (dir == 1) = true := by rw [d1]; rfl
    clear d1 HBD
    go_wp2_with fail
    go_meet
    case rel => exact ⟨by rw [K.out], rfl⟩
   ·by_cases d2 : dir = 2
    ·have K := Lib.hid (by rw [HBD.out, d2]; rfl : bd = false)
     have g4 : (dir != 1) = true := by rw [d2]; rfl
     have g5 : (dir != 2) = false := by rw [d2]; rfl
     clear d1 d2 HBD
     go_wp2_with fail
     go_meet
     case rel => exact ⟨by rw [K.out], rfl⟩
    ·have K := Lib.hid (by rw [HBD.out]; unfold dirB; rw [decide_eq_true d1, decide_eq_true d2]; rfl : bd = true)
     have g4 : (dir != 1) = true := bne_iff_ne.2 d1
     have g5 : (dir != 2) = true := bne_iff_ne.2 d2
     clear d1 d2 HBD
     go_wp2_with fail
     go_meet
     case rel => exact ⟨by rw [K.out], rfl⟩
  case rest =>
   obtain ⟨rfl, hwx⟩ := hcut
   subst hwx
   obtain ⟨w4, hw4⟩ : ∃ W, W = wc := ⟨_, rfl⟩
   subst hw4
   cases bd
   ·have HD0 := Lib.hid HBD.out.symm
    clear HBD
    go_upto_region 6 with (fail)
    obtain ⟨bn, hbn⟩ : ∃ bn, bn = typE typ := ⟨_, rfl⟩
    have HBN := Lib.hid hbn
    obtain ⟨bt, hbt⟩ : ∃ bt : Bool, bt = decide (typ ≠ ByteArray.empty) := ⟨_, rfl⟩
    have HBT := Lib.hid hbt
    have hte : typ = ByteArray.empty ↔ typ.toList = [] := ⟨fun h => by rw [h, ByteArray.toList_eq]; rfl, fun h => by rw [ByteArray.toList_eq] at h; exact ba_ext h⟩
    have t1 : typ.toList.isEmpty = !bt := by
     rw [hbt]
     by_cases h : typ.toList = []
     ·rw [decide_eq_false (show ¬ typ ≠ ByteArray.empty from fun h2 => h2 (hte.2 h)), h]; rfl
     ·rw [decide_eq_true (show typ ≠ ByteArray.empty from fun h2 => h (hte.1 h2))]
      cases hl9 : typ.toList with
      | nil => exact absurd hl9 h
      | cons a l => rfl
    have HTE := Lib.hid (⟨fun h => by
     rw [hbt] at h
     exact hte.1 (Decidable.not_not.1 (of_decide_eq_false h)), fun h h2 => by
     rw [hbt] at h
     exact of_decide_eq_true h (hte.2 h2)⟩ : (bt = false → typ.toList = []) ∧ (bt = true → ¬ typ.toList = []))
    clear hte
    have HNM := Lib.hid (g_Name typ w4)
    clear hbn hbt
    go_cut [28] from 29 (fun s28 wx => s28 = .bool bn ∧ wx = w4)
    case first =>
     cases bt
     ·have t2 := HTE.out.1 rfl
      have K := Lib.hid (by rw [HBN.out]; unfold typE; rw [← HBT.out]; rfl : bn = false)
      clear HBN HBT HNM HTE
      go_wp2_with fail
      go_meet
      case rel => exact ⟨by rw [K.out], rfl⟩
     ·have t2 := HTE.out.2 rfl
      have K0 := Lib.hid (by rw [HBN.out]; unfold typE; rw [← HBT.out]; rfl : bn = !nameB typ)
      generalize nameB typ = nb at *
      cases nb
      ·have K := Lib.hid (K0.out.trans (by rfl : _ = true))
       clear HBN HBT K0 HTE
       go_wp2_with (go_at_call 21; ((with_reducible refine (HNM.out).mono ?_); rintro e w5 ⟨rfl, rfl⟩))
       go_meet
       case rel => exact ⟨by rw [K.out], rfl⟩
      ·have K := Lib.hid (K0.out.trans (by rfl : _ = false))
       clear HBN HBT K0 HTE
       go_wp2_with (go_at_call 21; ((with_reducible refine (HNM.out).mono ?_); rintro e w5 ⟨rfl, rfl⟩))
       go_meet
       case rel => exact ⟨by rw [K.out], rfl⟩
    case rest =>
     obtain ⟨rfl, hwx⟩ := hcut
     subst hwx
     obtain ⟨w5, hw5⟩ : ∃ W, W = wc := ⟨_, rfl⟩
     subst hw5
     cases bn
     ·have HRR := Lib.hid (HB3.out HD0.out HBN.out.symm)
      have HTY := Lib.hid (by unfold typsOf; rfl : typsOf typ = if typ = ByteArray.empty then [] else [typ])
      clear HNM HB1 HB2 HB3 HBN
      go_upto_if 38 with (fail)
      clear t1
      go_cut [9] from 37 (fun s9 wx => ∃ (T : Option Addr) (e : Nat), s9 = .slice T (typsOf typ).length e ∧ Hid (Strs wx (fun _ => True) T (typsOf typ)) ∧ Hid (Ext w2 wx))
      case first =>
       cases bt
       ·have t2 := HTE.out.1 rfl
        have K := Lib.hid (HTY.out.trans (if_pos (by have h := HBT.out; simpa using h.symm)))
        clear HBT HTY HTE
        go_wp2_with fail
        go_meet
        case rel => exact ⟨none, 0, by rw [K.out]; rfl, Lib.hid (by rw [K.out]; exact SliceR.nil _ _ _), HX3⟩
       ·have t2 := HTE.out.2 rfl
        have K := Lib.hid (HTY.out.trans (if_neg (by have h := HBT.out; simpa using h.symm)))
        have HSX := Lib.hid (HX3.out.trans ((Ext.refl w5).alloc (.cells #[.string typ] 9)))
        have HSS := Lib.hid (Strs.one (w := w5.alloc (.cells #[.string typ] 9)) (b := w5.heap.size) (s := typ) (by go_simp))
        clear HBT HTY HTE
        go_wp2_with fail
        go_meet
        case rel => exact ⟨some ⟨w5.heap.size, 0, none⟩, 1, by rw [K.out]; rfl, Lib.hid (by rw [K.out]; exact HSS.out), HSX⟩
      case rest =>
       obtain ⟨T, e, rfl, HSS, HX5⟩ := hcut
       obtain ⟨w6, hw6⟩ : ∃ W, W = wc := ⟨_, rfl⟩
       subst hw6
       clear HBT HTY HTE HX3 g0 g1 g2 g3 HD0
       obtain ⟨g0, g1, g2, g3⟩ := MKG.out _ HX5.out
       go_wp2_with fail
       go_loopw [10, 44] (fun u10 u W => ∃ (vO : Value) (i : Nat), vO = u10 ∧ u = .int .i64 i ∧ i ≤ g.nodes.length ∧ Hid (OA W w6.heap.size vO (rowsN g (typsOf typ) dir i)) ∧ Hid (Ext w6 W)) (fun _ u _ => g.nodes.length - (intOf u).toNat)
       case atStart => exact ⟨_, 0, rfl, rfl, Nat.zero_le _, Lib.hid (show OA _ _ _ [] from OwnG.nil _ _ _ _ _), Lib.hid (Ext.refl _)⟩
       case round =>
        clear g0 g1 g2 g3
        obtain ⟨vO, i, rfl, rfl, hi, HO, hE⟩ := hrel
        by_cases hlt : i < g.nodes.length
        ·obtain ⟨b, o, rfl, hcn⟩ := HNV.out.2 (by omega)
         obtain ⟨-, n0, LA, lc, PA, pc, n1, -, -, n2, -, -⟩ := hcn i hlt
         have HEW := Lib.hid (HX5.out.trans hE.out)
         replace n0 := HEW.out.cell n0
         replace n1 := HEW.out.cell n1
         replace n2 := HEW.out.cell n2
         rw [← getElem!_pos g.nodes i hlt] at n0 n1 n2
         have HSC := Lib.hid (HRS.out i hlt)
         have HLN := Lib.hid (HLL.out i (by omega))
         have HLS := Lib.hid (HSL.out g.nodes[i]!.id)
         clear hcn
         generalize g.nodes[i]! = nd at *
         obtain ⟨y, w7, hy, hw7, a0, a1, a2, hx7⟩ := box_node wr nd.id LA PA nd.labels.length lc nd.props.length pc 54
         have HW7 := Lib.hid hw7
         have HY := Lib.hid hy
         have HST2 := Lib.hid (HST.out nd.id (fun _ => True) T e w7 (HEW.out.trans hx7) (HSS.out.ext (hE.out.trans hx7)))
         have HX7 := Lib.hid hx7
         obtain ⟨g0, g1, g2, g3⟩ := MKG.out _ (HEW.out.trans hx7)
         obtain ⟨L, hL⟩ : ∃ L, L = (stepsL g (typsOf typ) dir nd.id).map (adjOf nd.id) := ⟨_, rfl⟩
         have hLl : (stepsL g (typsOf typ) dir nd.id).length = L.length := by rw [hL, List.length_map]
         rw [← hL] at HSC HLS HST2
         rw [hLl] at HST2
         have hl8 : (rowsN g (typsOf typ) dir i).length + L.length ≤ 8388608 := by have h1 := HLN.out; have h2 := HLS.out; omega
         generalize rowsN g (typsOf typ) dir i = K at *
         clear hL hLl hw7 hy hx7
         go_upto_region 15 with (fail)
         rw [← HW7.out, ← HY.out]
         clear HW7 HY n0 n1 n2
         go_upto_region 16 with (first | (go_at_call 22; ((with_reducible refine (HST2.out).mono ?_); rintro e9 w8 ⟨A8, c8, rfl, -, hS8, hx8⟩; have HS8 := Lib.hid hS8; clear HST2 hS8)) | (at_builtin; go_loud (refine own_catG T_ka rfl (.tmp 48) (.tmp 54) rfl rfl (OwnG.ext HO.out (HX7.out.trans hx8)) (Nat.le_trans hE.out.le (Nat.le_trans HX7.out.le hx8.le)) A8 L.length c8 L rfl rfl HS8.out.noneLen HS8.out.cellsF (fun _ _ => trivial) hl8 (by decide) ?_); intro v9 w9 hO9 hg9 _; have HO9 := Lib.hid hO9; have HE9 := Lib.hid ((hE.out.trans (HX7.out.trans hx8)).grown hg9 (fun k hk => (OwnG.lt HO.out hk).1)); clear hO9 hg9))
         clear HO hE g0 g1 g2 g3 a0 a1 a2 hx8 hl8
         go_wp2_with fail
         go_roundw
         case rel => exact ⟨_, i + 1, rfl, by go_num, by omega, Lib.hid (by rw [HSC.out]; exact HO9.out), HE9⟩
         case measure => simp [intOf]; omega
        ·have hke : i = g.nodes.length := by omega
         have HOF := Lib.hid (by have h := HO.out; rw [hke, HRA.out] at h; exact h : OA wr w6.heap.size vO (rowsG g (typsOf typ) dir))
         have HGL := Lib.hid (by have h := HLL.out g.nodes.length (Nat.le_refl _); rw [HRA.out] at h; exact h : (rowsG g (typsOf typ) dir).length ≤ 1000000)
         have HEW := Lib.hid (HX5.out.trans hE.out)
         clear HO hke HLL HRS HRA HSL HST hE
         obtain ⟨A9, c9, e9, h9, hV9⟩ := OA.shares HOF.out (by have := HGL.out; omega)
         have HP9 := Lib.hid (HPK.out A9 _ c9 wr hV9 (by have := HGL.out; omega))
         subst e9
         generalize packC (rowsG g (typsOf typ) dir) = Z at *
         generalize rowsG g (typsOf typ) dir = S at *
         clear hV9 HPK HOF
         go_wp2_with (go_at_call 23; ((with_reducible refine (HP9.out).mono ?_); rintro e w7 ⟨A3, B3, C3, D3, k0, k1, k2, k3, rfl, hc7, hx7⟩; obtain ⟨r0, r1, r2, r3⟩ := HRX.out.grown ((HEW.out.trans hx7).gr none) (by simp); obtain ⟨f0, f1, f2, f3⟩ := HRZ.out.grown HRX.out ((HEW.out.trans hx7).gr none) (by simp)))
         (try simp only [Exit.inBlock, Exit.then])
         have HX7 := Lib.hid (HEW.out.trans hx7)
         obtain ⟨w8, hw8⟩ : ∃ W, W = (((w7.setCell ⟨q2, 0, none⟩ (.slice A3 Z.nodes.length k0)).setCell ⟨q2, 1, none⟩ (.slice B3 Z.first.length k1)).setCell ⟨q2, 2, none⟩ (.slice C3 Z.tos.length k2)).setCell ⟨q2, 3, none⟩ (.slice D3 Z.edges.length k3) := ⟨_, rfl⟩
         have hd := set4 (HRX.out.grown (HX7.out.gr none) (by simp)) (.slice A3 Z.nodes.length k0) (.slice B3 Z.first.length k1) (.slice C3 Z.tos.length k2) (.slice D3 Z.edges.length k3)
         rw [← hw8] at hd
         obtain ⟨e0, e1, e2, e3⟩ := hd
         have HF := Lib.hid (by rw [hw8]; exact ((((HX.out.trans HX7.out).setCell HQ.out _).setCell HQ.out _).setCell HQ.out _).setCell HQ.out _ : Ext w w8)
         have hnq : ¬ wr.heap.size ≤ q2 := fun h => HQ1.out (Nat.le_trans HEW.out.le h)
         have HCC := Lib.hid (by rw [hw8]; exact (((hc7.put hnq 0 _).put hnq 1 _).put hnq 2 _).put hnq 3 _ : ColAt w8 (fun b => wr.heap.size ≤ b) A3 B3 C3 D3 Z)
         have HLW := Lib.hid (Nat.le_trans HX.out.le HEW.out.le)
         rw [← hw8]
         clear hw8 r0 r1 r2 r3 f0 f1 f2 f3 hc7 hx7 hnq h9
         refine bodyPost_ret (v := .tuple #[.agg #[.slice A3 Z.nodes.length k0, .slice B3 Z.first.length k1, .slice C3 Z.tos.length k2, .slice D3 Z.edges.length k3], .int .i64 0]) (by simp [results, Tryz.results6, go_sem, *]) rfl ?_
         rw [HRR.out]
         first | exact ⟨A3, B3, C3, D3, k0, k1, k2, k3, rfl, HCC.out.to (fun b hb => Nat.le_trans HLW.out hb), HF.out⟩ | exact ⟨A3, B3, C3, D3, ⟨k0, k1, k2, k3, rfl⟩, HCC.out.to (fun b hb => Nat.le_trans HLW.out hb), HF.out⟩
     ·have HNO := Lib.hid (HB2.out HD0.out HBN.out.symm)
      clear HNM t1 HTE g0 g1 g2 g3
      go_upto_region 7 with (fail)
      obtain ⟨r0, r1, r2, r3⟩ := HRX.out.grown (HX3.out.gr none) (by simp)
      obtain ⟨f0, f1, f2, f3⟩ := HRZ.out.grown HRX.out (HX3.out.gr none) (by simp)
      obtain ⟨w8, hw8⟩ : ∃ W, W = (((w5.setCell ⟨q2, 0, none⟩ (.slice none 0 0)).setCell ⟨q2, 1, none⟩ (.slice none 0 0)).setCell ⟨q2, 2, none⟩ (.slice none 0 0)).setCell ⟨q2, 3, none⟩ (.slice none 0 0) := ⟨_, rfl⟩
      have hd := set4 (HRX.out.grown (HX3.out.gr none) (by simp)) (.slice none 0 0) (.slice none 0 0) (.slice none 0 0) (.slice none 0 0)
      rw [← hw8] at hd
      obtain ⟨e0, e1, e2, e3⟩ := hd
      have HF := Lib.hid (by rw [hw8]; exact ((((HX.out.trans HX3.out).setCell HQ.out _).setCell HQ.out _).setCell HQ.out _).setCell HQ.out _ : Ext w w8)
      go_wp2_with fail
      (try simp only [Exit.inBlock, Exit.then])
      rw [← hw8]
      clear hw8 r0 r1 r2 r3 f0 f1 f2 f3
      refine bodyPost_ret (v := .tuple #[.agg #[.slice none 0 0, .slice none 0 0, .slice none 0 0, .slice none 0 0], .int .i64 6]) (by simp [results, Tryz.results6, go_sem, *]) rfl ?_
      rw [HNO.out]
      first | exact ⟨none, none, none, none, 0, 0, 0, 0, rfl, ColAt.none _ _, by first | exact HF.out | exact X1 HF.out⟩ | exact ⟨none, none, none, none, ⟨0, 0, 0, 0, rfl⟩, ColAt.none _ _, by first | exact HF.out | exact X1 HF.out⟩
   ·have HNO := Lib.hid (HB1.out HBD.out.symm)
    clear g0 g1 g2 g3
    go_upto_region 5 with (fail)
    obtain ⟨r0, r1, r2, r3⟩ := HRX.out.grown (HX3.out.gr none) (by simp)
    obtain ⟨f0, f1, f2, f3⟩ := HRZ.out.grown HRX.out (HX3.out.gr none) (by simp)
    obtain ⟨w8, hw8⟩ : ∃ W, W = (((w4.setCell ⟨q2, 0, none⟩ (.slice none 0 0)).setCell ⟨q2, 1, none⟩ (.slice none 0 0)).setCell ⟨q2, 2, none⟩ (.slice none 0 0)).setCell ⟨q2, 3, none⟩ (.slice none 0 0) := ⟨_, rfl⟩
    have hd := set4 (HRX.out.grown (HX3.out.gr none) (by simp)) (.slice none 0 0) (.slice none 0 0) (.slice none 0 0) (.slice none 0 0)
    rw [← hw8] at hd
    obtain ⟨e0, e1, e2, e3⟩ := hd
    have HF := Lib.hid (by rw [hw8]; exact ((((HX.out.trans HX3.out).setCell HQ.out _).setCell HQ.out _).setCell HQ.out _).setCell HQ.out _ : Ext w w8)
    go_wp2_with fail
    (try simp only [Exit.inBlock, Exit.then])
    rw [← hw8]
    clear hw8 r0 r1 r2 r3 f0 f1 f2 f3
    refine bodyPost_ret (v := .tuple #[.agg #[.slice none 0 0, .slice none 0 0, .slice none 0 0, .slice none 0 0], .int .i64 1]) (by simp [results, Tryz.results6, go_sem, *]) rfl ?_
    rw [HNO.out]
    first | exact ⟨none, none, none, none, 0, 0, 0, 0, rfl, ColAt.none _ _, by first | exact HF.out | exact X1 HF.out⟩ | exact ⟨none, none, none, none, ⟨0, 0, 0, 0, rfl⟩, ColAt.none _ _, by first | exact HF.out | exact X1 HF.out⟩
 ·have HNO := Lib.hid (HB0.out hc0)
  have g : (ec != 0) = true := by rw [bne_iff_ne]; exact hc0
  have gx : (ec == 0) = false := beq_eq_false_iff_ne.2 hc0
  go_upto_region 3 with (go_at_call 20; ((with_reducible refine (HCK.out).mono ?_); rintro e w3 ⟨rfl, hx3⟩; obtain ⟨g0, g1, g2, g3⟩ := MKG.out _ hx3; clear HCK))
  clear g0 g1 g2 g3
  obtain ⟨r0, r1, r2, r3⟩ := HRX.out.grown (hx3.gr none) (by simp)
  obtain ⟨f0, f1, f2, f3⟩ := HRZ.out.grown HRX.out (hx3.gr none) (by simp)
  obtain ⟨w8, hw8⟩ : ∃ W, W = (((w3.setCell ⟨q2, 0, none⟩ (.slice none 0 0)).setCell ⟨q2, 1, none⟩ (.slice none 0 0)).setCell ⟨q2, 2, none⟩ (.slice none 0 0)).setCell ⟨q2, 3, none⟩ (.slice none 0 0) := ⟨_, rfl⟩
  have hd := set4 (HRX.out.grown (hx3.gr none) (by simp)) (.slice none 0 0) (.slice none 0 0) (.slice none 0 0) (.slice none 0 0)
  rw [← hw8] at hd
  obtain ⟨e0, e1, e2, e3⟩ := hd
  have HF := Lib.hid (by rw [hw8]; exact ((((HX.out.trans hx3).setCell HQ.out _).setCell HQ.out _).setCell HQ.out _).setCell HQ.out _ : Ext w w8)
  go_wp2_with fail
  (try simp only [Exit.inBlock, Exit.then])
  rw [← hw8]
  clear hw8 r0 r1 r2 r3 f0 f1 f2 f3
  refine bodyPost_ret (v := .tuple #[.agg #[.slice none 0 0, .slice none 0 0, .slice none 0 0, .slice none 0 0], .int .i64 ec]) (by simp [results, Tryz.results6, go_sem, *]) rfl ?_
  rw [HNO.out]
  first | exact ⟨none, none, none, none, 0, 0, 0, 0, rfl, ColAt.none _ _, by first | exact HF.out | exact X1 HF.out⟩ | exact ⟨none, none, none, none, ⟨0, 0, 0, 0, rfl⟩, ColAt.none _ _, by first | exact HF.out | exact X1 HF.out⟩
end Go.Proofs.YtnheioehadldmaaGreat

/- THE WALK over column.Entries. -/
namespace Go.Proofs.YtnheioehadldmaaGreat
open Go.RowKit
set_option maxRecDepth 100000 in
theorem co_Entries (c : Col) (ok : Nat → Prop) (A B Cx D : Option Addr) (k0 k1 k2 k3 : Nat) (w : World) (hv : ColAt w ok A B Cx D c) (hm : c.tos.length ≤ 8000000) :
  Calls Tryz.prog 19 #[agC c A B Cx D k0 k1 k2 k3] w fun e w' => ∃ A' c', e = .returned (.slice A' (entR c).length c') ∧ (entR c).length ≤ c' ∧ Shares w' (fun b => w.heap.size ≤ b) A' (entR c) ∧ Ext w w' := by
 obtain ⟨q, w1, hq, hw1, ⟨a0, a1, a2, a3⟩, hx⟩ := box_col w c A B Cx D k0 k1 k2 k3 29
 have HW := Lib.hid hw1
 have HQ := Lib.hid hq
 have HX := Lib.hid hx
 have HVA := Lib.hid (co_Valid c ok A B Cx D k0 k1 k2 k3 w1 (hv.ext hx) hm)
 have HFT := Lib.hid (fun (hs : shapeP c) W (e : Ext w1 W) => co_unpack c ok A B Cx D k0 k1 k2 k3 W ((hv.ext hx).ext e) hs hm)
 have HE1 := Lib.hid (fun (h : colB c = true) => (by unfold entR; rw [if_pos h] : entR c = flatC c))
 have HE0 := Lib.hid (fun (h : colB c = false) => (by unfold entR; rw [if_neg (by rw [h]; exact Bool.false_ne_true)] : entR c = []))
 have HSP := Lib.hid (fun (h : colB c = true) => valid_shape (colB_iff.1 h))
 obtain ⟨R, hR⟩ : ∃ R, R = entR c := ⟨_, rfl⟩
 rw [← hR] at HE1 HE0 ⊢
 clear hw1 hq hv hx hR
 unfold agC at HVA HFT ⊢
 go_enter Tryz.func19, Tryz.ntmps19
 go_upto_region 1 with (fail)
 rw [← HW.out, ← HQ.out]
 clear HW HQ
 cases hb : colB c
 ·rw [hb] at HVA
  have e := HE0.out hb
  subst e
  clear hb HE0 HE1 HSP HFT
  go_wp2_with (go_at_call 15; ((with_reducible refine (HVA.out).mono ?_); rintro e w2 ⟨rfl, hx2⟩))
  go_ret
  exact ⟨none, 0, rfl, Nat.le_refl _, SliceR.nil _ _ _, HX.out.trans hx2⟩
 ·rw [hb] at HVA
  have e := HE1.out hb
  have HF2 := Lib.hid (HFT.out (HSP.out hb))
  rw [← e] at HF2
  clear hb e HE0 HE1 HSP HFT
  go_wp2_with (first | (go_at_call 15; ((with_reducible refine (HVA.out).mono ?_); rintro e w2 ⟨rfl, hx2⟩; replace a0 := hx2.cell a0; replace a1 := hx2.cell a1; replace a2 := hx2.cell a2; replace a3 := hx2.cell a3)) | (go_at_call 44; ((with_reducible refine (HF2.out _ hx2).mono ?_); rintro e w3 ⟨A3, c3, rfl, hc3, hV3, hx3⟩)))
  go_ret
  have hle := Nat.le_trans HX.out.le hx2.le
  exact ⟨A3, c3, rfl, hc3, SliceR.mono hV3 (fun _ _ _ _ hx => ⟨Nat.le_trans hle hx.1, hx.2⟩), HX.out.trans (hx2.trans hx3)⟩
end Go.Proofs.YtnheioehadldmaaGreat

/- ROWS OF BYTES that a call owns; the walk over codec.varint. -/
namespace Go.Proofs.YtnheioehadldmaaGreat
open Go.RowKit
def KB : KindG Nat := ⟨fun x => [.int .u8 (x : Int)], 1, fun _ _ _ => True, fun _ => rfl, fun _ u hu => by rw [List.mem_singleton.1 hu]; rfl, fun _ _ _ _ _ _ _ => trivial⟩
theorem T_kb : ElT Tryz.prog 35 5 KB.size 1 := ⟨Tryz.underlying35, ⟨.int .u8 0, by kernel_rfl, rfl⟩, by decide⟩
abbrev OB (W : World) (base : Nat) (v : Value) (l : List Nat) : Prop := OwnG KB 5 W base (fun _ => False) v l
theorem OB.byts {W : World} {base : Nat} {v : Value} {l : List Nat} (h : OB W base v l) (hm : l.length ≤ 140737488355328) : ∃ A c, v = .slice A l.length c ∧ l.length ≤ c ∧ Byts W (fun b => base ≤ b) A l := by
 obtain ⟨A, c, h1, h2, h3⟩ := OwnG.slice (R := ByteC W (fun b => base ≤ b)) (fun x : Nat => x) h hm (fun g o x hg hc _ => ⟨hg, hc 0 _ rfl⟩)
 exact ⟨A, c, h1, h2, by rw [List.map_id'] at h3; exact h3⟩
theorem or128F : ∀ m : Fin 256, bits .or .u8 ((m.val : Nat) : Int) 128 = ((m.val % 128 + 128 : Nat) : Int) := by decide +kernel
theorem or128 (n : Nat) : bits .or .u8 ((n : Int) % 256) 128 = ((n % 128 + 128 : Nat) : Int) := by
 have h := or128F ⟨n % 256, Nat.mod_lt _ (by decide)⟩
 have e : ((n % 256 : Nat) : Int) = (n : Int) % 256 := by omega
 rw [← e, h, show n % 256 % 128 = n % 128 by omega]
set_option maxRecDepth 100000 in
set_option maxHeartbeats 1600000 in
theorem co_varint (u : Nat) (hu : u < 18446744073709551616) (w : World) :
  Calls Tryz.prog 66 #[.slice none 0 0, .int .u64 (u : Int)] w fun e w' => ∃ v, e = .returned v ∧ OB w' w.heap.size v (vi u) ∧ Ext w w' := by
 have HL := Lib.hid (vi_len10 hu)
 obtain ⟨R, hR⟩ : ∃ R, R = vi u := ⟨_, rfl⟩
 rw [← hR] at HL ⊢
 have HR := Lib.hid hR
 clear hR
 go_enter Tryz.func66, Tryz.ntmps66
 go_wp2_with fail
 go_loopw [0, 1] (fun v0 u1 W => ∃ (vO : Value) (n : Nat) (acc : List Nat), vO = v0 ∧ u1 = .int .u64 (n : Int) ∧ n < 18446744073709551616 ∧ Hid (OB W w.heap.size vO acc) ∧ Hid (acc ++ vi n = R) ∧ Hid (Ext w W)) (fun _ u1 _ => (intOf u1).toNat)
 case atStart => exact ⟨_, u, [], rfl, rfl, hu, Lib.hid (OwnG.nil _ _ _ _ _), Lib.hid HR.out.symm, Lib.hid (Ext.refl _)⟩
 case round =>
  obtain ⟨vO, n, acc, rfl, rfl, hn, HO, HM, hE⟩ := hrel
  have hm8 : acc.length + 1 ≤ 8388608 := by have h1 := congrArg List.length HM.out; rw [List.length_append] at h1; have h2 := HL.out; have h3 := List.length_pos_iff.2 (vi_ne n); omega
  by_cases hge : 128 ≤ n
  ·have HM2 := Lib.hid (by have h := HM.out; rw [vi_big hge] at h; rw [List.append_assoc]; exact h : (acc ++ [n % 128 + 128]) ++ vi (n / 128) = R)
   clear HM
   go_upto_region 3 with (at_builtin; go_loud (refine own_pushG (v := vO) (hs := acc) T_kb rfl (.tmp 7) (.tmp 11) rfl wr rfl HO.out hE.out.le (n % 128 + 128 : Nat) trivial (by rw [or128]; rfl) _ rfl rfl hm8 (by decide) ?_); intro v6 w6 hO6 hg6 hd6)
   have hE6 : Ext w w6 := hE.out.grown hg6 (fun b e => (OwnG.lt HO.out e).1)
   have HO6 := Lib.hid hO6
   have HE6 := Lib.hid hE6
   clear hO6 hg6 hd6 hE6
   go_wp2_with fail
   go_roundw
   case rel => exact ⟨_, n / 128, _, rfl, by go_num, by omega, HO6, HM2, HE6⟩
   case measure => simp [intOf]; omega
  ·have HM2 := Lib.hid (by have h := HM.out; rw [vi_small (by omega)] at h; exact h : acc ++ [n] = R)
   clear HM
   go_wp2_with (at_builtin; go_loud (refine own_pushG (v := vO) (hs := acc) T_kb rfl (.tmp 15) (.tmp 18) rfl wr rfl HO.out hE.out.le (n : Nat) trivial rfl _ rfl rfl hm8 (by decide) ?_); intro v6 w6 hO6 hg6 hd6)
   rw [HM2.out] at hO6
   have hE6 : Ext w w6 := hE.out.grown hg6 (fun b e => (OwnG.lt HO.out e).1)
   go_ret
   exact ⟨v6, rfl, hO6, hE6⟩
end Go.Proofs.YtnheioehadldmaaGreat

/- THE WALKS over codec.PutUint and codec.PutInt. -/
namespace Go.Proofs.YtnheioehadldmaaGreat
open Go.RowKit
set_option maxRecDepth 100000 in
theorem co_PutUint (m : Nat) (hm : m ≤ 9223372036854775807) (w : World) :
  Calls Tryz.prog 35 #[.int .i64 (m : Int)] w fun e w' => ∃ v, e = .returned v ∧ OB w' w.heap.size v (vi m) ∧ Ext w w' := by
 have HV := Lib.hid (co_varint m (by omega) w)
 have w1 : IntKind.u64.wrap (m : Int) = (m : Int) := by rw [IntKind.wrap_u64]; omega
 have w2 : (m : Int) % 18446744073709551616 = (m : Int) := by omega
 have g : decide ((m : Int) < 0) = false := decide_eq_false (by omega)
 go_enter Tryz.func35, Tryz.ntmps35
 go_wp2_with (go_at_call 66; ((with_reducible refine (HV.out).mono ?_); rintro e w2 ⟨v, rfl, hO, hx⟩))
 go_ret
 exact ⟨v, rfl, hO, hx⟩
theorem xor_all {x : Nat} (h : x < 2 ^ 64) : (2 ^ 64 - 1) ^^^ x = 2 ^ 64 - (x + 1) := by
 apply Nat.eq_of_testBit_eq
 intro i
 rw [Nat.testBit_xor, Nat.testBit_two_pow_sub_one, Nat.testBit_two_pow_sub_succ h]
 by_cases hi : i < 64
 ·rw [decide_eq_true hi]; simp
 ·rw [decide_eq_false hi, Nat.testBit_lt_two_pow (Nat.lt_of_lt_of_le h (Nat.pow_le_pow_right (by decide) (by omega)))]; rfl
set_option maxRecDepth 100000 in
theorem co_PutInt (n : Int) (hn : -9223372036854775808 ≤ n ∧ n ≤ 9223372036854775807) (w : World) :
  Calls Tryz.prog 36 #[.int .i64 n] w fun e w' => ∃ v, e = .returned v ∧ OB w' w.heap.size v (vi (zig n)) ∧ Ext w w' := by
 have HV := Lib.hid (co_varint (zig n) (zig_lt hn) w)
 go_enter Tryz.func36, Tryz.ntmps36
 by_cases h : n < 0
 ·have e1 : IntKind.u64.wrap (IntKind.u64.wrap n * 2) = ((18446744073709551616 - (-2 * n).toNat : Nat) : Int) := by rw [IntKind.wrap_u64, IntKind.wrap_u64]; omega
  have e2 : bits BinOp.xor IntKind.u64 (if IntKind.u64.signed = true then -1 else IntKind.u64.max) (IntKind.u64.wrap (IntKind.u64.wrap n * 2)) = ((zig n : Nat) : Int) := by
   rw [e1, show (if IntKind.u64.signed = true then -1 else IntKind.u64.max) = (18446744073709551615 : Int) by decide, u64_xor _ _ (by decide) (by decide) (by omega) (by omega)]
   have h1 := xor_all (x := 18446744073709551616 - (-2 * n).toNat) (by omega)
   rw [show (18446744073709551615 : Int).toNat = 2 ^ 64 - 1 by decide, Int.toNat_natCast, h1]
   unfold zig
   rw [if_pos h]
   omega
  have E2 := Lib.hid e2
  clear e1 e2
  go_upto_region 4 with (fail)
  rw [E2.out]
  clear E2
  go_wp2_with (go_at_call 66; ((with_reducible refine (HV.out).mono ?_); rintro e w2 ⟨v, rfl, hO, hx⟩))
  go_ret
  exact ⟨v, rfl, hO, hx⟩
 ·have e1 : ((zig n : Nat) : Int) = n * 2 := by unfold zig; rw [if_neg h]; omega
  rw [e1] at HV
  go_wp2_with (go_at_call 66; ((with_reducible refine (HV.out).mono ?_); rintro e w2 ⟨v, rfl, hO, hx⟩))
  go_ret
  exact ⟨v, rfl, hO, hx⟩
end Go.Proofs.YtnheioehadldmaaGreat

/- THE WALK over codec.read. -/
namespace Go.Proofs.YtnheioehadldmaaGreat
open Go.RowKit
/-- what is read behind some bytes -/
def mapR (a m : Nat) : Except Int (Nat × List Nat) → Except Int (Nat × List Nat)
 | .ok (u, r) => .ok (a + m * u, r)
 | .error e => .error e
theorem rd_start (L : List Nat) : rdF 10 L = mapR 0 1 (rdF 10 L) := by
 cases rdF 10 L with
 | error e => rfl
 | ok p => show Except.ok p = Except.ok (0 + 1 * p.1, p.2); rw [Nat.zero_add, Nat.one_mul]
theorem rd_more {X : Except Int (Nat × List Nat)} {f a m c : Nat} {t : List Nat} (h : X = mapR a m (rdF (f + 1) (c :: t))) (hc : 128 ≤ c) : X = mapR (a + m * (c % 128)) (m * 128) (rdF f t) := by
 rw [h, rdF, if_pos hc]
 cases rdF f t with
 | error e => rfl
 | ok p =>
  show Except.ok (a + m * (c % 128 + 128 * p.1), p.2) = Except.ok (a + m * (c % 128) + m * 128 * p.1, p.2)
  rw [Nat.mul_add, Nat.add_assoc, Nat.mul_assoc]
theorem rd_many {X : Except Int (Nat × List Nat)} {a m : Nat} {t : List Nat} (h : X = mapR a m (rdF 0 t)) : X = .error 4 := by rw [h, rdF]; rfl
theorem rd_short {X : Except Int (Nat × List Nat)} {a m f : Nat} (h : X = mapR a m (rdF (f + 1) [])) : X = .error 3 := by rw [h, rdF]; rfl
theorem rd_long {X : Except Int (Nat × List Nat)} {a m c : Nat} {t : List Nat} (h : X = mapR a m (rdF 1 (c :: t))) (h1 : 1 < c) (h2 : c < 128) : X = .error 4 := by rw [h, rdF, if_neg (by omega), if_pos ⟨rfl, h1⟩]; rfl
theorem rd_zero {X : Except Int (Nat × List Nat)} {a m f : Nat} {t : List Nat} (h : X = mapR a m (rdF (f + 1) (0 :: t))) (hf : f < 9) : X = .error 2 := by rw [h, rdF, if_neg (by omega), if_neg (by omega), if_pos ⟨hf, rfl⟩]; rfl
theorem rd_ok {X : Except Int (Nat × List Nat)} {a m f c : Nat} {t : List Nat} (h : X = mapR a m (rdF (f + 1) (c :: t))) (h0 : c < 128) (h1 : ¬ (f = 0 ∧ 1 < c)) (h2 : ¬ (f < 9 ∧ c = 0)) : X = .ok (a + m * c, t) := by rw [h, rdF, if_neg (by omega), if_neg h1, if_neg h2]; rfl
/-- what codec.read gives -/
def readOut (N : Nat) (X : Except Int (Nat × List Nat)) (x y z : Int) : Prop := match X with
 | .ok (u, r) => x = (u : Int) ∧ y = (N : Int) - r.length ∧ z = 0
 | .error er => x ≤ 9223372036854775807 ∧ y = 0 ∧ z = er
theorem and127F : ∀ m : Fin 256, bits .and .u8 ((m.val : Nat) : Int) 127 = ((m.val % 128 : Nat) : Int) := by decide +kernel
theorem and127 {n : Nat} (h : n < 256) : bits .and .u8 (n : Int) 127 = ((n % 128 : Nat) : Int) := and127F ⟨n, h⟩
theorem or_part {a k d : Nat} (ha : a < 128 ^ k) (ha2 : a < 18446744073709551616) (hd : 128 ^ k * d < 18446744073709551616) : bits .or .u64 (a : Int) ((128 ^ k * d : Nat) : Int) = ((a + 128 ^ k * d : Nat) : Int) := by
 rw [u64_or_nat _ _ ha2 hd, Nat.or_comm, nat_join (7 * k) _ _ (by rw [Nat.pow_mul, show (2 : Nat) ^ 7 = 128 from rfl, Nat.mul_mod_right]) (by rw [Nat.pow_mul]; exact ha), Nat.add_comm]
theorem or_next {k a y : Nat} {n n' : Int} (hk : k ≤ 9) (h1 : n = (a : Int)) (h2 : a < 128 ^ k) (hn : n' = bits BinOp.or IntKind.u64 n (IntKind.u64.wrap ((y : Int) % 128 * 2 ^ (7 * k)))) (h : k ≤ 8 ∨ y % 128 ≤ 1) : n' = ((a + 128 ^ k * (y % 128) : Nat) : Int) ∧ a + 128 ^ k * (y % 128) < 128 ^ (k + 1) ∧ a + 128 ^ k * (y % 128) < 18446744073709551616 := by
 have hd : y % 128 < 128 := Nat.mod_lt _ (by decide)
 have h9 : 128 ^ k ≤ 128 ^ 9 := Nat.pow_le_pow_right (by decide) hk
 have hb : 128 ^ k * (y % 128) + 128 ^ k ≤ 18446744073709551616 := by
  rcases h with h | h
  ·have h8 : 128 ^ k ≤ 128 ^ 8 := Nat.pow_le_pow_right (by decide) h
   rw [← Nat.mul_succ]
   exact Nat.le_trans (Nat.mul_le_mul h8 (show y % 128 + 1 ≤ 128 by omega)) (by decide)
  ·rw [← Nat.mul_succ]
   exact Nat.le_trans (Nat.mul_le_mul h9 (show y % 128 + 1 ≤ 2 by omega)) (by decide)
 have e : ((y : Int) % 128 * 2 ^ (7 * k)) = ((128 ^ k * (y % 128) : Nat) : Int) := by
  rw [Int.natCast_mul, Int.mul_comm, Int.pow_mul]
  push_cast
  rfl
 have hw : IntKind.u64.wrap ((128 ^ k * (y % 128) : Nat) : Int) = ((128 ^ k * (y % 128) : Nat) : Int) := by rw [IntKind.wrap_u64]; omega
 refine ⟨?_, ?_, by omega⟩
 ·rw [hn, h1, e, hw, or_part h2 (by omega) (by omega)]
 ·rw [Nat.pow_succ]
  have : 128 ^ k * (y % 128) + 128 ^ k ≤ 128 ^ k * 128 := by rw [← Nat.mul_succ]; exact Nat.mul_le_mul_left _ (by omega)
  omega
theorem SliceR.behind {α : Type} {R : Nat → Nat → α → Prop} {A : Option Addr} {l : List α} (h : SliceR R 1 A l) (n : Nat) : SliceR R 1 (if l.length = n then A else A.map (fun x => x.add n)) (l.drop n) := by
 rcases Nat.lt_or_ge n l.length with h1 | h1
 ·obtain ⟨b, o, rfl, -⟩ := h.2 (by omega)
  rw [if_neg (by omega)]
  have := SliceR.drop h n
  rw [Nat.mul_one] at this
  show SliceR R 1 (some (Addr.add ⟨b, o, none⟩ n)) _
  rw [Addr.add_mid]
  exact this
 ·rw [List.drop_eq_nil_of_le (by omega)]
  exact SliceR.nil _ _ _
set_option maxRecDepth 100000 in
set_option maxHeartbeats 1600000 in
theorem co_read (l : List Nat) (ok : Nat → Prop) (A : Option Addr) (c at_ : Nat) (w : World) (hv : Byts w ok A l) (hb : ∀ x ∈ l, x < 256) (hc : l.length ≤ c) (ha : at_ ≤ l.length) :
  Calls Tryz.prog 83 #[.slice A l.length c, .int .i64 (at_ : Int)] w fun e w' => ∃ x y z : Int, e = .returned (.tuple #[.int .u64 x, .int .i64 y, .int .i64 z]) ∧ readOut l.length (rdF 10 (l.drop at_)) x y z ∧ Ext w w' := by
 have hlm := hv.1
 have hL := SliceR.behind hv at_
 have HBB := Lib.hid (fun x (hx : x ∈ l.drop at_) => hb x (List.mem_of_mem_drop hx))
 obtain ⟨L, hLd⟩ : ∃ L, L = l.drop at_ := ⟨_, rfl⟩
 have hLn : L.length = l.length - at_ := by rw [hLd, List.length_drop]
 rw [← hLd] at hL HBB ⊢
 generalize hN : l.length = N at *
 have g0 : decide ((at_ : Int) < 0) = false := decide_eq_false (by omega)
 have g1 : decide ((N : Int) < (at_ : Int)) = false := decide_eq_false (by omega)
 have g2 : decide (N < at_) = false := decide_eq_false (by omega)
 clear hv hb hLd hN
 obtain ⟨X, hX⟩ : ∃ X, X = rdF 10 L := ⟨_, rfl⟩
 rw [← hX]
 have HST := Lib.hid (hX.trans (rd_start L))
 clear hX
 go_enter Tryz.func83, Tryz.ntmps83
 go_upto_region 4 with (fail)
 generalize (if N = at_ then A else Option.map (fun x => x.add at_) A) = B at *
 rw [← hLn]
 have HLN := Lib.hid hLn
 have hLm : L.length ≤ N := by omega
 have HHL := Lib.hid hL
 clear hLn g0 g1 g2
 obtain ⟨M, hM⟩ : ∃ M, M = min 10 L.length := ⟨_, rfl⟩
 have HM := Lib.hid hM
 go_upto_if 28 with (fail)
 go_cut [7] from 8 to 72 (fun v7 wx => ∃ k7 : Nat, v7 = .slice B M k7 ∧ M ≤ k7 ∧ Hid (Ext w wx))
 case first =>
  by_cases hbig : 10 < L.length
  ·obtain ⟨b, o, rfl, -⟩ := hL.2 (by omega)
   obtain rfl : M = 10 := by omega
   have g : decide ((10 : Int) < (L.length : Int)) = true := decide_eq_true (by omega)
   have g' : decide (10 < L.length) = true := decide_eq_true (by omega)
   clear hM
   go_wp2_with fail
   go_meet
   case rel => exact ⟨10, rfl, Nat.le_refl _, Lib.hid (by solve_by_elim [X0, X1, X2, X3])⟩
  ·obtain rfl : M = L.length := by omega
   have g : decide ((10 : Int) < (L.length : Int)) = false := decide_eq_false (by omega)
   have g' : decide (10 < L.length) = false := decide_eq_false (by omega)
   clear hM
   go_wp2_with fail
   go_meet
   case rel => exact ⟨_, rfl, Nat.le_refl _, Lib.hid (by solve_by_elim [X0, X1, X2, X3])⟩
 case rest =>
  obtain ⟨k7, rfl, hk7, hE0⟩ := hcut
  clear hL hM
  go_wp2_with fail
  go_loopw [8, 33] (fun u8 u33 W => ∃ (k : Nat) (n : Int) (a : Nat), u33 = .int .i64 (k : Int) ∧ u8 = .int .u64 n ∧ k ≤ M ∧ Hid (k < 10 → n = (a : Int) ∧ a < 128 ^ k) ∧ Hid (X = mapR a (128 ^ k) (rdF (10 - k) (L.drop k))) ∧ Hid (Ext w W)) (fun _ u33 _ => M - (intOf u33).toNat)
  case atStart => exact ⟨0, 0, 0, rfl, rfl, Nat.zero_le _, Lib.hid (fun _ => ⟨rfl, by decide⟩), Lib.hid HST.out, hE0⟩
  case round =>
   clear hE0
   obtain ⟨k, n, a, rfl, rfl, hk, HN, HR, hE⟩ := hrel
   by_cases hlt : k < M
   ·have hm := HM.out
    have hkl : k < L.length := by omega
    obtain ⟨b, o, rfl, hc⟩ := HHL.out.2 (by omega)
    have d0 := hE.out.cell (hc k hkl).2
    have HRR := Lib.hid (by have h := HR.out; rw [List.drop_eq_getElem_cons hkl, show 10 - k = 9 - k + 1 by omega] at h; exact h : X = mapR a (128 ^ k) (rdF (9 - k + 1) (L[k] :: L.drop (k + 1))))
    have hcb := HBB.out L[k] (List.getElem_mem hkl)
    rw [Nat.mul_one] at d0
    generalize L[k] = y at *
    have HWB := Lib.hid hcb
    have hk9 : k ≤ 9 := by omega
    have hA := and127 hcb
    have hWA : IntKind.u64.wrap ((y % 128 : Nat) : Int) = ((y % 128 : Nat) : Int) := by rw [IntKind.wrap_u64]; omega
    clear hcb hm hc HR
    go_upto_region 11 with (fail)
    obtain ⟨n', hn'⟩ : ∃ n', n' = bits BinOp.or IntKind.u64 n (IntKind.u64.wrap ((y : Int) % 128 * 2 ^ (7 * k))) := ⟨_, rfl⟩
    have hAA := Lib.hid (HN.out (by omega)).2
    have HN2 := Lib.hid (or_next hk9 (HN.out (by omega)).1 (HN.out (by omega)).2 hn')
    rw [← hn']
    clear hn' HN hA hWA d0
    by_cases hy : 128 ≤ y
    ·have HR2 := Lib.hid (rd_more HRR.out hy)
     rw [← Nat.pow_succ, show 9 - k = 10 - (k + 1) by omega] at HR2
     have HN3 := Lib.hid (fun (h : k + 1 < 10) => (⟨(HN2.out (.inl (by omega))).1, (HN2.out (.inl (by omega))).2.1⟩ : n' = ((a + 128 ^ k * (y % 128) : Nat) : Int) ∧ a + 128 ^ k * (y % 128) < 128 ^ (k + 1)))
     have g : decide ((128 : Int) ≤ (y : Int)) = true := decide_eq_true (by omega)
     have g' : decide (128 ≤ y) = true := decide_eq_true hy
     clear hy HRR HN2
     go_wp2_with fail
     go_roundw
     case rel => exact ⟨k + 1, n', _, by go_num, rfl, by omega, HN3, HR2, hE⟩
     case measure => simp [intOf]; omega
    ·have g : decide ((128 : Int) ≤ (y : Int)) = false := decide_eq_false (by omega)
     have g' : decide (128 ≤ y) = false := decide_eq_false hy
     have HY := Lib.hid (show y < 128 by omega)
     have HNN := Lib.hid (show y % 128 = y by omega)
     rw [HNN.out] at HN2
     clear hy
     have g1 : ((k : Int) == 9) = (k == 9) := by rw [Bool.eq_iff_iff]; simp; omega
     have g2 : decide ((k : Int) = 9) = (k == 9) := by rw [Bool.eq_iff_iff]; simp; omega
     have g3 : decide (k = 9) = (k == 9) := by rw [Bool.eq_iff_iff]; simp
     have g4 : decide ((1 : Int) < (y : Int)) = decide (1 < y) := by rw [Bool.eq_iff_iff]; simp; omega
     have g5 : ((y : Int) == 0) = (y == 0) := by rw [Bool.eq_iff_iff]; simp
     have g6 : decide ((y : Int) = 0) = (y == 0) := by rw [Bool.eq_iff_iff]; simp
     have g7 : decide (y = 0) = (y == 0) := by rw [Bool.eq_iff_iff]; simp
     have g8 : decide ((0 : Int) < (k : Int)) = decide (0 < k) := by rw [Bool.eq_iff_iff]; simp
     have HA := Lib.hid hAA.out
     rcases (show (k = 9 ∧ 1 < y) ∨ (k = 9 ∧ y = 0) ∨ (k = 9 ∧ y = 1) ∨ (k < 9 ∧ 0 < k ∧ y = 0) ∨ (k < 9 ∧ k = 0 ∧ y ≤ 1) ∨ (k < 9 ∧ k = 0 ∧ 1 < y) ∨ (k < 9 ∧ 0 < k ∧ y = 1) ∨ (k < 9 ∧ 0 < k ∧ 1 < y) by omega) with hy | hy | hy | hy | hy | hy | hy | hy
     ·have e9 : (k == 9) = true := by rw [beq_iff_eq]; omega
      have e1 : decide (1 < y) = true := decide_eq_true (by omega)
      have e0 : (y == 0) = false := by rw [beq_eq_false_iff_ne]; omega
      have ek : decide (0 < k) = true := decide_eq_true (by omega)
      have HT := Lib.hid (by have h := HRR.out; rw [show 9 - k + 1 = 1 by omega] at h; exact rd_long h (by omega) HY.out : X = .error 4)
      skip
      clear HRR HN2 hy
      go_wp2_with fail
      go_ret3
      exact ⟨_, _, _, rfl, by rw [HT.out]; exact ⟨by decide, rfl, rfl⟩, hE.out⟩
     ·have e9 : (k == 9) = true := by rw [beq_iff_eq]; omega
      have e1 : decide (1 < y) = false := decide_eq_false (by omega)
      have e0 : (y == 0) = true := by rw [beq_iff_eq]; omega
      have ek : decide (0 < k) = true := decide_eq_true (by omega)
      have HT := Lib.hid (by have h := HRR.out; rw [show y = 0 by omega] at h; exact rd_zero h (by omega) : X = .error 2)
      have HV := Lib.hid (HN2.out (by omega))
      have HV0 := Lib.hid (by rw [HV.out.1, show y = 0 by omega, Nat.mul_zero, Nat.add_zero]; have := Nat.lt_of_lt_of_le HA.out (Nat.pow_le_pow_right (by decide) hk9 : 128 ^ k ≤ 128 ^ 9); omega : n' ≤ 9223372036854775807)
      clear HRR HN2 hy
      go_wp2_with fail
      go_ret3
      exact ⟨_, _, _, rfl, by rw [HT.out]; exact ⟨HV0.out, rfl, rfl⟩, hE.out⟩
     ·have e9 : (k == 9) = true := by rw [beq_iff_eq]; omega
      have e1 : decide (1 < y) = false := decide_eq_false (by omega)
      have e0 : (y == 0) = false := by rw [beq_eq_false_iff_ne]; omega
      have ek : decide (0 < k) = true := decide_eq_true (by omega)
      have HT := Lib.hid (rd_ok HRR.out HY.out (by omega) (by omega))
      have HV := Lib.hid (HN2.out (by omega))
      clear HRR HN2 hy
      go_wp2_with fail
      go_ret3
      exact ⟨_, _, _, rfl, by rw [HT.out]; refine ⟨HV.out.1, ?_, rfl⟩; rw [List.length_drop]; have h9 := HLN.out; omega, hE.out⟩
     ·have e9 : (k == 9) = false := by rw [beq_eq_false_iff_ne]; omega
      have e1 : decide (1 < y) = false := decide_eq_false (by omega)
      have e0 : (y == 0) = true := by rw [beq_iff_eq]; omega
      have ek : decide (0 < k) = true := decide_eq_true (by omega)
      have HT := Lib.hid (by have h := HRR.out; rw [show y = 0 by omega] at h; exact rd_zero h (by omega) : X = .error 2)
      have HV := Lib.hid (HN2.out (by omega))
      have HV0 := Lib.hid (by rw [HV.out.1, show y = 0 by omega, Nat.mul_zero, Nat.add_zero]; have := Nat.lt_of_lt_of_le HA.out (Nat.pow_le_pow_right (by decide) hk9 : 128 ^ k ≤ 128 ^ 9); omega : n' ≤ 9223372036854775807)
      clear HRR HN2 hy
      go_wp2_with fail
      go_ret3
      exact ⟨_, _, _, rfl, by rw [HT.out]; exact ⟨HV0.out, rfl, rfl⟩, hE.out⟩
     ·have e9 : (k == 9) = false := by rw [beq_eq_false_iff_ne]; omega
      have e1 : decide (1 < y) = false := decide_eq_false (by omega)
      have ek : decide (0 < k) = false := decide_eq_false (by omega)
      have HT := Lib.hid (rd_ok HRR.out HY.out (by omega) (by omega))
      have HV := Lib.hid (HN2.out (by omega))
      clear HRR HN2 hy
      go_wp2_with fail
      go_ret3
      exact ⟨_, _, _, rfl, by rw [HT.out]; refine ⟨HV.out.1, ?_, rfl⟩; rw [List.length_drop]; have h9 := HLN.out; omega, hE.out⟩
     ·have e9 : (k == 9) = false := by rw [beq_eq_false_iff_ne]; omega
      have e1 : decide (1 < y) = true := decide_eq_true (by omega)
      have e0 : (y == 0) = false := by rw [beq_eq_false_iff_ne]; omega
      have ek : decide (0 < k) = false := decide_eq_false (by omega)
      have HT := Lib.hid (rd_ok HRR.out HY.out (by omega) (by omega))
      have HV := Lib.hid (HN2.out (by omega))
      clear HRR HN2 hy
      go_wp2_with fail
      go_ret3
      exact ⟨_, _, _, rfl, by rw [HT.out]; refine ⟨HV.out.1, ?_, rfl⟩; rw [List.length_drop]; have h9 := HLN.out; omega, hE.out⟩
     ·have e9 : (k == 9) = false := by rw [beq_eq_false_iff_ne]; omega
      have e1 : decide (1 < y) = false := decide_eq_false (by omega)
      have e0 : (y == 0) = false := by rw [beq_eq_false_iff_ne]; omega
      have ek : decide (0 < k) = true := decide_eq_true (by omega)
      have HT := Lib.hid (rd_ok HRR.out HY.out (by omega) (by omega))
      have HV := Lib.hid (HN2.out (by omega))
      clear HRR HN2 hy
      go_wp2_with fail
      go_ret3
      exact ⟨_, _, _, rfl, by rw [HT.out]; refine ⟨HV.out.1, ?_, rfl⟩; rw [List.length_drop]; have h9 := HLN.out; omega, hE.out⟩
     ·have e9 : (k == 9) = false := by rw [beq_eq_false_iff_ne]; omega
      have e1 : decide (1 < y) = true := decide_eq_true (by omega)
      have e0 : (y == 0) = false := by rw [beq_eq_false_iff_ne]; omega
      have ek : decide (0 < k) = true := decide_eq_true (by omega)
      have HT := Lib.hid (rd_ok HRR.out HY.out (by omega) (by omega))
      have HV := Lib.hid (HN2.out (by omega))
      clear HRR HN2 hy
      go_wp2_with fail
      go_ret3
      exact ⟨_, _, _, rfl, by rw [HT.out]; refine ⟨HV.out.1, ?_, rfl⟩; rw [List.length_drop]; have h9 := HLN.out; omega, hE.out⟩
   ·have hm := HM.out
    have HT := Lib.hid (by
     have h := HR.out
     rcases (show k = 10 ∨ (k < 10 ∧ k = L.length) by omega) with e | ⟨e1, e2⟩
     ·rw [e] at h; rw [if_pos e]; exact rd_many h
     ·rw [if_neg (by omega)]
      rw [e2, List.drop_length, ← e2, show 10 - k = 9 - k + 1 by omega] at h
      exact rd_short h : X = if k = 10 then .error 4 else .error 3)
    have hkM : k = M := by omega
    clear hm hk hlt HR
    subst hkM
    by_cases h10 : k = 10
    ·have g1 : ((k : Int) == 10) = true := by simp; omega
     have g2 : decide ((k : Int) = 10) = true := by simp; omega
     have g3 : decide (k = 10) = true := decide_eq_true h10
     have g4 : (k == 10) = true := by simp [h10]
     rw [if_pos h10] at HT
     clear h10
     go_wp2_with fail
     go_ret3
     exact ⟨_, _, _, rfl, by rw [HT.out]; exact ⟨by decide, rfl, rfl⟩, hE.out⟩
    ·have g1 : ((k : Int) == 10) = false := by rw [beq_eq_false_iff_ne]; omega
     have g2 : decide ((k : Int) = 10) = false := decide_eq_false (by omega)
     have g3 : decide (k = 10) = false := decide_eq_false h10
     have g4 : (k == 10) = false := by rw [beq_eq_false_iff_ne]; omega
     rw [if_neg h10] at HT
     clear h10
     go_wp2_with fail
     go_ret3
     exact ⟨_, _, _, rfl, by rw [HT.out]; exact ⟨by decide, rfl, rfl⟩, hE.out⟩
end Go.Proofs.YtnheioehadldmaaGreat

/- THE WALKS over codec.Uint and codec.Int. -/
namespace Go.Proofs.YtnheioehadldmaaGreat
open Go.RowKit
theorem rdF_err : ∀ (f : Nat) (l : List Nat) (e : Int), rdF f l = .error e → e = 2 ∨ e = 3 ∨ e = 4
 | 0, _, e, h => by rw [rdF] at h; injection h with h; omega
 | _ + 1, [], e, h => by rw [rdF] at h; injection h with h; omega
 | f + 1, c :: l, e, h => by
  rw [rdF] at h
  split at h
  ·split at h
   ·cases h
   ·rename_i h2
    injection h with h
    subst h
    exact rdF_err f l _ h2
  ·split at h
   ·injection h with h; omega
   ·split at h
    ·injection h with h; omega
    ·cases h
/-- what codec.Uint and codec.Int give -/
def numOut (N : Nat) (X : Except Int (Int × List Nat)) (x y z : Int) : Prop := match X with
 | .ok (u, r) => x = u ∧ y = (N : Int) - r.length ∧ z = 0
 | .error er => x = 0 ∧ y = 0 ∧ z = er ∧ (er = 2 ∨ er = 3 ∨ er = 4)
def uI (l : List Nat) : Except Int (Int × List Nat) := match uE l with
 | .ok (u, r) => .ok ((u : Int), r)
 | .error e => .error e
theorem uI_big {l : List Nat} {u : Nat} {r : List Nat} (h : rdF 10 l = .ok (u, r)) (hu : 9223372036854775807 < u) : uI l = .error 4 := by unfold uI uE; rw [h]; simp only []; rw [if_neg (by omega)]
theorem uI_ok {l : List Nat} {u : Nat} {r : List Nat} (h : rdF 10 l = .ok (u, r)) (hu : u ≤ 9223372036854775807) : uI l = .ok ((u : Int), r) := by unfold uI uE; rw [h]; simp only []; rw [if_pos hu]
theorem uI_err {l : List Nat} {e : Int} (h : rdF 10 l = .error e) : uI l = .error e := by unfold uI uE; rw [h]
theorem iE_ok {l : List Nat} {u : Nat} {r : List Nat} (h : rdF 10 l = .ok (u, r)) : iE l = .ok (zag u, r) := by unfold iE; rw [h]
theorem iE_err {l : List Nat} {e : Int} (h : rdF 10 l = .error e) : iE l = .error e := by unfold iE; rw [h]
set_option maxRecDepth 100000 in
theorem co_Uint (l : List Nat) (ok : Nat → Prop) (A : Option Addr) (c at_ : Nat) (w : World) (hv : Byts w ok A l) (hb : ∀ x ∈ l, x < 256) (hc : l.length ≤ c) (ha : at_ ≤ l.length) :
  Calls Tryz.prog 59 #[.slice A l.length c, .int .i64 (at_ : Int)] w fun e w' => ∃ x y z : Int, e = .returned (.tuple #[.int .i64 x, .int .i64 y, .int .i64 z]) ∧ numOut l.length (uI (l.drop at_)) x y z ∧ Ext w w' := by
 have HV := Lib.hid (co_read l ok A c at_ w hv hb hc ha)
 have HI := Lib.hid (fun u r => rdF_inv 9 (l.drop at_) u r (by decide) (fun x hx => hb x (List.mem_of_mem_drop hx)))
 generalize hN : l.length = N at *
 generalize l.drop at_ = L at *
 have HE := Lib.hid (rdF_err 10 L)
 have HB := Lib.hid (fun (u : Nat) (r : List Nat) (h : rdF 10 L = .ok (u, r)) (hu : 9223372036854775807 < u) => uI_big h hu)
 have HO := Lib.hid (fun (u : Nat) (r : List Nat) (h : rdF 10 L = .ok (u, r)) (hu : u ≤ 9223372036854775807) => uI_ok h hu)
 have HR := Lib.hid (fun (e : Int) (h : rdF 10 L = .error e) => uI_err h)
 obtain ⟨U, hU⟩ : ∃ U, U = uI L := ⟨_, rfl⟩
 rw [← hU] at HB HO HR ⊢
 generalize rdF 10 L = X at *
 clear hv hb hU
 go_enter Tryz.func59, Tryz.ntmps59
 go_upto_region 2 with (go_at_call 83; ((with_reducible refine (HV.out).mono ?_); rintro e w2 ⟨x, y, z, rfl, hO, hx⟩))
 clear HV
 cases X with
 | error er =>
  obtain ⟨h1, rfl, rfl⟩ := hO
  have hz := HE.out z rfl
  have g : decide ((9223372036854775807 : Int) < x) = false := decide_eq_false (by omega)
  have gz : (z != 0) = true := by rw [bne_iff_ne]; omega
  have HT := Lib.hid (HR.out _ rfl)
  have HZ := Lib.hid hz
  clear hz h1
  go_wp2_with fail
  go_ret3
  exact ⟨_, _, _, rfl, by rw [HT.out]; exact ⟨rfl, rfl, rfl, HZ.out⟩, hx⟩
 | ok p =>
  obtain ⟨u, r⟩ := p
  obtain ⟨rfl, rfl, rfl⟩ := hO
  by_cases hu : u ≤ 9223372036854775807
  ·have g : decide ((9223372036854775807 : Int) < (u : Int)) = false := decide_eq_false (by omega)
   have g' : decide (9223372036854775807 < u) = false := decide_eq_false (by omega)
   have HT := Lib.hid (HO.out _ _ rfl hu)
   have hw : IntKind.i64.wrap (u : Int) = (u : Int) := by rw [IntKind.wrap_i64]; omega
   go_wp2_with fail
   go_ret3
   exact ⟨_, _, _, rfl, by rw [HT.out]; exact ⟨rfl, rfl, rfl⟩, hx⟩
  ·have g : decide ((9223372036854775807 : Int) < (u : Int)) = true := decide_eq_true (by omega)
   have g' : decide (9223372036854775807 < u) = true := decide_eq_true (by omega)
   have HT := Lib.hid (HB.out _ _ rfl (by omega))
   go_wp2_with fail
   go_ret3
   exact ⟨_, _, _, rfl, by rw [HT.out]; exact ⟨rfl, rfl, rfl, by omega⟩, hx⟩
theorem and1 {n : Nat} (h : n < 18446744073709551616) : bits .and .u64 (n : Int) 1 = ((n % 2 : Nat) : Int) := by
 have := u64_and_nat n 1 h (by decide)
 rw [nat_mask1] at this
 exact this
set_option maxRecDepth 100000 in
theorem co_Int (l : List Nat) (ok : Nat → Prop) (A : Option Addr) (c at_ : Nat) (w : World) (hv : Byts w ok A l) (hb : ∀ x ∈ l, x < 256) (hc : l.length ≤ c) (ha : at_ ≤ l.length) :
  Calls Tryz.prog 60 #[.slice A l.length c, .int .i64 (at_ : Int)] w fun e w' => ∃ x y z : Int, e = .returned (.tuple #[.int .i64 x, .int .i64 y, .int .i64 z]) ∧ numOut l.length (iE (l.drop at_)) x y z ∧ Ext w w' := by
 have HV := Lib.hid (co_read l ok A c at_ w hv hb hc ha)
 have HI := Lib.hid (fun u r => rdF_inv 9 (l.drop at_) u r (by decide) (fun x hx => hb x (List.mem_of_mem_drop hx)))
 generalize hN : l.length = N at *
 generalize l.drop at_ = L at *
 have HE := Lib.hid (rdF_err 10 L)
 have HO := Lib.hid (fun (u : Nat) (r : List Nat) (h : rdF 10 L = .ok (u, r)) => iE_ok h)
 have HR := Lib.hid (fun (e : Int) (h : rdF 10 L = .error e) => iE_err h)
 obtain ⟨U, hU⟩ : ∃ U, U = iE L := ⟨_, rfl⟩
 rw [← hU] at HO HR ⊢
 have HIX := Lib.hid (fun X (hX : X = rdF 10 L) u r (h : X = .ok (u, r)) => (by have := (HI.out u r (hX.symm.trans h)).2.1; omega : u < 18446744073709551616))
 replace HIX := Lib.hid (HIX.out _ rfl)
 clear HI
 generalize rdF 10 L = X at *
 clear hv hb hU
 go_enter Tryz.func60, Tryz.ntmps60
 go_upto_region 2 with (go_at_call 83; ((with_reducible refine (HV.out).mono ?_); rintro e w2 ⟨x, y, z, rfl, hO, hx⟩))
 clear HV
 cases X with
 | error er =>
  obtain ⟨h1, rfl, rfl⟩ := hO
  have hz := HE.out z rfl
  have gz : (z != 0) = true := by rw [bne_iff_ne]; omega
  have HT := Lib.hid (HR.out _ rfl)
  have HZ := Lib.hid hz
  clear hz h1
  go_wp2_with fail
  go_ret3
  exact ⟨_, _, _, rfl, by rw [HT.out]; exact ⟨rfl, rfl, rfl, HZ.out⟩, hx⟩
 | ok p =>
  obtain ⟨u, r⟩ := p
  obtain ⟨rfl, rfl, rfl⟩ := hO
  have hu := HIX.out u r rfl
  have HT := Lib.hid (HO.out _ _ rfl)
  have hA := and1 hu
  have hw : IntKind.i64.wrap ((u : Int) / 2) = (u : Int) / 2 := by rw [IntKind.wrap_i64]; omega
  by_cases h2 : u % 2 = 1
  ·have g : ((u : Int) % 2 == 1) = true := by rw [beq_iff_eq]; omega
   have g' : (u % 2 == 1) = true := by rw [beq_iff_eq]; omega
   have HZ := Lib.hid (show -((u : Int) / 2) - 1 = zag u by unfold zag; rw [if_pos h2]; omega)
   clear h2
   have hnot : bits BinOp.xor IntKind.i64 (if IntKind.i64.signed = true then -1 else 9223372036854775807) ((u : Int) / 2) = -((u : Int) / 2) - 1 := by
    have := i64_not (u / 2) (by omega)
    rw [show (if IntKind.i64.signed = true then (-1 : Int) else 9223372036854775807) = -1 by decide, show ((u : Int) / 2) = ((u / 2 : Nat) : Int) by omega, this]
    omega
   go_wp2_with fail
   go_ret3
   exact ⟨_, _, _, rfl, by rw [HT.out]; exact ⟨HZ.out, rfl, rfl⟩, hx⟩
  ·have g : ((u : Int) % 2 == 1) = false := by rw [beq_eq_false_iff_ne]; omega
   have g' : (u % 2 == 1) = false := by rw [beq_eq_false_iff_ne]; omega
   have HZ := Lib.hid (show (u : Int) / 2 = zag u by unfold zag; rw [if_neg h2]; omega)
   clear h2
   go_wp2_with fail
   go_ret3
   exact ⟨_, _, _, rfl, by rw [HT.out]; exact ⟨HZ.out, rfl, rfl⟩, hx⟩
end Go.Proofs.YtnheioehadldmaaGreat
