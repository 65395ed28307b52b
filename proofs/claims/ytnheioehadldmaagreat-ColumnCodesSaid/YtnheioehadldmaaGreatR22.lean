/- PARTS OF THE WALKS, joined: CqF, CqA, CqE, CqI. -/
import Derived.Test.YtnheioehadldmaaGreatR21
import Derived.Test.YtnheioehadldmaaGreatR20
import Derived.Deep.CutBlock
import Derived.Test.YtnheioehadldmaaGreatR18
import Derived.Test.YtnheioehadldmaaGreatR19
import Derived.Test.YtnheioehadldmaaGreatR11
/- THE WALK over the reference's Decode. -/
namespace Go.Proofs.YtnheioehadldmaaGreat
open Go.RowKit
def badI (e node d : Int) : Bool := decide (e = 0) && (decide (1000000 < d) || !idB (node + d))
def chkI (st : Except Int (List Nat)) (node d : Int) : Except Int (List Nat) := match st with
 | .error e => .error e
 | .ok r => if 1000000 < d ∨ idB (node + d) = false then .error 1 else .ok r
theorem chkI_no {l : List Nat} {at_ e node d : Int} {st : Except Int (List Nat)} (hO : okR l at_ e st) (h : badI e node d = false) : chkI st node d = st := by
 cases st with
 | error er => rfl
 | ok r =>
  unfold badI at h
  rw [hO.1, decide_eq_true rfl, Bool.true_and, Bool.or_eq_false_iff] at h
  exact if_neg (by
   rintro (h1 | h1)
   ·exact absurd h1 (of_decide_eq_false h.1)
   ·rw [h1] at h; cases h.2)
theorem chkI_yes {l : List Nat} {at_ e node d : Int} {st : Except Int (List Nat)} (hO : okR l at_ e st) (h : badI e node d = true) : chkI st node d = .error 1 := by
 unfold badI at h
 rw [Bool.and_eq_true, decide_eq_true_eq] at h
 cases st with
 | error er => exact absurd (hO.1.symm.trans h.1) hO.2
 | ok r =>
  refine if_pos ?_
  have h2 := h.2
  rw [Bool.or_eq_true] at h2
  rcases h2 with h2 | h2
  ·exact .inl (of_decide_eq_true h2)
  ·exact .inr (by cases hb : idB (node + d) with | false => rfl | true => rw [hb] at h2; cases h2)
theorem uI_nn {r s : List Nat} {n : Int} (h : uI r = .ok (n, s)) : 0 ≤ n := by
 unfold uI at h
 cases hu : uE r with
 | error e => rw [hu] at h; cases h
 | ok p => obtain ⟨u, t⟩ := p; rw [hu] at h; injection h with h; injection h with e1 e2; omega
theorem stU_nn {l r : List Nat} {at_ e d : Int} {st : Except Int (List Nat)} (h : stU (.ok r) d st) (hO : okR l at_ e st) : e = 0 → 0 ≤ d := fun he => by
 unfold stU at h
 cases hu : uI r with
 | error er => simp only [hu] at h; rw [h] at hO; exact absurd (hO.1.symm.trans he) hO.2
 | ok p => obtain ⟨n, s⟩ := p; simp only [hu] at h; rw [h.1]; exact uI_nn hu
theorem chkI_st {l r : List Nat} {at_ e node d : Int} {st : Except Int (List Nat)} (hd : e = 0 → 0 ≤ d) (h : stU (.ok r) d st) (hO : okR l at_ e st) : stI st node d (node + d) (chkI st node d) := by
 cases st with
 | error er => rfl
 | ok s =>
  have h0 := hd hO.1
  unfold chkI
  simp only
  split
  ·rename_i hn
   exact stI_no (by rcases hn with hn | hn; exact .inr (.inl hn); exact .inr (.inr hn))
  ·rename_i hn
   refine stI_yes (by omega) (fun h1 => hn (.inl h1)) ?_
   cases hb : idB (node + d) with
   | true => rfl
   | false => exact absurd (.inr hb) hn
set_option maxRecDepth 100000 in
set_option maxHeartbeats 12800000 in
theorem r12_Decode (l : List Nat) (ok : Nat → Prop) (A : Option Addr) (c : Nat) (w : World) (hv : Byts w ok A l) (hb : ∀ x ∈ l, x < 256) (hl : l.length ≤ 1000000) :
  Calls Tryz.prog 10 #[.slice A l.length c] w fun e w' => ∃ A B C D k0 k1 k2 k3, e = .returned (.tuple #[agC (decR (decC l)).2 A B C D k0 k1 k2 k3, .int .i64 (decR (decC l)).1]) ∧ ColAt w' (fun b => w.heap.size ≤ b) A B C D (decR (decC l)).2 ∧ Ext w w' := by
 obtain ⟨q2, w1, hq2, hw1, hrx, hrz, hx1⟩ := box_zero w 29
 obtain ⟨qr, w2, hqr, hw2, hRd, hx2⟩ := box_reader w1 A l.length c 67
 obtain ⟨q3, w3, hq3, hw3, hbx, hbz, hx3⟩ := box_zero w2 29
 have hs1 : w1.heap.size = w.heap.size + 1 := by rw [hw1]; simp
 have hs2 : w2.heap.size = w.heap.size + 2 := by rw [hw2]; simp; omega
 have hs3 : w3.heap.size = w.heap.size + 3 := by rw [hw3]; simp; omega
 have HW1 := Lib.hid hw1
 have HW2 := Lib.hid hw2
 have HW3 := Lib.hid hw3
 have HQ2 := Lib.hid hq2
 have HQR := Lib.hid (show qr = q2 + 1 by omega)
 have HQ3 := Lib.hid (show q3 = qr + 1 by omega)
 have HQ := Lib.hid (show w.heap.size ≤ qr ∧ qr < w3.heap.size ∧ qr ≠ q2 ∧ qr ≠ q3 by omega)
 have HQX := Lib.hid (show Ext w w ∧ w.heap.size ≤ q2 from ⟨Ext.refl _, by omega⟩)
 have HBB0 := Lib.hid (show w.heap.size ≤ w3.heap.size by omega)
 have hx23 := hx2.trans hx3
 have HP0 := Lib.hid (⟨hx1.trans hx23, Nat.le_refl _, Col4.nil _ _, hbx, hbz, hrx.grown (hx23.gr none) (by simp), hrz.grown hrx (hx23.gr none) (by simp), by omega, by omega, by omega, by omega, by omega⟩ : PkS w w3.heap.size q2 q3 w3 (.slice none 0 0) (.slice none 0 0) (.slice none 0 0) (.slice none 0 0) (.slice none 0 0) (.slice none 0 0) (.slice none 0 0) (.slice none 0 0) noCol)
 have HR0 := Lib.hid (hRd.ext hx3)
 have HU := Lib.hid (fun W at_ e0 st (x : Ext w W) (hr : RdC W qr A l.length c at_ e0) (hs : okR l at_ e0 st) => r12_natural l ok A c qr at_ e0 st W hr hs (hv.ext x) hb)
 have HN := Lib.hid (fun W at_ e0 base st (x : Ext w W) (hr : RdC W qr A l.length c at_ e0) (hs : okR l at_ e0 st) hbs => r12_next l ok A c qr at_ e0 base st W hr hs hbs (hv.ext x) hb)
 have HC0 := Lib.hid (HU.out w3 0 0 (.ok l) HP0.out.ext HR0.out ⟨rfl, Nat.le_refl _, by omega, by rw [Nat.sub_self]; rfl⟩)
 obtain ⟨R, hR⟩ : ∃ R, R = decR (decC l) := ⟨_, rfl⟩
 rw [← hR]
 have HRS := Lib.hid hR
 clear hR hRd hv hb hw1 hw2 hw3 hq2 hqr hq3 hs1 hs2 hs3 hrx hrz hbx hbz hx1 hx2 hx3 hx23
 go_enter Tryz.func10, Tryz.ntmps10
 go_upto_region 3 with (fail)
 rw [← HW1.out, ← HQ2.out, ← HQR.out, ← HW2.out, ← HQ3.out, ← HW3.out]
 clear HW1 HW2 HW3 HQ2 HQR HQ3
 go_upto_region 4 with (go_at_call 31; ((with_reducible refine (HC0.out).mono ?_); rintro e w4 ⟨cnt, at1, e1, st1, rfl, hR4, hO4, hT4, hg4⟩; have HP4 := Lib.hid (HP0.out.other HQ.out hg4); have HR4 := Lib.hid hR4; have HO4 := Lib.hid hO4; have hD := dec_start hT4; have hI := inv_start (cnt := cnt) hO4; obtain ⟨X, hX⟩ : ∃ X, X = cntS cnt st1 := ⟨_, rfl⟩; rw [← hX] at hD hI; have HD := Lib.hid hD; have HI4 := Lib.hid hI; clear hX hD hI hR4 hO4 hT4 hg4 HC0 HP0 HR0))
 go_wp2_with fail
 go_loopw [7, 8, 9] (fun u7 u8 u9 W => ∃ (i : Nat) (node edge : Int) (at_ e0 : Int) (vN vF vT vE : Value) (C : Col) (st : Except Int (List Nat)), u7 = .int .i64 node ∧ u8 = .int .i64 edge ∧ u9 = .int .i64 i ∧ Hid (PkS w w3.heap.size q2 q3 W vN vF vT vE vN vF vT vE C) ∧ Hid (RdC W qr A l.length c at_ e0) ∧ Hid (okR l at_ e0 st) ∧ Hid (InvO l.length cnt X i node edge C st)) (fun _ _ u9 _ => cnt.toNat - (intOf u9).toNat)
 case atStart => exact ⟨0, 0, 0, at1, e1, _, _, _, _, noCol, st1, rfl, rfl, rfl, HP4, HR4, HO4, HI4⟩
 case round =>
  clear HP4 HR4 HO4 HI4
  obtain ⟨i, node, edge, at2, e2, vN, vF, vT, vE, C, st2, rfl, rfl, rfl, HP, HR, HO, HI⟩ := hrel
  obtain ⟨bb, hbb⟩ : ∃ bb, bb = (decide ((i : Int) < cnt) && decide (e2 = 0)) := ⟨_, rfl⟩
  have HB0 := Lib.hid (fun (h : bb = true) => (by rw [hbb, Bool.and_eq_true, decide_eq_true_eq, decide_eq_true_eq] at h; exact h : (i : Int) < cnt ∧ e2 = 0))
  have HBB := Lib.hid (fun h : e2 = 0 => (by rw [hbb, decide_eq_true h, Bool.and_true] : bb = decide ((i : Int) < cnt)))
  have HBX := Lib.hid hbb
  clear hbb
  obtain ⟨c0, c1, c2, -, -⟩ := HR.out
  go_upto_region 6 with (fail)
  go_cut [24] from 17 to 101 (fun s24 wx => s24 = .bool bb ∧ wx = wr)
  case first =>
   by_cases hi : (i : Int) < cnt
   ·have g : decide ((i : Int) < cnt) = true := decide_eq_true hi
    by_cases he : e2 = 0
    ·have K := Lib.hid (by rw [HBX.out, g, decide_eq_true he]; rfl : bb = true)
     rw [he] at c2
     clear he hi HB0 HBB HBX
     go_wp2_with fail
     go_meet
     case rel => exact ⟨by rw [K.out], rfl⟩
    ·have K := Lib.hid (by rw [HBX.out, decide_eq_false he, Bool.and_false] : bb = false)
     have g2 : (e2 == 0) = false := beq_eq_false_iff_ne.2 he
     have g3 : decide (e2 = 0) = false := decide_eq_false he
     clear he hi HB0 HBB HBX
     go_wp2_with fail
     go_meet
     case rel => exact ⟨by rw [K.out], rfl⟩
   ·have g : decide ((i : Int) < cnt) = false := decide_eq_false hi
    have K := Lib.hid (by rw [HBX.out, g]; rfl : bb = false)
    clear hi HB0 HBB HBX
    go_wp2_with fail
    go_meet
    case rel => exact ⟨by rw [K.out], rfl⟩
  case rest =>
   obtain ⟨rfl, hwx⟩ := hcut
   subst hwx
   obtain ⟨w5, hw5⟩ : ∃ W, W = wc := ⟨_, rfl⟩
   subst hw5
   clear c0 c1 c2 HBX
   cases bb
   ·replace HBB := Lib.hid (fun h : e2 = 0 => HBB.out h)
    cases st2 with
    | error er =>
     have HNE := Lib.hid (by rw [HO.out.1]; exact HO.out.2 : e2 ≠ 0)
     have g : (e2 != 0) = true := by rw [bne_iff_ne]; exact HNE.out
     have g1 : (e2 == 0) = false := beq_eq_false_iff_ne.2 HNE.out
     have HNO := Lib.hid (by rw [HRS.out, HO.out.1]; exact dec_err HD.out (inv_end HI.out (fun r hr => by cases hr)).1 : R = (e2, noCol))
     obtain ⟨c0, c1, c2, -, -⟩ := HR.out
     have HM := Lib.hid (fun V (e : Ext w5 V) => e.cell c2)
     obtain ⟨r0, r1, r2, r3⟩ := HP.out.rx
     obtain ⟨f0, f1, f2, f3⟩ := HP.out.rz
     have hfin := HP.out.fin HQX.out.1 HQX.out.2 (.slice none 0 0) (.slice none 0 0) (.slice none 0 0) (.slice none 0 0)
     have hd := set4 HP.out.rx (.slice none 0 0) (.slice none 0 0) (.slice none 0 0) (.slice none 0 0)
     obtain ⟨w8, hw8⟩ : ∃ W, W = ((((w5.setCell ⟨q2, 0, none⟩ (.slice none 0 0)).setCell ⟨q2, 1, none⟩ (.slice none 0 0)).setCell ⟨q2, 2, none⟩ (.slice none 0 0)).setCell ⟨q2, 3, none⟩ (.slice none 0 0)) := ⟨_, rfl⟩
     rw [← hw8] at hfin hd
     obtain ⟨d0, d1, d2, d3⟩ := hd
     have HF := Lib.hid hfin.1
     have HFC := Lib.hid hfin.2
     clear hfin
     have HM8 := Lib.hid (fun V (e : Ext w8 V) => e.cell (by rw [hw8]; exact (HR.out.grown ((((gr_set _ _ _ _).trans (gr_set _ _ _ _)).trans (gr_set _ _ _ _)).trans (gr_set _ _ _ _)) (fun e => HQ.out.2.2.1 (Option.some.inj e))).c2 : w8.cell? ⟨qr, 2, none⟩ = some (.int .i64 e2)))
     clear HFC HP HR
     go_upto_region 28 with (fail)
     refine AnyT.start (S := (fun V => V.cell? ⟨qr, 2, none⟩ = some (.int .i64 e2))) (T := (fun V => V.cell? ⟨qr, 2, none⟩ = some (.int .i64 e2))) (E := 3) (by kernel_rfl) ?hs76001 (fun hHeld => ?go76001)
     case hs76001 => exact ⟨by (exact HM.out _ (by solve_by_elim [X0, X1, X2, X3])), by (first | exact HM.out _ (by solve_by_elim [X0, X1, X2, X3]) | exact HM8.out _ (by solve_by_elim [X0, X1, X2, X3]))⟩
     refine TB 0 (v := ?v76002) ⟨fun _ => hHeld.1, hHeld.2⟩ ?hy76002 ?_
     case hy76002 => (intro w hSw; (try dsimp only at hSw); go_simp <;> first | with_reducible rfl | rw [if_neg (by omega)] | rw [if_pos (by omega)])
     (try simp only [PU])
     refine TB 1 (v := ?v76003) ⟨fun _ => hHeld.1, hHeld.2⟩ ?hy76003 ?_
     case hy76003 => (intro w hSw; (try dsimp only at hSw); go_simp <;> first | with_reducible rfl | rw [if_neg (by omega)] | rw [if_pos (by omega)])
     (try simp only [PU])
     refine TB 2 (v := ?v76004) ⟨fun _ => hHeld.1, hHeld.2⟩ ?hy76004 ?_
     case hy76004 => (intro w hSw; (try dsimp only at hSw); go_simp <;> first | with_reducible rfl | rw [if_neg (by omega)] | rw [if_pos (by omega)])
     (try simp only [PU])
     refine AnyT.ready (rs := [3]) (by kernel_rfl) (by simp) ?_
     refine AllT.cons (o := ⟨_, _, _, _, _, _⟩) rfl (fun K hK => ?step76005x0) ?more76005x0
     case more76005x0 => exact AllT.nil
     go_simp
     (rw [← hw8]; clear hw8 r0 r1 r2 r3 f0 f1 f2 f3)
     refine hK.out _ _ ?hS76005x0 (fun H76005 => ?_)
     case hS76005x0 => exact ⟨fun h => (by first | exact absurd h (by decide) | simp at h), by (first | exact HM.out _ (by solve_by_elim [X0, X1, X2, X3]) | exact HM8.out _ (by solve_by_elim [X0, X1, X2, X3]))⟩
     clear hK K
     clear hHeld
     refine TB 4 (v := ?v76006) H76005 ?hy76006 ?_
     case hy76006 => (intro w hSw; (try dsimp only at hSw); go_simp <;> first | with_reducible rfl | rw [if_neg (by omega)] | rw [if_pos (by omega)])
     (try simp only [PU])
     refine AnyT.done (by kernel_rfl) ?_ _
     clear H76005
     go_wp2_with fail
     (try simp only [Exit.inBlock, Exit.then])
     (try rw [← hw8])
     (try clear hw8 r0 r1 r2 r3 f0 f1 f2 f3)
     refine bodyPost_ret (v := .tuple #[.agg #[(.slice none 0 0), (.slice none 0 0), (.slice none 0 0), (.slice none 0 0)], .int .i64 e2]) (by simp [results, Tryz.results10, go_sem, *]) rfl ?_
     rw [HNO.out]
     first | exact ⟨none, none, none, none, 0, 0, 0, 0, rfl, ColAt.none _ _, by first | exact HF.out | exact X1 HF.out⟩ | exact ⟨none, none, none, none, ⟨0, 0, 0, 0, rfl⟩, ColAt.none _ _, by first | exact HF.out | exact X1 HF.out⟩
    | ok r =>
     have he : e2 = 0 := HO.out.1
     subst he
     have hi : ¬ (i : Int) < cnt := fun h => by have h2 := HBB.out rfl; rw [decide_eq_true h] at h2; cases h2
     have HE := Lib.hid (inv_end HI.out (fun _ _ => hi))
     have HLF := Lib.hid (finC_len HE.out.2)
     have hm1 : C.first.length + 1 ≤ 8388608 := by have := HE.out.2.len; omega
     clear hi HBB HB0 HI
     obtain ⟨AN, cN, rfl⟩ := HP.out.c4.n.form
     obtain ⟨AT, cT, rfl⟩ := HP.out.c4.t.form
     obtain ⟨z0, z1, z2, z3⟩ := HP.out.bx
     obtain ⟨c0, c1, c2, -, -⟩ := HR.out
     obtain ⟨bn, hbn⟩ : ∃ bn : Bool, bn = decide (0 < C.nodes.length) := ⟨_, rfl⟩
     have HN0 := Lib.hid (fun (h : bn = false) => (by rw [hbn] at h; have h1 := of_decide_eq_false h; exact List.eq_nil_of_length_eq_zero (by omega) : C.nodes = []))
     have HN1 := Lib.hid (fun (h : bn = true) => (by rw [hbn] at h; have h1 := of_decide_eq_true h; exact List.length_pos_iff.1 h1 : C.nodes ≠ []))
     have g : decide (0 < C.nodes.length) = bn := hbn.symm
     have g1 : decide (0 < (C.nodes.length : Int)) = bn := by rw [hbn]; exact decide_eq_decide.2 (by omega)
     clear hbn
     go_upto_if 111 with (fail)
     clear g g1 c0 c1 c2
     go_cut [3] from 112 (fun _ wx => ∃ (vN vF vT vE : Value), Hid (PkS w w3.heap.size q2 q3 wx vN vF vT vE vN vF vT vE (finC C)) ∧ Hid (RdC wx qr A l.length c at2 0))
     case first =>
      cases bn
      ·have hn := HN0.out rfl
       have HPF := Lib.hid (by unfold finC; rw [if_pos hn]; exact HP.out : PkS w w3.heap.size q2 q3 w5 (.slice AN C.nodes.length cN) vF (.slice AT C.tos.length cT) vE (.slice AN C.nodes.length cN) vF (.slice AT C.tos.length cT) vE (finC C))
       clear hn
       go_wp2_with fail
       go_meet
       case rel => exact ⟨_, _, _, _, HPF, HR⟩
      ·have hn := HN1.out rfl
       have HFE := Lib.hid (by unfold finC; rw [if_neg hn] : finC C = { C with first := C.first ++ [(C.tos.length : Int)] })
       have HYF := Lib.hid (show some qr ≠ vF.ownBlock from fun e => by have h1 := (OwnG.lt HP.out.c4.f e.symm).1; have h2 := HQ.out.2.1; omega)
       have HYQ := Lib.hid (show some qr ≠ some q3 from fun e => HQ.out.2.2.2 (Option.some.inj e))
       clear hn
       go_wp2_with (at_builtin; go_loud (refine own_pushG (v := vF) (hs := C.first) T_ki rfl (.tmp 113) (.tmp 117) rfl w5 rfl HP.out.c4.f HP.out.le (C.tos.length : Int) trivial rfl _ rfl rfl hm1 (by decide) ?_); intro v7 w7 hO hg hd; obtain ⟨A7, n7, c7, rfl⟩ := own_fm hO; have hP := HP.out.pushF hO hg (Nat.le_succ _) hd; have zq7 := hP.bx.2.1; have zf7 := hP.fz.2.1; have HP7 := Lib.hid (hP.put1 (.slice A7 n7 c7)); have HR7 := Lib.hid ((HR.out.grown hg HYF.out).grown (gr_set w7 q3 1 (.slice A7 n7 c7)) HYQ.out); clear hP hO hg hd)
       go_meet
       case rel => exact ⟨_, _, _, _, Lib.hid (by rw [HFE.out]; exact HP7.out), HR7⟩
     case rest =>
      obtain ⟨vN, vF', vT, vE', HP2, HR2⟩ := hcut
      obtain ⟨w6, hw6⟩ : ∃ W, W = wc := ⟨_, rfl⟩
      subst hw6
      clear HP HR z0 z1 z2 z3 hm1
      have HBAD := Lib.hid (fun h => HRS.out.trans (dec_bad HD.out HE.out.1 h))
      have HMORE := Lib.hid (fun h hr => HRS.out.trans (dec_more HD.out HE.out.1 h hr))
      have HGOOD := Lib.hid (fun h hr => HRS.out.trans (dec_good HD.out HE.out.1 h hr))
      obtain ⟨hl0, hl1, hl2, hl3⟩ := HLF.out
      have HAT := Lib.hid HO.out.2
      clear HD HE HLF HRS HO
      generalize finC C = Z at *
      obtain ⟨A0, B0, C0, D0, k0, k1, k2, k3, e0, e1, e3, e4, hcol⟩ := HP2.out.c4.col ⟨(by omega), (by omega), (by omega), (by omega)⟩
      subst e0 e1 e3 e4
      have HCV := Lib.hid (r12_Valid Z _ A0 B0 C0 D0 k0 k1 k2 k3 w6 hcol (by omega))
      obtain ⟨c0, c1, c2, -, -⟩ := HR2.out
      obtain ⟨z0, z1, z2, z3⟩ := HP2.out.bx
      clear hcol
      generalize hcb : colB Z = cb at *
      have HCB := Lib.hid hcb
      clear hcb
      cases cb
      ·have HNO := Lib.hid (HBAD.out rfl)
       clear HMORE HGOOD HBAD
       go_upto_region 32 with ((go_at_call 34; ((with_reducible refine (HCV.out).mono ?_); rintro e w7 ⟨rfl, hx7⟩; have HP7 := Lib.hid (HP2.out.exts hx7); have HR7 := Lib.hid (HR2.out.ext hx7); clear hx7 HCV)))
       clear z0 z1 z2 z3 c0 c1 c2
       obtain ⟨r0, r1, r2, r3⟩ := HP7.out.rx
       obtain ⟨f0, f1, f2, f3⟩ := HP7.out.rz
       have hfin := HP7.out.fin HQX.out.1 HQX.out.2 (.slice none 0 0) (.slice none 0 0) (.slice none 0 0) (.slice none 0 0)
       have hd := set4 HP7.out.rx (.slice none 0 0) (.slice none 0 0) (.slice none 0 0) (.slice none 0 0)
       obtain ⟨w8, hw8⟩ : ∃ W, W = ((((w7.setCell ⟨q2, 0, none⟩ (.slice none 0 0)).setCell ⟨q2, 1, none⟩ (.slice none 0 0)).setCell ⟨q2, 2, none⟩ (.slice none 0 0)).setCell ⟨q2, 3, none⟩ (.slice none 0 0)) := ⟨_, rfl⟩
       rw [← hw8] at hfin hd
       obtain ⟨d0, d1, d2, d3⟩ := hd
       have HF := Lib.hid hfin.1
       have HFC := Lib.hid hfin.2
       clear hfin
       go_wp2_with fail
       (try simp only [Exit.inBlock, Exit.then])
       (try rw [← hw8])
       (try clear hw8 r0 r1 r2 r3 f0 f1 f2 f3)
       refine bodyPost_ret (v := .tuple #[.agg #[(.slice none 0 0), (.slice none 0 0), (.slice none 0 0), (.slice none 0 0)], .int .i64 1]) (by simp [results, Tryz.results10, go_sem, *]) rfl ?_
       rw [HNO.out]
       first | exact ⟨none, none, none, none, 0, 0, 0, 0, rfl, ColAt.none _ _, by first | exact HF.out | exact X1 HF.out⟩ | exact ⟨none, none, none, none, ⟨0, 0, 0, 0, rfl⟩, ColAt.none _ _, by first | exact HF.out | exact X1 HF.out⟩
      ·have HMO := Lib.hid (HMORE.out rfl)
       have HGO := Lib.hid (HGOOD.out rfl)
       clear HMORE HGOOD HBAD
       have hal : at2 = (l.length : Int) - r.length := HAT.out.2.1
       have hrl : r.length ≤ l.length := HAT.out.1
       by_cases hr : r = []
       ·have HNO := Lib.hid (HGO.out hr)
        have hr0 : r.length = 0 := by rw [hr]; rfl
        have g : (at2 != (l.length : Int)) = false := by rw [bne_eq_false_iff_eq]; omega
        clear HMO HGO hr hal hr0 hrl
        go_upto_region 33 with ((go_at_call 34; ((with_reducible refine (HCV.out).mono ?_); rintro e w7 ⟨rfl, hx7⟩; have HP7 := Lib.hid (HP2.out.exts hx7); have HR7 := Lib.hid (HR2.out.ext hx7); clear hx7 HCV)))
        clear z0 z1 z2 z3 c0 c1 c2
        obtain ⟨z0, z1, z2, z3⟩ := HP7.out.bx
        obtain ⟨c0, c1, c2, -, -⟩ := HR7.out
        obtain ⟨r0, r1, r2, r3⟩ := HP7.out.rx
        obtain ⟨f0, f1, f2, f3⟩ := HP7.out.rz
        have hfin := HP7.out.fin HQX.out.1 HQX.out.2 (.slice A0 Z.nodes.length k0) (.slice B0 Z.first.length k1) (.slice C0 Z.tos.length k2) (.slice D0 Z.edges.length k3)
        have hd := set4 HP7.out.rx (.slice A0 Z.nodes.length k0) (.slice B0 Z.first.length k1) (.slice C0 Z.tos.length k2) (.slice D0 Z.edges.length k3)
        obtain ⟨w8, hw8⟩ : ∃ W, W = ((((w7.setCell ⟨q2, 0, none⟩ (.slice A0 Z.nodes.length k0)).setCell ⟨q2, 1, none⟩ (.slice B0 Z.first.length k1)).setCell ⟨q2, 2, none⟩ (.slice C0 Z.tos.length k2)).setCell ⟨q2, 3, none⟩ (.slice D0 Z.edges.length k3)) := ⟨_, rfl⟩
        rw [← hw8] at hfin hd
        obtain ⟨d0, d1, d2, d3⟩ := hd
        have HF := Lib.hid hfin.1
        have HFC := Lib.hid hfin.2
        clear hfin
        go_wp2_with fail
        (try simp only [Exit.inBlock, Exit.then])
        (try rw [← hw8])
        clear hw8 r0 r1 r2 r3 f0 f1 f2 f3 z0 z1 z2 z3 c0 c1 c2
        refine bodyPost_ret (v := .tuple #[.agg #[(.slice A0 Z.nodes.length k0), (.slice B0 Z.first.length k1), (.slice C0 Z.tos.length k2), (.slice D0 Z.edges.length k3)], .int .i64 0]) (by simp [results, Tryz.results10, go_sem, *]) rfl ?_
        rw [HNO.out]
        obtain ⟨A1, B1, C1, D1, j0, j1, j2, j3, e0, e1, e3, e4, hcol⟩ := HFC.out.col ⟨(by omega), (by omega), (by omega), (by omega)⟩
        cases e0
        cases e1
        cases e3
        cases e4
        first | exact ⟨A0, B0, C0, D0, k0, k1, k2, k3, rfl, hcol.to (fun b hb => Nat.le_trans HBB0.out hb), HF.out⟩ | exact ⟨A0, B0, C0, D0, ⟨k0, k1, k2, k3, rfl⟩, hcol.to (fun b hb => Nat.le_trans HBB0.out hb), HF.out⟩
       ·have HNO := Lib.hid (HMO.out hr)
        have hr0 : 0 < r.length := List.length_pos_iff.2 hr
        have g : (at2 != (l.length : Int)) = true := by rw [bne_iff_ne]; omega
        clear HMO HGO hr hal hr0 hrl
        go_upto_region 33 with ((go_at_call 34; ((with_reducible refine (HCV.out).mono ?_); rintro e w7 ⟨rfl, hx7⟩; have HP7 := Lib.hid (HP2.out.exts hx7); have HR7 := Lib.hid (HR2.out.ext hx7); clear hx7 HCV)))
        clear z0 z1 z2 z3 c0 c1 c2
        obtain ⟨c0, c1, c2, -, -⟩ := HR7.out
        obtain ⟨r0, r1, r2, r3⟩ := HP7.out.rx
        obtain ⟨f0, f1, f2, f3⟩ := HP7.out.rz
        have hfin := HP7.out.fin HQX.out.1 HQX.out.2 (.slice none 0 0) (.slice none 0 0) (.slice none 0 0) (.slice none 0 0)
        have hd := set4 HP7.out.rx (.slice none 0 0) (.slice none 0 0) (.slice none 0 0) (.slice none 0 0)
        obtain ⟨w8, hw8⟩ : ∃ W, W = ((((w7.setCell ⟨q2, 0, none⟩ (.slice none 0 0)).setCell ⟨q2, 1, none⟩ (.slice none 0 0)).setCell ⟨q2, 2, none⟩ (.slice none 0 0)).setCell ⟨q2, 3, none⟩ (.slice none 0 0)) := ⟨_, rfl⟩
        rw [← hw8] at hfin hd
        obtain ⟨d0, d1, d2, d3⟩ := hd
        have HF := Lib.hid hfin.1
        have HFC := Lib.hid hfin.2
        clear hfin
        go_wp2_with fail
        (try simp only [Exit.inBlock, Exit.then])
        (try rw [← hw8])
        (try clear hw8 r0 r1 r2 r3 f0 f1 f2 f3)
        refine bodyPost_ret (v := .tuple #[.agg #[(.slice none 0 0), (.slice none 0 0), (.slice none 0 0), (.slice none 0 0)], .int .i64 2]) (by simp [results, Tryz.results10, go_sem, *]) rfl ?_
        rw [HNO.out]
        first | exact ⟨none, none, none, none, 0, 0, 0, 0, rfl, ColAt.none _ _, by first | exact HF.out | exact X1 HF.out⟩ | exact ⟨none, none, none, none, ⟨0, 0, 0, 0, rfl⟩, ColAt.none _ _, by first | exact HF.out | exact X1 HF.out⟩
   ·skip
    have hi : (i : Int) < cnt := (HB0.out rfl).1
    have he : e2 = 0 := (HB0.out rfl).2
    cases st2 with
    | error er => exact absurd he (by rw [HO.out.1]; exact HO.out.2)
    | ok r =>
     subst he
     have HIL := Lib.hid hi
     have hib := HI.out.b.ok
     have hfl := HI.out.b.f
     have hlb : i + 1 ≤ 1000001 := by have := HI.out.i; omega
     have hl0 : C.nodes.length + 1 ≤ 8388608 := by omega
     have hl1 : C.first.length + 1 ≤ 8388608 := by omega
     have HRN := Lib.hid (show 0 ≤ node ∧ node ≤ 1000000 from HI.out.rn)
     have HC1 := Lib.hid (HU.out w5 at2 0 (.ok r) HP.out.ext HR.out HO.out)
     obtain ⟨AT, cT, rfl⟩ := HP.out.c4.t.form
     obtain ⟨c0, c1, c2, -, -⟩ := HR.out
     clear hib hfl hi HBB HB0
     go_upto_region 8 with (fail)
     clear c0 c1 c2
     go_upto_region 9 with (go_at_call 31; ((with_reducible refine (HC1.out).mono ?_); rintro e w6 ⟨d, at5, e5, st5, rfl, hR5, hO5, hT5, hg5⟩; have HP5 := Lib.hid (HP.out.other HQ.out hg5); have HT5 := Lib.hid hT5; have HR5 := Lib.hid hR5; have HO5 := Lib.hid hO5; clear hR5 hO5 hT5 hg5 HC1))
     have HDN := Lib.hid (stU_nn HT5.out HO5.out)
     obtain ⟨bb, hbb⟩ : ∃ bb, bb = badI e5 node d := ⟨_, rfl⟩
     have HBB := Lib.hid hbb
     clear hbb
     obtain ⟨c0, c1, c2, f1, f2⟩ := HR5.out
     go_cut [41] from 27 to 101 (fun s41 wx => s41 = .bool bb ∧ Hid (Ext w6 wx))
     case first =>
      by_cases he : e5 = 0
      ·have hd0 := HDN.out he
       have hrn := HRN.out
       rw [he] at c2
       by_cases h1 : 1000000 < d
       ·have K := Lib.hid (by rw [HBB.out]; unfold badI; rw [decide_eq_true he, decide_eq_true h1]; rfl : bb = true)
        have g : decide (1000000 < d) = true := decide_eq_true h1
        clear he h1 HBB hd0 hrn
        go_wp2_with fail
        go_meet
        case rel => exact ⟨by rw [K.out], Lib.hid (by first | exact Ext.refl _ | exact (by solve_by_elim [X0, X1, X2, X3]))⟩
       ·have g : decide (1000000 < d) = false := decide_eq_false h1
        have hw : IntKind.i64.wrap (node + d) = node + d := by rw [IntKind.wrap_i64]; omega
        obtain ⟨b2, hb2⟩ : ∃ b2, b2 = idB (node + d) := ⟨_, rfl⟩
        have HID := Lib.hid (fun V => r12_id (node + d) V)
        rw [← hb2] at HID
        have K := Lib.hid (by rw [HBB.out, hb2]; unfold badI; rw [decide_eq_true he, decide_eq_false h1]; rfl : bb = !b2)
        clear he h1 HBB hb2 hrn hd0
        cases b2
        all_goals
         go_wp2_with (go_at_call 32; ((with_reducible refine (HID.out _).mono ?_); rintro e w7 ⟨rfl, hx7⟩))
         go_meet
         case rel => exact ⟨by rw [K.out]; rfl, Lib.hid (by first | exact hx7 | exact Ext.trans (a := w6) (by solve_by_elim [X0, X1, X2, X3]) hx7)⟩
      ·have K := Lib.hid (by rw [HBB.out]; unfold badI; rw [decide_eq_false he]; rfl : bb = false)
       have g : (e5 == 0) = false := beq_eq_false_iff_ne.2 he
       have g1 : decide (e5 = 0) = false := decide_eq_false he
       clear he HBB
       go_wp2_with fail
       go_meet
       case rel => exact ⟨by rw [K.out], Lib.hid (by first | exact Ext.refl _ | exact (by solve_by_elim [X0, X1, X2, X3]))⟩
     case rest =>
      obtain ⟨rfl, hx6⟩ := hcut
      obtain ⟨w7, hw7⟩ : ∃ W, W = wc := ⟨_, rfl⟩
      subst hw7
      replace HP5 := Lib.hid (HP5.out.exts hx6.out)
      replace HR5 := Lib.hid (HR5.out.ext hx6.out)
      clear c0 c1 c2 f1 f2 hx6
      obtain ⟨c0, c1, c2, f1, f2⟩ := HR5.out
      go_upto_if 41 with (fail)
      go_cut [9] from 27 to 101 (fun s9 wx => s9 = .int .i64 i ∧ ∃ (e6 : Int), Hid (PkS w w3.heap.size q2 q3 wx vN vF (.slice AT C.tos.length cT) vE vN vF (.slice AT C.tos.length cT) vE C) ∧ Hid (RdC wx qr A l.length c at5 e6) ∧ Hid (okR l at5 e6 (chkI st5 node d)))
      case first =>
       cases bb
       ·have K := Lib.hid (chkI_no HO5.out HBB.out.symm)
        clear HBB
        go_wp2_with fail
        go_meet
        case rel => exact ⟨rfl, e5, HP5, HR5, Lib.hid (by rw [K.out]; exact HO5.out)⟩
       ·have K := Lib.hid (chkI_yes HO5.out HBB.out.symm)
        have HPS := Lib.hid (HP5.out.other HQ.out (gr_set w7 qr 2 (.int .i64 1)))
        have HRS2 := Lib.hid (HR5.out.setE 1)
        clear HBB
        go_wp2_with fail
        go_meet
        case rel => exact ⟨rfl, 1, HPS, HRS2, Lib.hid (by rw [K.out]; exact ⟨rfl, by decide⟩)⟩
      case rest =>
       obtain ⟨rfl, e6, HP6, HR6, HO6⟩ := hcut
       obtain ⟨w9, hw9⟩ : ∃ W, W = wc := ⟨_, rfl⟩
       subst hw9
       have HT6 := Lib.hid (chkI_st (node := node) HDN.out HT5.out HO5.out)
       have HC3 := Lib.hid (HU.out w9 at5 e6 _ HP6.out.ext HR6.out HO6.out)
       clear HBB HP5 HR5 HDN c0 c1 c2 f1 f2 HP HR HO
       go_upto_region 12 with (go_at_call 31; ((with_reducible refine (HC3.out).mono ?_); rintro e w8 ⟨many, at7, e7, st7, rfl, hR7, hO7, hT7, hg7⟩; have HP7 := Lib.hid (HP6.out.other HQ.out hg7); have HR7 := Lib.hid hR7; have HO7 := Lib.hid hO7; have hI := inv_row HI.out HIL.out HT5.out HT6.out hT7; have HI7 := Lib.hid hI; clear hI hR7 hO7 hT7 hg7 HC3 HT5 HT6))
       clear HP6 HR6 HO6 HI
       generalize hnd : node + d = nd at *
       have HND := Lib.hid hnd
       clear hnd HO5
       obtain ⟨bb, hbb⟩ : ∃ bb, bb = (decide (e7 = 0) && decide (many = 0)) := ⟨_, rfl⟩
       have HBB := Lib.hid hbb
       have HB1 := Lib.hid (fun (h1 : e7 = 0) (h2 : many = 0) => (by rw [hbb, h1, h2]; rfl : bb = true))
       have HB2 := Lib.hid (fun (h1 : ¬ e7 = 0) => (by rw [hbb, decide_eq_false h1]; rfl : bb = false))
       have HB3 := Lib.hid (fun (h1 : ¬ many = 0) => (by rw [hbb, decide_eq_false h1, Bool.and_false] : bb = false))
       clear hbb
       obtain ⟨c0, c1, c2, f1, f2⟩ := HR7.out
       go_cut [50] from 27 to 101 (fun s50 wx => s50 = .bool bb ∧ wx = w8)
       case first =>
        by_cases he : e7 = 0
        ·rw [he] at c2
         by_cases hm : many = 0
         ·have K := Lib.hid (HB1.out he hm)
          have g : (many == 0) = true := beq_iff_eq.2 hm
          have g1 : decide (many = 0) = true := decide_eq_true hm
          clear he hm HB1 HB2 HB3
          go_wp2_with fail
          go_meet
          case rel => exact ⟨by rw [K.out], rfl⟩
         ·have K := Lib.hid (HB3.out hm)
          have g : (many == 0) = false := beq_eq_false_iff_ne.2 hm
          have g1 : decide (many = 0) = false := decide_eq_false hm
          clear he hm HB1 HB2 HB3
          go_wp2_with fail
          go_meet
          case rel => exact ⟨by rw [K.out], rfl⟩
        ·have K := Lib.hid (HB2.out he)
         have g : (e7 == 0) = false := beq_eq_false_iff_ne.2 he
         have g1 : decide (e7 = 0) = false := decide_eq_false he
         clear he HB1 HB2 HB3
         go_wp2_with fail
         go_meet
         case rel => exact ⟨by rw [K.out], rfl⟩
       case rest =>
        obtain ⟨rfl, hwx⟩ := hcut
        subst hwx
        obtain ⟨w9, hw9⟩ : ∃ W, W = wc := ⟨_, rfl⟩
        subst hw9
        clear HB1 HB2 HB3
        go_upto_if 50 with (fail)
        go_cut [9] from 27 to 101 (fun s9 wx => s9 = .int .i64 i ∧ ∃ (e8 : Int), Hid (PkS w w3.heap.size q2 q3 wx vN vF (.slice AT C.tos.length cT) vE vN vF (.slice AT C.tos.length cT) vE C) ∧ Hid (RdC wx qr A l.length c at7 e8) ∧ Hid (okR l at7 e8 (chkS st7 many)))
        case first =>
         cases bb
         ·have K := Lib.hid (chk_no HO7.out HBB.out.symm)
          clear HBB
          go_wp2_with fail
          go_meet
          case rel => exact ⟨rfl, e7, HP7, HR7, Lib.hid (by rw [K.out]; exact HO7.out)⟩
         ·have K := Lib.hid (chk_yes HO7.out HBB.out.symm)
          have HPS := Lib.hid (HP7.out.other HQ.out (gr_set w9 qr 2 (.int .i64 1)))
          have HRS2 := Lib.hid (HR7.out.setE 1)
          clear HBB
          go_wp2_with fail
          go_meet
          case rel => exact ⟨rfl, 1, HPS, HRS2, Lib.hid (by rw [K.out]; exact ⟨rfl, by decide⟩)⟩
        case rest =>
         obtain ⟨rfl, e8, HP8, HR8, HO8⟩ := hcut
         obtain ⟨w10, hw10⟩ : ∃ W, W = wc := ⟨_, rfl⟩
         subst hw10
         clear HBB HP7 HR7 HO7 c0 c1 c2 f1 f2
         obtain ⟨st8, hst8⟩ : ∃ s, s = chkS st7 many := ⟨_, rfl⟩
         rw [← hst8] at HO8 HI7
         clear hst8
         cases st8 with
         | error er =>
          have HNE := Lib.hid (by rw [HO8.out.1]; exact HO8.out.2 : e8 ≠ 0)
          have g : (e8 != 0) = true := by rw [bne_iff_ne]; exact HNE.out
          have g1 : (e8 == 0) = false := beq_eq_false_iff_ne.2 HNE.out
          have HNO := Lib.hid (by rw [HRS.out, HO8.out.1]; exact dec_err HD.out (inv_end (inv_out HI7.out (fun r hr => by cases hr)) (fun r hr => by cases hr)).1 : R = (e8, noCol))
          obtain ⟨c0, c1, c2, -, -⟩ := HR8.out
          have HM := Lib.hid (fun V (e : Ext w10 V) => e.cell c2)
          obtain ⟨r0, r1, r2, r3⟩ := HP8.out.rx
          obtain ⟨f0, f1, f2, f3⟩ := HP8.out.rz
          have hfin := HP8.out.fin HQX.out.1 HQX.out.2 (.slice none 0 0) (.slice none 0 0) (.slice none 0 0) (.slice none 0 0)
          have hd := set4 HP8.out.rx (.slice none 0 0) (.slice none 0 0) (.slice none 0 0) (.slice none 0 0)
          obtain ⟨w11, hw11⟩ : ∃ W, W = ((((w10.setCell ⟨q2, 0, none⟩ (.slice none 0 0)).setCell ⟨q2, 1, none⟩ (.slice none 0 0)).setCell ⟨q2, 2, none⟩ (.slice none 0 0)).setCell ⟨q2, 3, none⟩ (.slice none 0 0)) := ⟨_, rfl⟩
          rw [← hw11] at hfin hd
          obtain ⟨d0, d1, d2, d3⟩ := hd
          have HF := Lib.hid hfin.1
          have HFC := Lib.hid hfin.2
          clear hfin
          have HM8 := Lib.hid (fun V (e : Ext w11 V) => e.cell (by rw [hw11]; exact (HR8.out.grown ((((gr_set _ _ _ _).trans (gr_set _ _ _ _)).trans (gr_set _ _ _ _)).trans (gr_set _ _ _ _)) (fun e => HQ.out.2.2.1 (Option.some.inj e))).c2 : w11.cell? ⟨qr, 2, none⟩ = some (.int .i64 e8)))
          clear HFC HP8 HR8
          go_upto_region 15 with (fail)
          refine AnyT.start (S := (fun V => V.cell? ⟨qr, 2, none⟩ = some (.int .i64 e8))) (T := (fun V => V.cell? ⟨qr, 2, none⟩ = some (.int .i64 e8))) (E := 3) (by kernel_rfl) ?hs76007 (fun hHeld => ?go76007)
          case hs76007 => exact ⟨by (exact HM.out _ (by solve_by_elim [X0, X1, X2, X3])), by (first | exact HM.out _ (by solve_by_elim [X0, X1, X2, X3]) | exact HM8.out _ (by solve_by_elim [X0, X1, X2, X3]))⟩
          refine TB 0 (v := ?v76008) ⟨fun _ => hHeld.1, hHeld.2⟩ ?hy76008 ?_
          case hy76008 => (intro w hSw; (try dsimp only at hSw); go_simp <;> first | with_reducible rfl | rw [if_neg (by omega)] | rw [if_pos (by omega)])
          (try simp only [PU])
          refine TB 1 (v := ?v76009) ⟨fun _ => hHeld.1, hHeld.2⟩ ?hy76009 ?_
          case hy76009 => (intro w hSw; (try dsimp only at hSw); go_simp <;> first | with_reducible rfl | rw [if_neg (by omega)] | rw [if_pos (by omega)])
          (try simp only [PU])
          refine TB 2 (v := ?v76010) ⟨fun _ => hHeld.1, hHeld.2⟩ ?hy76010 ?_
          case hy76010 => (intro w hSw; (try dsimp only at hSw); go_simp <;> first | with_reducible rfl | rw [if_neg (by omega)] | rw [if_pos (by omega)])
          (try simp only [PU])
          refine AnyT.ready (rs := [3]) (by kernel_rfl) (by simp) ?_
          refine AllT.cons (o := ⟨_, _, _, _, _, _⟩) rfl (fun K hK => ?step76011x0) ?more76011x0
          case more76011x0 => exact AllT.nil
          go_simp
          (rw [← hw11]; clear hw11 r0 r1 r2 r3 f0 f1 f2 f3)
          refine hK.out _ _ ?hS76011x0 (fun H76011 => ?_)
          case hS76011x0 => exact ⟨fun h => (by first | exact absurd h (by decide) | simp at h), by (first | exact HM.out _ (by solve_by_elim [X0, X1, X2, X3]) | exact HM8.out _ (by solve_by_elim [X0, X1, X2, X3]))⟩
          clear hK K
          clear hHeld
          refine TB 4 (v := ?v76012) H76011 ?hy76012 ?_
          case hy76012 => (intro w hSw; (try dsimp only at hSw); go_simp <;> first | with_reducible rfl | rw [if_neg (by omega)] | rw [if_pos (by omega)])
          (try simp only [PU])
          refine AnyT.done (by kernel_rfl) ?_ _
          clear H76011
          go_wp2_with fail
          (try simp only [Exit.inBlock, Exit.then])
          (try rw [← hw11])
          (try clear hw11 r0 r1 r2 r3 f0 f1 f2 f3)
          refine bodyPost_ret (v := .tuple #[.agg #[(.slice none 0 0), (.slice none 0 0), (.slice none 0 0), (.slice none 0 0)], .int .i64 e8]) (by simp [results, Tryz.results10, go_sem, *]) rfl ?_
          rw [HNO.out]
          first | exact ⟨none, none, none, none, 0, 0, 0, 0, rfl, ColAt.none _ _, by first | exact HF.out | exact X1 HF.out⟩ | exact ⟨none, none, none, none, ⟨0, 0, 0, 0, rfl⟩, ColAt.none _ _, by first | exact HF.out | exact X1 HF.out⟩
         | ok r8 =>
          have he8 : e8 = 0 := HO8.out.1
          subst he8
          have hnw : IntKind.i64.wrap (node + d) = nd := by have h := HND.out; have h2 := HI7.out.rn; have h3 : 0 ≤ nd ∧ nd ≤ 1000000 := h2; rw [IntKind.wrap_i64]; omega
          obtain ⟨C2, hC2⟩ : ∃ C2, C2 = ({ { C with nodes := C.nodes ++ [nd] } with first := C.first ++ [(C.tos.length : Int)] } : Col) := ⟨_, rfl⟩
          rw [← hC2] at HI7
          have HC2E := Lib.hid hC2
          clear hC2
          have HYN := Lib.hid (show some qr ≠ vN.ownBlock from fun e => by have h1 := (OwnG.lt HP8.out.c4.n e.symm).1; have h2 := HQ.out.2.1; omega)
          have HYF := Lib.hid (show some qr ≠ vF.ownBlock from fun e => by have h1 := (OwnG.lt HP8.out.c4.f e.symm).1; have h2 := HQ.out.2.1; omega)
          have HYQ := Lib.hid (show some qr ≠ some q3 from fun e => HQ.out.2.2.2 (Option.some.inj e))
          obtain ⟨c0, c1, c2, -, -⟩ := HR8.out
          obtain ⟨z0, z1, z2, z3⟩ := HP8.out.bx
          go_upto_region 17 with (fail)
          (try rw [hnw])
          clear hnw c0 c1 c2 HRN
          go_upto_region 18 with (at_builtin; go_loud (refine own_pushG (v := vN) (hs := C.nodes) T_ki rfl (.tmp 62) (.tmp 64) rfl w10 rfl HP8.out.c4.n HP8.out.le nd trivial rfl _ rfl rfl hl0 (by decide) ?_); intro v11 w11 hO hg hd; obtain ⟨A11, n11, c11, rfl⟩ := own_fm hO; have hP := HP8.out.pushN hO hg (Nat.le_succ _) hd; have zq11 := hP.bx.1; have zf11 := hP.fz.1; have HP11 := Lib.hid (hP.put0 (.slice A11 n11 c11)); have HR11 := Lib.hid ((HR8.out.grown hg HYN.out).grown (gr_set w11 q3 0 (.slice A11 n11 c11)) HYQ.out); clear hP hO hg hd)
          obtain ⟨w12, hw12⟩ : ∃ W, W = w11.setCell ⟨q3, 0, none⟩ (.slice A11 n11 c11) := ⟨_, rfl⟩
          rw [← hw12] at HP11 HR11
          (try rw [← hw12])
          clear hw12 z0 z1 z2 z3 zq11 zf11 HP8 HR8
          obtain ⟨z0, z1, z2, z3⟩ := HP11.out.bx
          go_wp2_with (at_builtin; go_loud (refine own_pushG (v := vF) (hs := C.first) T_ki rfl (.tmp 68) (.tmp 72) rfl w12 rfl HP11.out.c4.f HP11.out.le (C.tos.length : Int) trivial rfl _ rfl rfl hl1 (by decide) ?_); intro v13 w13 hO hg hd; obtain ⟨A13, n13, c13, rfl⟩ := own_fm hO; have hP := HP11.out.pushF hO hg (Nat.le_succ _) hd; have zq13 := hP.bx.2.1; have zf13 := hP.fz.2.1; have HP13 := Lib.hid (hP.put1 (.slice A13 n13 c13)); have HR13 := Lib.hid ((HR11.out.grown hg HYF.out).grown (gr_set w13 q3 1 (.slice A13 n13 c13)) HYQ.out); clear hP hO hg hd)
          obtain ⟨w14, hw14⟩ : ∃ W, W = w13.setCell ⟨q3, 1, none⟩ (.slice A13 n13 c13) := ⟨_, rfl⟩
          rw [← hw14] at HP13 HR13
          (try rw [← hw14])
          clear hw14 z0 z1 z2 z3 zq13 zf13 HP11 HR11 HYN HYF HYQ
          go_loopw [8, 12, 13] (fun u8 u11 u12 W => ∃ (k : Nat) (tv ed : Int) (at_ e0 : Int) (vN vF vT vE : Value) (C : Col) (st : Except Int (List Nat)), u8 = .int .i64 ed ∧ u11 = .int .i64 tv ∧ u12 = .int .i64 k ∧ Hid (PkS w w3.heap.size q2 q3 W vN vF vT vE vN vF vT vE C) ∧ Hid (RdC W qr A l.length c at_ e0) ∧ Hid (okR l at_ e0 st) ∧ Hid (InvI l.length (cnt.toNat - (i + 1)) X (i + 1) nd many k tv ed C st)) (fun _ _ u12 _ => many.toNat - (intOf u12).toNat)
          case atStart => exact ⟨0, nd, edge, at7, 0, _, _, _, _, C2, .ok r8, rfl, rfl, rfl, Lib.hid (by rw [HC2E.out]; exact HP13.out), HR13, HO8, HI7⟩
          case round =>
           clear HP13 HR13 HO8 HI7 HC2E hl0 hl1
           obtain ⟨k, tv, ed, at2, e2, vN, vF, vT, vE, D, st2, rfl, rfl, rfl, HP, HR, HO, HI⟩ := hrel
           by_cases hj : (k : Int) < many
           ·cases st2 with
            | error er =>
             have g : decide ((k : Int) < many) = true := decide_eq_true hj
             have g2 : (e2 == 0) = false := by rw [beq_eq_false_iff_ne, HO.out.1]; exact HO.out.2
             have g3 : decide (e2 = 0) = false := decide_eq_false (by rw [HO.out.1]; exact HO.out.2)
             have HE := Lib.hid (inv_out HI.out (fun r hr => by cases hr))
             obtain ⟨c0, c1, c2, -, -⟩ := HR.out
             clear HI
             go_wp2_with fail
             skip
             go_roundw
             case rel => exact ⟨i + 1, nd, ed, at2, e2, vN, vF, vT, vE, D, _, rfl, rfl, by go_num, HP, HR, HO, HE⟩
             case measure => have h9 := HIL.out; simp [intOf]; omega
            | ok r =>
             have he : e2 = 0 := HO.out.1
             subst he
             have HIL := Lib.hid hj
             have hib := HI.out.b.ok
             have hkb : k + 1 ≤ 1000001 := by have := HI.out.k; omega
             have hl0 : D.tos.length + 1 ≤ 8388608 := by omega
             have hl1 : D.edges.length + 1 ≤ 8388608 := by have := HI.out.b.e; omega
             have HRT := Lib.hid (show 0 ≤ tv ∧ tv ≤ 1000000 from HI.out.rt)
             have HRE := Lib.hid (show 0 ≤ ed ∧ ed ≤ 1000000 from HI.out.re)
             have HC1 := Lib.hid (HN.out wr at2 0 tv (.ok r) HP.out.ext HR.out HO.out (fun _ => HRT.out))
             have g : decide ((k : Int) < many) = true := decide_eq_true hj
             obtain ⟨c0, c1, c2, -, -⟩ := HR.out
             clear hib
             go_upto_region 23 with (fail)
             clear g c0 c1 c2
             go_upto_region 25 with (first | (go_at_call 33; ((with_reducible refine (HC1.out).mono ?_); rintro e w5 ⟨x1, at5, e5, st5, rfl, hR5, hO5, hT5, hg5⟩; have HP5 := Lib.hid (HP.out.other HQ.out hg5); have HT5 := Lib.hid hT5; have HC2 := Lib.hid (HN.out w5 at5 e5 ed st5 HP5.out.ext hR5 hO5 (fun _ => HRE.out)); clear hR5 hO5 hT5 hg5 HC1)) | (go_at_call 33; ((with_reducible refine (HC2.out).mono ?_); rintro e w6 ⟨x2, at6, e6, st6, rfl, hR6, hO6, hT6, hg6⟩; have HP6 := Lib.hid (HP5.out.other HQ.out hg6); have HR6 := Lib.hid hR6; have HO6 := Lib.hid hO6; have hI := inv_ent HI.out HIL.out HT5.out hT6; obtain ⟨C3, hC3⟩ : ∃ C3, C3 = ({ { D with tos := D.tos ++ [x1] } with edges := D.edges ++ [x2] } : Col) := ⟨_, rfl⟩; rw [← hC3] at hI; have HI3 := Lib.hid hI; have HC3E := Lib.hid hC3; clear hI hC3 hR6 hO6 hT6 hg6 HC2 HP5 HT5)))
             have HYT := Lib.hid (show some qr ≠ vT.ownBlock from fun e => by have h1 := (OwnG.lt HP6.out.c4.t e.symm).1; have h2 := HQ.out.2.1; omega)
             have HYE := Lib.hid (show some qr ≠ vE.ownBlock from fun e => by have h1 := (OwnG.lt HP6.out.c4.e e.symm).1; have h2 := HQ.out.2.1; omega)
             have HYQ := Lib.hid (show some qr ≠ some q3 from fun e => HQ.out.2.2.2 (Option.some.inj e))
             obtain ⟨z0, z1, z2, z3⟩ := HP6.out.bx
             go_upto_region 26 with (at_builtin; go_loud (refine own_pushG (v := vT) (hs := D.tos) T_ki rfl (.tmp 91) (.tmp 93) rfl w6 rfl HP6.out.c4.t HP6.out.le x1 trivial rfl _ rfl rfl hl0 (by decide) ?_); intro v7 w7 hO hg hd; obtain ⟨A7, n7, c7, rfl⟩ := own_fm hO; have hP := HP6.out.pushT hO hg (Nat.le_succ _) hd; have zq7 := hP.bx.2.2.1; have zf7 := hP.fz.2.2.1; have HP7 := Lib.hid (hP.put2 (.slice A7 n7 c7)); have HR7 := Lib.hid ((HR6.out.grown hg HYT.out).grown (gr_set w7 q3 2 (.slice A7 n7 c7)) HYQ.out); clear hP hO hg hd)
             obtain ⟨w8, hw8⟩ : ∃ W, W = w7.setCell ⟨q3, 2, none⟩ (.slice A7 n7 c7) := ⟨_, rfl⟩
             rw [← hw8] at HP7 HR7
             (try rw [← hw8])
             clear hw8 z0 z1 z2 z3 zq7 zf7 HP6 HR6
             obtain ⟨z0, z1, z2, z3⟩ := HP7.out.bx
             go_wp2_with (at_builtin; go_loud (refine own_pushG (v := vE) (hs := D.edges) T_ki rfl (.tmp 97) (.tmp 99) rfl w8 rfl HP7.out.c4.e HP7.out.le x2 trivial rfl _ rfl rfl hl1 (by decide) ?_); intro v9 w9 hO hg hd; obtain ⟨A9, n9, c9, rfl⟩ := own_fm hO; have hP := HP7.out.pushE hO hg (Nat.le_succ _) hd; have zq9 := hP.bx.2.2.2; have zf9 := hP.fz.2.2.2; have HP9 := Lib.hid (hP.put3 (.slice A9 n9 c9)); have HR9 := Lib.hid ((HR7.out.grown hg HYE.out).grown (gr_set w9 q3 3 (.slice A9 n9 c9)) HYQ.out); clear hP hO hg hd)
             go_wp2_with fail
             go_roundw
             case rel => exact ⟨k + 1, x1, x2, at6, e6, _, _, _, _, C3, st6, rfl, rfl, by go_num, Lib.hid (by rw [HC3E.out]; exact HP9.out), HR9, HO6, HI3⟩
             case measure => simp [intOf]; omega
           ·have HB := hj
            have g : decide ((k : Int) < many) = false := decide_eq_false hj
            have HE := Lib.hid (inv_out HI.out (fun _ _ => hj))
            obtain ⟨c0, c1, c2, -, -⟩ := HR.out
            clear HI
            go_wp2_with fail
            skip
            go_roundw
            case rel => exact ⟨i + 1, nd, ed, at2, e2, vN, vF, vT, vE, D, _, rfl, rfl, by go_num, HP, HR, HO, HE⟩
            case measure => have h9 := HIL.out; simp [intOf]; omega
end Go.Proofs.YtnheioehadldmaaGreat

/- THE WALKS over the reference's varint, PutUint, PutInt. -/
namespace Go.Proofs.YtnheioehadldmaaGreat
open Go.RowKit
theorem wrapB (n : Nat) : IntKind.u8.wrap ((n : Int) % 128 + 128) = ((n % 128 + 128 : Nat) : Int) := by rw [IntKind.wrap_u8]; omega
set_option maxRecDepth 100000 in
set_option maxHeartbeats 1600000 in
theorem r5_varint (u : Nat) (hu : u < 18446744073709551616) (w : World) :
  Calls Tryz.prog 67 #[.int .u64 (u : Int)] w fun e w' => ∃ v, e = .returned v ∧ OB w' w.heap.size v (vi u) ∧ Ext w w' := by
 have HL := Lib.hid (vi_len10 hu)
 obtain ⟨R, hR⟩ : ∃ R, R = vi u := ⟨_, rfl⟩
 rw [← hR] at HL ⊢
 have HR := Lib.hid hR
 clear hR
 go_enter Tryz.func67, Tryz.ntmps67
 go_wp2_with fail
 go_loopw [0, 3] (fun u1 v0 W => ∃ (vO : Value) (n : Nat) (acc : List Nat), vO = v0 ∧ u1 = .int .u64 (n : Int) ∧ n < 18446744073709551616 ∧ Hid (OB W w.heap.size vO acc) ∧ Hid (acc ++ vi n = R) ∧ Hid (Ext w W)) (fun u1 _ _ => (intOf u1).toNat)
 case atStart => exact ⟨_, u, [], rfl, rfl, hu, Lib.hid (OwnG.nil _ _ _ _ _), Lib.hid HR.out.symm, Lib.hid (Ext.refl _)⟩
 case round =>
  obtain ⟨vO, n, acc, rfl, rfl, hn, HO, HM, hE⟩ := hrel
  have hm8 : acc.length + 1 ≤ 8388608 := by have h1 := congrArg List.length HM.out; rw [List.length_append] at h1; have h2 := HL.out; have h3 := List.length_pos_iff.2 (vi_ne n); omega
  by_cases hge : 128 ≤ n
  ·have HM2 := Lib.hid (by have h := HM.out; rw [vi_big hge] at h; rw [List.append_assoc]; exact h : (acc ++ [n % 128 + 128]) ++ vi (n / 128) = R)
   clear HM
   go_upto_region 4 with (at_builtin; go_loud (refine own_pushG (v := vO) (hs := acc) T_kb rfl (.tmp 6) (.tmp 11) rfl wr rfl HO.out hE.out.le (n % 128 + 128 : Nat) trivial (by first | rfl | (rw [wrapB n]; rfl) | (rw [← wrapB n]; rfl)) _ rfl rfl hm8 (by decide) ?_); intro v6 w6 hO6 hg6 hd6)
   have hE6 : Ext w w6 := hE.out.grown hg6 (fun b e => (OwnG.lt HO.out e).1)
   have HO6 := Lib.hid hO6
   have HE6 := Lib.hid hE6
   clear hO6 hg6 hd6 hE6
   go_wp2_with fail
   go_roundw
   case rel => exact ⟨_, n / 128, _, rfl, by go_num, by omega, HO6, HM2, HE6⟩
   case measure => simp [intOf]; omega
  ·have HM2 := Lib.hid (by have h := HM.out; rw [vi_small (by omega)] at h; exact h : acc ++ [n] = R)
   clear HM
   go_wp2_with (at_builtin; go_loud (refine own_pushG (v := vO) (hs := acc) T_kb rfl (.tmp 15) (.tmp 18) rfl wr rfl HO.out hE.out.le (n : Nat) trivial rfl _ rfl rfl hm8 (by decide) ?_); intro v6 w6 hO6 hg6 hd6)
   rw [HM2.out] at hO6
   have hE6 : Ext w w6 := hE.out.grown hg6 (fun b e => (OwnG.lt HO.out e).1)
   go_ret
   exact ⟨v6, rfl, hO6, hE6⟩
set_option maxRecDepth 100000 in
theorem r5_PutUint (m : Nat) (hm : m ≤ 9223372036854775807) (w : World) :
  Calls Tryz.prog 37 #[.int .i64 (m : Int)] w fun e w' => ∃ v, e = .returned v ∧ OB w' w.heap.size v (vi m) ∧ Ext w w' := by
 have HV := Lib.hid (r5_varint m (by omega) w)
 have w1 : IntKind.u64.wrap (m : Int) = (m : Int) := by rw [IntKind.wrap_u64]; omega
 have w2 : (m : Int) % 18446744073709551616 = (m : Int) := by omega
 have g : decide ((m : Int) < 0) = false := decide_eq_false (by omega)
 go_enter Tryz.func37, Tryz.ntmps37
 go_wp2_with (go_at_call 67; ((with_reducible refine (HV.out).mono ?_); rintro e w2 ⟨v, rfl, hO, hx⟩))
 go_ret
 exact ⟨v, rfl, hO, hx⟩
set_option maxRecDepth 100000 in
theorem r5_PutInt (n : Int) (hn : -9223372036854775808 ≤ n ∧ n ≤ 9223372036854775807) (w : World) :
  Calls Tryz.prog 38 #[.int .i64 n] w fun e w' => ∃ v, e = .returned v ∧ OB w' w.heap.size v (vi (zig n)) ∧ Ext w w' := by
 have HV := Lib.hid (r5_varint (zig n) (zig_lt hn) w)
 by_cases h : n < 0
 ·have e0 : IntKind.i64.wrap (n + 1) = n + 1 := by rw [IntKind.wrap_i64]; omega
  have e1 : IntKind.i64.wrap (-(n + 1)) = -(n + 1) := by rw [IntKind.wrap_i64]; omega
  have e2 : IntKind.u64.wrap (-(n + 1)) = -(n + 1) := by rw [IntKind.wrap_u64]; omega
  have e3 : IntKind.u64.wrap (2 * -(n + 1)) = 2 * -(n + 1) := by rw [IntKind.wrap_u64]; omega
  have e4 : ((zig n : Nat) : Int) = 2 * -(n + 1) + 1 := by unfold zig; rw [if_pos h]; omega
  have e5 : IntKind.u64.wrap (2 * -(n + 1) + 1) = 2 * -(n + 1) + 1 := by rw [IntKind.wrap_u64]; omega
  rw [e4] at HV
  go_enter Tryz.func38, Tryz.ntmps38
  go_wp2_with (go_at_call 67; ((with_reducible refine (HV.out).mono ?_); rintro e w2 ⟨v, rfl, hO, hx⟩))
  go_ret
  exact ⟨v, rfl, hO, hx⟩
 ·have e1 : ((zig n : Nat) : Int) = 2 * n := by unfold zig; rw [if_neg h]; omega
  rw [e1] at HV
  go_enter Tryz.func38, Tryz.ntmps38
  go_wp2_with (go_at_call 67; ((with_reducible refine (HV.out).mono ?_); rintro e w2 ⟨v, rfl, hO, hx⟩))
  go_ret
  exact ⟨v, rfl, hO, hx⟩
end Go.Proofs.YtnheioehadldmaaGreat

/- THE WALK over the reference's Encode. -/
namespace Go.Proofs.YtnheioehadldmaaGreat
open Go.RowKit
set_option maxRecDepth 100000 in
set_option maxHeartbeats 6400000 in
theorem r12_Encode (c : Col) (ok : Nat → Prop) (A B Cx D : Option Addr) (k0 k1 k2 k3 : Nat) (w : World) (hv : ColAt w ok A B Cx D c) (hm : c.tos.length ≤ 100000 ∧ c.nodes.length ≤ 100000) :
  Calls Tryz.prog 13 #[agC c A B Cx D k0 k1 k2 k3] w fun e w' => ∃ A' c', e = .returned (.slice A' (encR c).length c') ∧ (encR c).length ≤ c' ∧ Byts w' (fun b => w.heap.size ≤ b) A' (encR c) ∧ Ext w w' := by
 obtain ⟨q, w1, hq, hw1, ⟨a0, a1, a2, a3⟩, hx⟩ := box_col w c A B Cx D k0 k1 k2 k3 29
 have HW := Lib.hid hw1
 have HQ := Lib.hid hq
 have HX := Lib.hid hx
 have HBS := Lib.hid hx.le
 have hnl := hv.n.len
 have HV := Lib.hid (hv.ext hx)
 have HVA := Lib.hid (r12_Valid c ok A B Cx D k0 k1 k2 k3 w1 (hv.ext hx) (by omega))
 obtain ⟨R, hR⟩ : ∃ R, R = encR c := ⟨_, rfl⟩
 rw [← hR]
 have HR1 := Lib.hid (fun (h : colB c = true) => (by rw [hR]; unfold encR; rw [if_pos h] : R = encC c))
 have HR0 := Lib.hid (fun (h : colB c = false) => (by rw [hR]; unfold encR; rw [if_neg (by rw [h]; exact Bool.false_ne_true)] : R = []))
 have HVP := Lib.hid (fun (h : colB c = true) => colB_iff.1 h)
 clear hw1 hq hv hx hR
 unfold agC at HVA ⊢
 go_enter Tryz.func13, Tryz.ntmps13
 go_upto_region 1 with (fail)
 rw [← HW.out, ← HQ.out]
 clear HW HQ
 cases hb : colB c
 ·rw [hb] at HVA
  have e := HR0.out hb
  subst e
  clear hb HR0 HR1 HVP
  go_wp2_with (go_at_call 34; ((with_reducible refine (HVA.out).mono ?_); rintro e w2 ⟨rfl, hx2⟩))
  go_ret
  exact ⟨none, 0, rfl, Nat.le_refl _, SliceR.nil _ _ _, HX.out.trans hx2⟩
 ·rw [hb] at HVA
  have HR := Lib.hid (HR1.out hb)
  have hV := HVP.out hb
  clear hb HR0 HR1 HVP
  have HPC := Lib.hid (fun W => r5_PutUint c.nodes.length (by omega) W)
  by_cases hn0 : c.nodes.length = 0
  ·have hz : R = vi 0 := by
    rw [HR.out]; unfold encC; rw [hn0]; unfold rowsB; rw [List.range_zero, List.flatMap_nil, List.append_nil]
   subst hz
   clear HV HR hV hm HPC
   have HPC : Hid (∀ W, Calls Tryz.prog 37 #[.int .i64 0] W fun e w' => ∃ v, e = .returned v ∧ OB w' W.heap.size v (vi 0) ∧ Ext W w') := Lib.hid (fun W => r5_PutUint 0 (by omega) W)
   generalize c.nodes.length = nl at *
   subst hn0
   go_upto_region 4 with (first | (go_at_call 34; ((with_reducible refine (HVA.out).mono ?_); rintro e w2 ⟨rfl, hx2⟩; replace a0 := hx2.cell a0; replace a1 := hx2.cell a1; replace a2 := hx2.cell a2; replace a3 := hx2.cell a3; clear HVA)) | (go_at_call 37; (go_loud (with_reducible refine (HPC.out _).mono ?_); rintro e w3 ⟨v3, rfl, hO3, hx3⟩; replace a0 := hx3.cell a0; have HO3 := Lib.hid hO3; clear HPC hO3)))
   go_wp2_with fail
   go_loopw [3, 6] (fun u3 u W => ∃ (_ : Nat), u3 = v3 ∧ u = .int .i64 0 ∧ Hid (Ext w3 W)) (fun _ _ _ => 0)
   case atStart => exact ⟨0, rfl, rfl, Lib.hid (by solve_by_elim [X0, X1, X2, X3])⟩
   case round =>
    obtain ⟨-, rfl, rfl, hE⟩ := hrel
    replace a0 := hE.out.cell a0
    obtain ⟨A3, c3, rfl, hle, hB⟩ := OB.byts (OwnG.ext HO3.out hE.out) (by have := vi_len10 (u := 0) (by decide); omega)
    go_wp2_with fail
    go_ret
    exact ⟨A3, c3, rfl, hle, SliceR.mono hB (fun _ _ _ _ hx => ⟨Nat.le_trans HBS.out (Nat.le_trans hx2.le hx.1), hx.2⟩), ((HX.out.trans hx2).trans hx3).trans hE.out⟩
  ·have hS : ShapeC c := by
    rcases hV with ⟨h1, -⟩ | ⟨h1, -⟩
    ·exact absurd (by rw [h1]; rfl) hn0
    ·exact h1
   have hfl : c.nodes.length + 1 ≤ c.first.length := by have := hS.len; omega
   have hel : c.tos.length ≤ c.edges.length := by have := hS.same; omega
   have hlast := hS.lt (i := 0) (j := c.nodes.length) (by omega) (Nat.le_refl _)
   rw [hS.zero, hS.last] at hlast
   obtain ⟨bn, on, rfl, hcn⟩ := HV.out.n.2 (by omega)
   obtain ⟨bf, of, rfl, hcf⟩ := HV.out.f.2 (by omega)
   obtain ⟨bt, ot, rfl, hct⟩ := HV.out.t.2 (by omega)
   obtain ⟨be, oe, rfl, hce⟩ := HV.out.e.2 (by omega)
   have HN := Lib.hid (fun t (ht : t < c.nodes.length) W (e : Ext w1 W) => (by have h := (hcn t ht).2; rw [Nat.mul_one, ← getElem!_pos _ t ht] at h; exact e.cell h : W.cell? ⟨bn, on + t, none⟩ = some (.int .i64 c.nodes[t]!)))
   have HF := Lib.hid (fun t (ht : t < c.first.length) W (e : Ext w1 W) => (by have h := (hcf t ht).2; rw [Nat.mul_one, ← getElem!_pos _ t ht] at h; exact e.cell h : W.cell? ⟨bf, of + t, none⟩ = some (.int .i64 c.first[t]!)))
   have HT := Lib.hid (fun t (ht : t < c.tos.length) W (e : Ext w1 W) => (by have h := (hct t ht).2; rw [Nat.mul_one, ← getElem!_pos _ t ht] at h; exact e.cell h : W.cell? ⟨bt, ot + t, none⟩ = some (.int .i64 c.tos[t]!)))
   have HEE := Lib.hid (fun t (ht : t < c.edges.length) W (e : Ext w1 W) => (by have h := (hce t ht).2; rw [Nat.mul_one, ← getElem!_pos _ t ht] at h; exact e.cell h : W.cell? ⟨be, oe + t, none⟩ = some (.int .i64 c.edges[t]!)))
   have MKQ := Lib.hid (fun V (e : Ext w1 V) => (⟨e.cell a0, e.cell a1, e.cell a2, e.cell a3⟩ : (V.cell? ⟨q, 0, none⟩ = some (.slice (some ⟨bn, on, none⟩) c.nodes.length k0) ∧ V.cell? ⟨q, 1, none⟩ = some (.slice (some ⟨bf, of, none⟩) c.first.length k1) ∧ V.cell? ⟨q, 2, none⟩ = some (.slice (some ⟨bt, ot, none⟩) c.tos.length k2) ∧ V.cell? ⟨q, 3, none⟩ = some (.slice (some ⟨be, oe, none⟩) c.edges.length k3))))
   have HS := Lib.hid hS
   have HVV := Lib.hid hV
   have HZ := Lib.hid (by unfold prevN; rw [if_pos rfl] : (0 : Int) = prevN c 0)
   have HZE := Lib.hid (by rw [hS.zero]; rfl : (0 : Int) = prevE c c.first[0]!.toNat)
   clear hcn hcf hct hce HV hn0 hlast hS hV
   go_upto_region 4 with (first | (go_at_call 34; ((with_reducible refine (HVA.out).mono ?_); rintro e w2 ⟨rfl, hx2⟩; replace a0 := hx2.cell a0; replace a1 := hx2.cell a1; replace a2 := hx2.cell a2; replace a3 := hx2.cell a3; clear HVA)) | (go_at_call 37; ((with_reducible refine (HPC.out _).mono ?_); rintro e w3 ⟨v3, rfl, hO3, hx3⟩; replace a0 := hx3.cell a0; clear HPC)))
   have HO0 := Lib.hid (by rw [show rowsB c 0 = [] from rfl, List.append_nil]; exact OwnG.mono hO3 hx2.le : OB w3 w1.heap.size v3 (vi c.nodes.length ++ rowsB c 0))
   have HE0 := Lib.hid (hx2.trans hx3)
   clear hO3 hx2 hx3
   go_wp2_with fail
   go_loopw [3, 4, 5, 6] (fun u3 u4 u5 u W => ∃ (vO : Value) (i : Nat) (pn pe : Int), vO = u3 ∧ u4 = .int .i64 pn ∧ u5 = .int .i64 pe ∧ u = .int .i64 i ∧ i ≤ c.nodes.length ∧ Hid (pn = prevN c i) ∧ Hid (pe = prevE c c.first[i]!.toNat) ∧ Hid (OB W w1.heap.size vO (vi c.nodes.length ++ rowsB c i)) ∧ Hid (Ext w1 W)) (fun _ _ _ u _ => c.nodes.length - (intOf u).toNat)
   case atStart => exact ⟨_, 0, 0, 0, rfl, rfl, rfl, rfl, Nat.zero_le _, HZ, HZE, HO0, HE0⟩
   case round =>
    clear HO0 HE0 HZ HZE a0 a1 a2 a3
    obtain ⟨vO, i, pn, pe, rfl, rfl, rfl, rfl, hi, HPN0, HPE0, HO, hE⟩ := hrel
    obtain ⟨a0, a1, a2, a3⟩ := MKQ.out wr hE.out
    by_cases hlt : i < c.nodes.length
    ·obtain ⟨nv, hnv⟩ : ∃ nv, nv = c.nodes[i]! := ⟨_, rfl⟩
     have n0 := HN.out i hlt wr hE.out
     rw [← hnv] at n0
     have f0 := HF.out i (by omega) wr hE.out
     have hi1 : i + 1 < c.first.length := by omega
     have hi0 : i < c.first.length := by omega
     obtain ⟨x, hx⟩ : ∃ x : Nat, x = c.first[i]!.toNat := ⟨_, rfl⟩
     obtain ⟨y, hy⟩ : ∃ y : Nat, y = c.first[i + 1]!.toNat := ⟨_, rfl⟩
     have ex : c.first[i]! = (x : Int) := by have := HS.out.nn (i := i) (by omega); omega
     have ey : c.first[i + 1]! = (y : Int) := by have := HS.out.nn (i := i + 1) (by omega); omega
     have hxy : x ≤ y := by have := HS.out.rise i hlt; omega
     have hyt : y ≤ c.tos.length := by have := HS.out.le (i := i + 1) (by omega); omega
     have hnb := nb_node HVV.out hlt
     obtain ⟨dn, hdn⟩ : ∃ dn : Nat, dn = (c.nodes[i]! - prevN c i).toNat := ⟨_, rfl⟩
     obtain ⟨dm, hdm⟩ : ∃ dm : Nat, dm = y - x := ⟨_, rfl⟩
     have hdl : dn ≤ 1000000 := by omega
     have hml : dm ≤ 1000000 := by omega
     have wi : IntKind.i64.wrap ((i : Int) + 1) = ((i + 1 : Nat) : Int) := by rw [IntKind.wrap_i64]; omega
     have wd : IntKind.i64.wrap (nv - pn) = (dn : Int) := by rw [IntKind.wrap_i64, HPN0.out, hnv]; omega
     have wm : IntKind.i64.wrap ((y : Int) - (x : Int)) = (dm : Int) := by rw [IntKind.wrap_i64]; omega
     have HPN := Lib.hid (fun W => r5_PutUint dn (by omega) W)
     have HPF := Lib.hid (fun W => r5_PutUint dm (by omega) W)
     have HHD := Lib.hid (by unfold hdB; rw [← hdn, ← hx, ← hy, ← hdm] : hdB c i = vi dn ++ vi dm)
     have hln := vi_len10 (u := c.nodes.length) (by omega)
     have hld := vi_len10 (u := dn) (by omega)
     have hlm := vi_len10 (u := dm) (by omega)
     have hrl := rowsB_len HVV.out HS.out (by omega) hi
     rw [← hx] at hrl
     have hl1 : (vi c.nodes.length ++ rowsB c i).length + (vi dn).length ≤ 8388608 := by rw [List.length_append]; omega
     have hl2 : ((vi c.nodes.length ++ rowsB c i) ++ vi dn).length + (vi dm).length ≤ 8388608 := by rw [List.length_append, List.length_append]; omega
     have hl3 : ((vi c.nodes.length ++ rowsB c i) ++ hdB c i).length ≤ 4000100 := by rw [HHD.out, List.length_append, List.length_append, List.length_append]; omega
     have HFI := Lib.hid (fun W (e : Ext w1 W) => (by have h := HF.out i hi0 W e; rw [ex] at h; exact h : W.cell? ⟨bf, of + i, none⟩ = some (.int .i64 (x : Int))))
     have HFN := Lib.hid (fun W (e : Ext w1 W) => (by have h := HF.out (i + 1) hi1 W e; rw [ey] at h; exact h : W.cell? ⟨bf, of + (i + 1), none⟩ = some (.int .i64 (y : Int))))
     have HRS := Lib.hid (rows_succB c i)
     have HRB := Lib.hid (show rowB c i = hdB c i ++ entsB c i y by unfold rowB; rw [hy])
     have HE0S := Lib.hid (by rw [hx]; exact ents_start c i : entsB c i x = [])
     have HES := Lib.hid (fun k (hk : x ≤ k) => ents_snoc (c := c) (i := i) (k := k) (by omega))
     have HEL := Lib.hid (fun k (hk : x ≤ k) (hk2 : k ≤ y) => (by have h := entsB_len HVV.out hlt (k - x) (by omega); rw [← hx, show x + (k - x) = k by omega] at h; omega : (entsB c i k).length ≤ 20 * k))
     have HNB := Lib.hid (fun k (hk2 : k < y) => nb_ent HVV.out hlt (k := k) (by omega))
     have HPTS := Lib.hid (fun k (hk : x ≤ k) => prevT_succ (c := c) (i := i) (k := k) (by omega))
     have HPT0 := Lib.hid (by rw [hnv, hx]; exact (prevT_start c i).symm : nv = prevT c i x)
     have HPNS := Lib.hid (by rw [hnv]; exact (prevN_succ c i).symm : nv = prevN c (i + 1))
     have HPEX := Lib.hid (by rw [hx]; exact HPE0.out : pe = prevE c x)
     have HPEY := Lib.hid (by rw [hy] : prevE c y = prevE c c.first[i + 1]!.toNat)
     have HNI := Lib.hid (fun W (e : Ext w1 W) => (by rw [hnv]; exact HN.out i hlt W e : W.cell? ⟨bn, on + i, none⟩ = some (.int .i64 nv)))
     clear hnb hdn hdm hx hy ex ey hnv HPN0 HPE0 f0 hln hld hlm hrl
     go_upto_region 8 with (fail)
     go_upto_region 9 with (first | (go_at_call 37; ((with_reducible refine (HPN.out _).mono ?_); rintro e w2 ⟨v2, rfl, hO2, hx2⟩; have HO2 := Lib.hid hO2; clear hO2 HPN)) | (at_builtin; go_loud (refine own_catB rfl (.tmp 23) (.tmp 31) rfl rfl rfl (OwnG.ext HO.out hx2) (Nat.le_trans hE.out.le hx2.le) HO2.out hl1 ?_); intro v3 w3 hO3 hg3; have hE3 : Ext w1 w3 := (hE.out.trans hx2).grown hg3 (fun g e => (OwnG.lt HO.out e).1); have HO3 := Lib.hid hO3; have HE3 := Lib.hid hE3; clear hO3 hg3 hE3 hx2))
     have MF := Lib.hid (fun V (e : Ext w1 V) => (⟨(MKQ.out V e).2.1, HFI.out V e, HFN.out V e⟩ : V.cell? ⟨q, 1, none⟩ = some (.slice (some ⟨bf, of, none⟩) c.first.length k1) ∧ V.cell? ⟨bf, of + i, none⟩ = some (.int .i64 (x : Int)) ∧ V.cell? ⟨bf, of + (i + 1), none⟩ = some (.int .i64 (y : Int))))
     clear HO2 n0 a0 a1 a2 a3
     refine wp_region_held_drew (S := (fun V => V.cell? ⟨q, 1, none⟩ = some (.slice (some ⟨bf, of, none⟩) c.first.length k1) ∧ V.cell? ⟨bf, of + i, none⟩ = some (.int .i64 (x : Int)) ∧ V.cell? ⟨bf, of + (i + 1), none⟩ = some (.int .i64 (y : Int)))) (by kernel_rfl) ?hs66001 (fun hHeld => ?go66001)
     case hs66001 => (first | exact MF.out _ (Ext.trans HE3.out (by solve_by_elim [X0, X1, X2, X3])) | exact MF.out _ (Ext.trans HE5.out (by solve_by_elim [X0, X1, X2, X3])))
     refine TK 0 (v := ?v66002) hHeld ?hy66002 ?_
     case hy66002 => (intro w hSw; (try dsimp only at hSw); go_simp <;> first | with_reducible rfl | rw [if_neg (by omega)] | rw [if_pos (by omega)])
     (try simp only [PU])
     refine TK 1 (v := ?v66003) hHeld ?hy66003 ?_
     case hy66003 => (intro w hSw; (try dsimp only at hSw); go_simp <;> first | with_reducible rfl | rw [if_neg (by omega)] | rw [if_pos (by omega)])
     (try simp only [PU])
     refine TK 2 (v := ?v66004) hHeld ?hy66004 ?_
     case hy66004 => (intro w hSw; (try dsimp only at hSw); go_simp <;> first | with_reducible rfl | rw [if_neg (by omega)] | rw [if_pos (by omega)])
     (try simp only [PU])
     refine TK 3 (v := ?v66005) hHeld ?hy66005 ?_
     case hy66005 => (intro w hSw; (try dsimp only at hSw); go_simp <;> first | with_reducible rfl | rw [if_neg (by omega)] | rw [if_pos (by omega)])
     (try simp only [PU])
     refine TK 4 (v := ?v66006) hHeld ?hy66006 ?_
     case hy66006 => (intro w hSw; (try dsimp only at hSw); go_simp <;> first | with_reducible rfl | rw [if_neg (by omega)] | rw [if_pos (by omega)])
     (try simp only [PU])
     refine TK 5 (v := ?v66007) hHeld ?hy66007 ?_
     case hy66007 => (intro w hSw; (try dsimp only at hSw); go_simp <;> first | with_reducible rfl | rw [if_neg (by omega)] | rw [if_pos (by omega)])
     (try simp only [PU])
     refine TK 6 (v := ?v66008) hHeld ?hy66008 ?_
     case hy66008 => (intro w hSw; (try dsimp only at hSw); go_simp <;> first | with_reducible rfl | rw [if_neg (by omega)] | rw [if_pos (by omega)])
     (try simp only [PU])
     refine TK 7 (v := ?v66009) hHeld ?hy66009 ?_
     case hy66009 => (intro w hSw; (try dsimp only at hSw); go_simp <;> first | with_reducible rfl | rw [if_neg (by omega)] | rw [if_pos (by omega)])
     (try simp only [PU])
     refine TK 8 (v := ?v66010) hHeld ?hy66010 ?_
     case hy66010 => (intro w hSw; (try dsimp only at hSw); go_simp <;> first | with_reducible rfl | rw [if_neg (by omega)] | rw [if_pos (by omega)])
     (try simp only [PU])
     refine TK 9 (v := ?v66011) hHeld ?hy66011 ?_
     case hy66011 => (intro w hSw; (try dsimp only at hSw); go_simp <;> first | with_reducible rfl | rw [if_neg (by omega)] | rw [if_pos (by omega)])
     (try simp only [PU])
     refine TK 10 (v := ?v66012) hHeld ?hy66012 ?_
     case hy66012 => (intro w hSw; (try dsimp only at hSw); go_simp <;> first | with_reducible rfl | rw [if_neg (by omega)] | rw [if_pos (by omega)])
     (try simp only [PU])
     refine TK 11 (v := ?v66013) hHeld ?hy66013 ?_
     case hy66013 => (intro w hSw; (try dsimp only at hSw); go_simp <;> first | with_reducible rfl | rw [if_neg (by omega)] | rw [if_pos (by omega)])
     (try simp only [PU])
     refine TK 12 (v := ?v66014) hHeld ?hy66014 ?_
     case hy66014 => (intro w hSw; (try dsimp only at hSw); go_simp <;> first | with_reducible rfl | rw [if_neg (by omega)] | rw [if_pos (by omega)])
     (try simp only [PU])
     refine wpAnyH_ready (rs := [13]) (by kernel_rfl) (by simp) ?_
     refine AllReadyH.cons (o := ⟨_, _, _, _, _, _⟩) rfl (fun K hK => ?step66015x0) ?more66015x0
     case more66015x0 => exact AllReadyH.nil
     go_simp
     (go_at_call 37; ((with_reducible refine (HPF.out _).mono ?_); rintro e w4 ⟨v4, rfl, hO4, hx4⟩; replace hx4 : Ext w3 w4 := Ext.trans (a := w3) (by solve_by_elim [X0, X1, X2, X3]) hx4; have HO4 := Lib.hid hO4; clear hO4 HPF))
     refine hK.out _ _ ?hS66015x0 (fun H66015 => ?_)
     case hS66015x0 => first | (first | exact MF.out _ (Ext.trans HE3.out (by solve_by_elim [X0, X1, X2, X3])) | exact MF.out _ (Ext.trans HE5.out (by solve_by_elim [X0, X1, X2, X3]))) | ((try dsimp only); (first | exact MF.out _ (Ext.trans HE3.out (by solve_by_elim [X0, X1, X2, X3])) | exact MF.out _ (Ext.trans HE5.out (by solve_by_elim [X0, X1, X2, X3]))))
     clear hK K
     clear hHeld
     (try simp only [PU])
     refine wpAnyH_ready (rs := [14]) (by kernel_rfl) (by simp) ?_
     refine AllReadyH.cons (o := ⟨_, _, _, _, _, _⟩) rfl (fun K hK => ?step66016x0) ?more66016x0
     case more66016x0 => exact AllReadyH.nil
     (refine step_catB rfl (.tmp 33) (.tmp 46) rfl rfl rfl (OwnG.ext HO3.out (by solve_by_elim [X0, X1, X2, X3])) (Nat.le_trans HE3.out.le (Ext.le (a := w3) (by solve_by_elim [X0, X1, X2, X3]))) (OwnG.ext HO4.out (by solve_by_elim [X0, X1, X2, X3])) hl2 ?_; intro v5 w5 hO5 hg5; have hE5 : Ext w1 w5 := (HE3.out.trans (show Ext w3 _ from (by solve_by_elim [X0, X1, X2, X3]))).grown hg5 (fun g e => (OwnG.lt HO3.out e).1); have HO5 := Lib.hid hO5; have HE5 := Lib.hid hE5; clear hO5 hg5 hE5 hx4)
     refine hK.out _ _ ?hS66016x0 (fun H66016 => ?_)
     case hS66016x0 => first | (first | exact MF.out _ (Ext.trans HE3.out (by solve_by_elim [X0, X1, X2, X3])) | exact MF.out _ (Ext.trans HE5.out (by solve_by_elim [X0, X1, X2, X3]))) | ((try dsimp only); (first | exact MF.out _ (Ext.trans HE3.out (by solve_by_elim [X0, X1, X2, X3])) | exact MF.out _ (Ext.trans HE5.out (by solve_by_elim [X0, X1, X2, X3]))))
     clear hK K
     clear H66015
     (try simp only [PU])
     refine TK 15 (v := ?v66017) H66016 ?hy66017 ?_
     case hy66017 => (intro w hSw; (try dsimp only at hSw); go_simp <;> first | with_reducible rfl | rw [if_neg (by omega)] | rw [if_pos (by omega)])
     (try simp only [PU])
     refine wpAnyH_done (by kernel_rfl) ?_ _
     clear H66016
     skip
     have HO0 := Lib.hid (by rw [HE0S.out, List.append_nil, HHD.out, ← List.append_assoc]; exact HO5.out : OB w5 w1.heap.size v5 (((vi c.nodes.length ++ rowsB c i) ++ hdB c i) ++ entsB c i x))
     have HE0 := HE5
     obtain ⟨a0, a1, a2, a3⟩ := MKQ.out w5 HE5.out
     have f0 := HFI.out w5 HE5.out
     have n0 := HNI.out w5 HE5.out
     clear HO HO3 HO5 hE HE3 HE5 HO4 hl1 hl2 MF
     go_wp2_with fail
     go_loopw [3, 5, 7, 8] (fun u3 u5 u8 u9 W => ∃ (vO : Value) (k : Nat) (pe pt : Int), vO = u3 ∧ u5 = .int .i64 pe ∧ u8 = .int .i64 pt ∧ u9 = .int .i64 k ∧ x ≤ k ∧ k ≤ y ∧ Hid (pe = prevE c k) ∧ Hid (pt = prevT c i k) ∧ Hid (OB W w1.heap.size vO (((vi c.nodes.length ++ rowsB c i) ++ hdB c i) ++ entsB c i k)) ∧ Hid (Ext w1 W)) (fun _ _ _ u _ => y - (intOf u).toNat)
     case atStart => exact ⟨_, x, pe, nv, rfl, rfl, rfl, rfl, Nat.le_refl _, hxy, HPEX, HPT0, HO0, HE0⟩
     case round =>
      clear HO0 HE0 a0 a1 a2 a3 f0 n0 wd wm
      obtain ⟨vO, k, pe, pt, rfl, rfl, rfl, rfl, hxk, hky, HPE, HPT, HO, hE⟩ := hrel
      obtain ⟨a0, a1, a2, a3⟩ := MKQ.out wr hE.out
      have f1 := HFN.out wr hE.out
      by_cases hky' : k < y
      ·have hkt : k < c.tos.length := by omega
       have hke : k < c.edges.length := by omega
       have hnb := HNB.out k hky'
       obtain ⟨tv, htv⟩ : ∃ tv, tv = c.tos[k]! := ⟨_, rfl⟩
       obtain ⟨ev, hev⟩ : ∃ ev, ev = c.edges[k]! := ⟨_, rfl⟩
       have HCT := Lib.hid (fun W (e : Ext w1 W) => (by rw [htv]; exact HT.out k hkt W e : W.cell? ⟨bt, ot + k, none⟩ = some (.int .i64 tv)))
       have HCE := Lib.hid (fun W (e : Ext w1 W) => (by rw [hev]; exact HEE.out k hke W e : W.cell? ⟨be, oe + k, none⟩ = some (.int .i64 ev)))
       obtain ⟨d1, hd1⟩ : ∃ d1, d1 = tv - pt := ⟨_, rfl⟩
       obtain ⟨d2, hd2⟩ : ∃ d2, d2 = ev - pe := ⟨_, rfl⟩
       have e1 : c.tos[k]! - prevT c i k = d1 := by rw [hd1, htv, HPT.out]
       have e2 : c.edges[k]! - prevE c k = d2 := by rw [hd2, hev, HPE.out]
       have HSN := Lib.hid (by rw [HES.out k hxk]; unfold entB; rw [e1, e2]; simp only [List.append_assoc] : ((vi c.nodes.length ++ rowsB c i) ++ hdB c i) ++ entsB c i (k + 1) = ((((vi c.nodes.length ++ rowsB c i) ++ hdB c i) ++ entsB c i k) ++ vi (zig d1)) ++ vi (zig d2))
       rw [e1, e2] at hnb
       have h1a : -9223372036854775808 ≤ d1 ∧ d1 ≤ 9223372036854775807 := by omega
       have h2a : -9223372036854775808 ≤ d2 ∧ d2 ≤ 9223372036854775807 := by omega
       have wt : IntKind.i64.wrap (tv - pt) = d1 := by rw [IntKind.wrap_i64]; omega
       have we : IntKind.i64.wrap (ev - pe) = d2 := by rw [IntKind.wrap_i64]; omega
       have HPA := Lib.hid (fun W => r5_PutInt d1 h1a W)
       have HPB := Lib.hid (fun W => r5_PutInt d2 h2a W)
       have b1 := vi_len10 (zig_lt h1a)
       have b2 := vi_len10 (zig_lt h2a)
       have b3 := HEL.out k hxk hky
       have hl1 : (((vi c.nodes.length ++ rowsB c i) ++ hdB c i) ++ entsB c i k).length + (vi (zig d1)).length ≤ 8388608 := by rw [List.length_append]; omega
       have hl2 : ((((vi c.nodes.length ++ rowsB c i) ++ hdB c i) ++ entsB c i k) ++ vi (zig d1)).length + (vi (zig d2)).length ≤ 8388608 := by rw [List.length_append, List.length_append]; omega
       have HPE1 := Lib.hid (by rw [hev]; exact (prevE_succ c k).symm : ev = prevE c (k + 1))
       have HPT1 := Lib.hid (by rw [htv]; exact (HPTS.out k hxk).symm : tv = prevT c i (k + 1))
       have t0 := HCT.out wr hE.out
       clear e1 e2 hnb hd1 hd2 htv hev h1a h2a b1 b2 b3 HPE HPT
       go_upto_region 15 with (fail)
       clear f1
       go_upto_region 16 with (first | (go_at_call 38; ((with_reducible refine (HPA.out _).mono ?_); rintro e w4 ⟨v4, rfl, hO4, hx4⟩; have HO4 := Lib.hid hO4; clear hO4 HPA)) | (at_builtin; go_loud (refine own_catB rfl (.tmp 69) (.tmp 77) rfl rfl rfl (OwnG.ext HO.out hx4) (Nat.le_trans hE.out.le hx4.le) HO4.out hl1 ?_); intro v5 w5 hO5 hg5; have hE5 : Ext w1 w5 := (hE.out.trans hx4).grown hg5 (fun g e => (OwnG.lt HO.out e).1); have HO5 := Lib.hid hO5; have HE5 := Lib.hid hE5; clear hO5 hg5 hE5 hx4 HO4))
       clear a0 a1 a2 a3 t0
       obtain ⟨a0, a1, a2, a3⟩ := MKQ.out w5 HE5.out
       have t1 := HCE.out w5 HE5.out
       go_upto_region 17 with (first | (go_at_call 38; ((with_reducible refine (HPB.out _).mono ?_); rintro e w6 ⟨v6, rfl, hO6, hx6⟩; have HO6 := Lib.hid hO6; clear hO6 HPB)) | (at_builtin; go_loud (refine own_catB rfl (.tmp 79) (.tmp 87) rfl rfl rfl (OwnG.ext HO5.out hx6) (Nat.le_trans HE5.out.le hx6.le) HO6.out hl2 ?_); intro v7 w7 hO7 hg7; have hE7 : Ext w1 w7 := (HE5.out.trans hx6).grown hg7 (fun g e => (OwnG.lt HO5.out e).1); have HO7 := Lib.hid hO7; have HE7 := Lib.hid hE7; clear hO7 hg7 hE7 hx6 HO6))
       clear a0 a1 a2 a3 t1
       obtain ⟨a0, a1, a2, a3⟩ := MKQ.out w7 HE7.out
       have t0 := HCT.out w7 HE7.out
       have t1 := HCE.out w7 HE7.out
       clear HO HO5 hE HE5 wt we
       go_wp2_with fail
       go_roundw
       case rel => exact ⟨_, k + 1, ev, tv, rfl, rfl, rfl, by go_num, by omega, by omega, HPE1, HPT1, Lib.hid (by rw [HSN.out]; exact HO7.out), HE7⟩
       case measure => simp [intOf]; omega
      ·have hke : k = y := by omega
       have HPY := Lib.hid (by rw [HPE.out, hke]; exact HPEY.out : pe = prevE c c.first[i + 1]!.toNat)
       have HOF := Lib.hid (by rw [HRS.out, HRB.out, ← hke, ← List.append_assoc, ← List.append_assoc]; exact HO.out : OB wr w1.heap.size vO (vi c.nodes.length ++ rowsB c (i + 1)))
       clear hke HO HPE HPT
       go_wp2_with fail
       go_roundw
       case rel => exact ⟨_, i + 1, nv, pe, rfl, rfl, rfl, by go_num, by omega, HPNS, HPY, HOF, hE⟩
       case measure => simp [intOf]; omega
    ·have hke : i = c.nodes.length := by omega
     have HOF := Lib.hid (by rw [HR.out]; unfold encC; rw [hke] at HO; exact HO.out : OB wr w1.heap.size vO R)
     have hrl := rowsB_len HVV.out HS.out (by omega) (Nat.le_refl _)
     have hln := vi_len10 (u := c.nodes.length) (by omega)
     have hle2 := HS.out.le (Nat.le_refl c.nodes.length)
     have hRl : R.length ≤ 140737488355328 := by rw [HR.out]; unfold encC; rw [List.length_append]; omega
     obtain ⟨A3, c3, rfl, hle, hB⟩ := OB.byts HOF.out hRl
     have HB := Lib.hid hB
     clear hke HO HOF HR hrl hln hle2 hRl hB HPN0 HPE0
     go_wp2_with fail
     go_ret
     exact ⟨A3, c3, rfl, hle, SliceR.mono HB.out (fun _ _ _ _ hx => ⟨Nat.le_trans HBS.out hx.1, hx.2⟩), HX.out.trans hE.out⟩
end Go.Proofs.YtnheioehadldmaaGreat

/- THE WALK over the law ColumnCodes. -/
namespace Go.Proofs.YtnheioehadldmaaGreat
open Go.RowKit
theorem encC_byte (c : Col) : ∀ x ∈ encR c, x < 256 := by
 have h1 : ∀ (l m : List Nat), (∀ x ∈ l, x < 256) → (∀ x ∈ m, x < 256) → ∀ x ∈ l ++ m, x < 256 := fun l m hl hm x hx => (List.mem_append.1 hx).elim (hl x) (hm x)
 unfold encR
 split
 ·unfold encC rowsB
  refine h1 _ _ (vi_byte _) (fun x hx => ?_)
  obtain ⟨i, -, hi⟩ := List.mem_flatMap.1 hx
  unfold rowB hdB entsB at hi
  refine h1 _ _ (h1 _ _ (vi_byte _) (vi_byte _)) (fun y hy => ?_) x hi
  obtain ⟨k, -, hk⟩ := List.mem_flatMap.1 hy
  unfold entB at hk
  exact h1 _ _ (vi_byte _) (vi_byte _) y hk
 ·intro x hx; cases hx
theorem bytes_self (l : List Nat) (ok ok' : Nat → Prop) (A B : Option Addr) (c d : Nat) (w : World) (ha : Byts w ok A l) (hb : Byts w ok' B l) (hl : ∀ x ∈ l, x < 256) :
  Calls Tryz.prog 11 #[.slice A l.length c, .slice B l.length d] w fun e w' => e = .returned (.bool true) ∧ Ext w w' :=
 (r12_Bytes l l ok ok' A B c d w ha hb hl hl).mono (fun _ _ ⟨h1, h2⟩ => ⟨h1.trans (by simp), h2⟩)
set_option maxRecDepth 100000 in
set_option maxHeartbeats 3200000 in
theorem l_ColumnCodes (c : Col) (b : List Nat) (ok ok' : Nat → Prop) (A B Cx D E : Option Addr) (k0 k1 k2 k3 ec : Nat) (w : World) (hv : ColAt w ok A B Cx D c) (hb : Byts w ok' E b) (hbb : ∀ x ∈ b, x < 256) (hbc : b.length ≤ ec) :
  Calls Tryz.prog 4 #[agC c A B Cx D k0 k1 k2 k3, .slice E b.length ec] w fun e w' => e = .returned (.bool true) ∧ Ext w w' := by
 obtain ⟨q, w1, hq, hw1, ⟨a0, a1, a2, a3⟩, hx1⟩ := box_col w c A B Cx D k0 k1 k2 k3 29
 have HW := Lib.hid hw1
 have HQ := Lib.hid hq
 have HX1 := Lib.hid hx1
 have HV := Lib.hid (hv.ext hx1)
 have HBV := Lib.hid (hb.ext hx1)
 have MK1 := Lib.hid (fun V (e : Ext w1 V) => (⟨e.cell a0, e.cell a1, e.cell a2, e.cell a3⟩ : V.cell? ⟨q, 0, none⟩ = some (.slice A c.nodes.length k0) ∧ V.cell? ⟨q, 1, none⟩ = some (.slice B c.first.length k1) ∧ V.cell? ⟨q, 2, none⟩ = some (.slice Cx c.tos.length k2) ∧ V.cell? ⟨q, 3, none⟩ = some (.slice D c.edges.length k3)))
 clear hw1 hq hv hb hx1
 unfold agC
 go_enter Tryz.func4, Tryz.ntmps4
 go_upto_region 1 with (fail)
 rw [← HW.out, ← HQ.out]
 clear HW HQ
 by_cases hl : 100 < c.tos.length
 ·have g1 : decide (100 < c.tos.length) = true := decide_eq_true hl
  have g2 : decide (100 < (c.tos.length : Int)) = true := decide_eq_true (by omega)
  skip
  go_wp2_with (go_at_call 5; ((with_reducible refine ((l_lives _)).mono ?_); rintro e v9 ⟨rfl, hy9⟩))
  go_ret
  exact ⟨rfl, HX1.out.trans hy9⟩
 ·have g1 : decide (100 < c.tos.length) = false := decide_eq_false hl
  have g2 : decide (100 < (c.tos.length : Int)) = false := decide_eq_false (by omega)
  by_cases hn : 100 < c.nodes.length
  ·have g3 : decide (100 < c.nodes.length) = true := decide_eq_true hn
   have g4 : decide (100 < (c.nodes.length : Int)) = true := decide_eq_true (by omega)
   skip
   go_wp2_with (go_at_call 5; ((with_reducible refine ((l_lives _)).mono ?_); rintro e v9 ⟨rfl, hy9⟩))
   go_ret
   exact ⟨rfl, HX1.out.trans hy9⟩
  ·have g3 : decide (100 < c.nodes.length) = false := decide_eq_false hn
   have g4 : decide (100 < (c.nodes.length : Int)) = false := decide_eq_false (by omega)
   by_cases hk : 300 < b.length
   ·have g5 : decide (300 < b.length) = true := decide_eq_true hk
    have g6 : decide (300 < (b.length : Int)) = true := decide_eq_true (by omega)
    skip
    go_wp2_with (go_at_call 5; ((with_reducible refine ((l_lives _)).mono ?_); rintro e v9 ⟨rfl, hy9⟩))
    go_ret
    exact ⟨rfl, HX1.out.trans hy9⟩
   ·have g5 : decide (300 < b.length) = false := decide_eq_false hk
    have g6 : decide (300 < (b.length : Int)) = false := decide_eq_false (by omega)
    have HO1 := Lib.hid (co_Decode b ok' E ec w1 HBV.out hbb hbc (by omega))
    have HO2 := Lib.hid (fun V (e : Ext w1 V) => r12_Decode b ok' E ec V (HBV.out.ext e) hbb (by omega))
    have HEN : Hid (∀ V, Ext w1 V → Calls Tryz.prog 12 #[agC c A B Cx D k0 k1 k2 k3] V fun e w' => ∃ A' c', e = .returned (.slice A' (encR c).length c') ∧ (encR c).length ≤ c' ∧ Byts w' (fun b => V.heap.size ≤ b) A' (encR c) ∧ Ext V w') := Lib.hid (fun V (e : Ext w1 V) => co_Encode c ok A B Cx D k0 k1 k2 k3 V (HV.out.ext e) (by omega))
    have HER : Hid (∀ V, Ext w1 V → Calls Tryz.prog 13 #[agC c A B Cx D k0 k1 k2 k3] V fun e w' => ∃ A' c', e = .returned (.slice A' (encR c).length c') ∧ (encR c).length ≤ c' ∧ Byts w' (fun b => V.heap.size ≤ b) A' (encR c) ∧ Ext V w') := Lib.hid (fun V (e : Ext w1 V) => r12_Encode c ok A B Cx D k0 k1 k2 k3 V (HV.out.ext e) (by omega))
    have HEB := Lib.hid (encC_byte c)
    generalize decR (decC b) = R at *
    obtain ⟨er, C⟩ := R
    simp only at HO1 HO2
    unfold agC at HO1 HO2 HEN HER
    generalize encR c = EB at *
    have HBY := Lib.hid (fun A1 c1 A2 c2 V ok1 ok2 (h1 : Byts V ok1 A1 EB) (h2 : Byts V ok2 A2 EB) => bytes_self EB ok1 ok2 A1 A2 c1 c2 V h1 h2 HEB.out)
    clear hl hn hk HV HBV hbb hbc HEB
    go_upto_region 4 with (go_at_call 9; ((with_reducible refine (HO1.out).mono ?_); rintro e w2 ⟨A0, A1, A2, A3, l0, l1, l2, l3, rfl, hc1, hx1⟩; clear HO1))
    clear g1 g2 g3 g4 g5 g6 a0 a1 a2 a3
    obtain ⟨q1, w3, hq1, hw3, hb2, hx2⟩ := box_colV w2 (.slice A0 C.nodes.length l0) (.slice A1 C.first.length l1) (.slice A2 C.tos.length l2) (.slice A3 C.edges.length l3) 29
    rw [← hw3, ← hq1]
    have HX3 := Lib.hid (hx1.trans hx2)
    have HO3 := Lib.hid (HO2.out w3 HX3.out)
    have HB2 := Lib.hid hb2
    have HC2 := Lib.hid (hc1.ext hx2)
    clear HO2 hq1 hw3 hb2 hx1 hx2 hc1
    go_upto_region 5 with (go_at_call 10; ((with_reducible refine (HO3.out).mono ?_); rintro e w4 ⟨B0, B1, B2, B3, j0, j1, j2, j3, rfl, hc3, hx3⟩; clear HO3))
    obtain ⟨p, w5, hp, hw5, hb4, hx4⟩ := box_colV w4 (.slice B0 C.nodes.length j0) (.slice B1 C.first.length j1) (.slice B2 C.tos.length j2) (.slice B3 C.edges.length j3) 29
    rw [← hw5, ← hp]
    have hx34 := hx3.trans hx4
    obtain ⟨a0, a1, a2, a3⟩ := HB2.out.grown (hx34.gr none) (by simp)
    obtain ⟨b0, b1, b2, b3⟩ := hb4
    have hc2 := HC2.out.ext hx34
    have hc4 := hc3.ext hx4
    have HSM : Hid (∀ V, Ext w5 V → Calls Tryz.prog 8 #[agC C A0 A1 A2 A3 l0 l1 l2 l3, agC C B0 B1 B2 B3 j0 j1 j2 j3] V fun e w' => e = .returned (.bool true) ∧ Ext V w') := Lib.hid (fun V (e : Ext w5 V) => same_self C _ _ A0 A1 A2 A3 B0 B1 B2 B3 l0 l1 l2 l3 j0 j1 j2 j3 V (hc2.ext e) (hc4.ext e))
    unfold agC at HSM
    have HX15 := Lib.hid (HX3.out.trans hx34)
    have HX5 := Lib.hid (HX1.out.trans HX15.out)
    have MK5 := Lib.hid (fun V (e : Ext w5 V) => (⟨MK1.out V (HX15.out.trans e), ⟨e.cell a0, e.cell a1, e.cell a2, e.cell a3⟩, ⟨e.cell b0, e.cell b1, e.cell b2, e.cell b3⟩⟩ : (V.cell? ⟨q, 0, none⟩ = some (.slice A c.nodes.length k0) ∧ V.cell? ⟨q, 1, none⟩ = some (.slice B c.first.length k1) ∧ V.cell? ⟨q, 2, none⟩ = some (.slice Cx c.tos.length k2) ∧ V.cell? ⟨q, 3, none⟩ = some (.slice D c.edges.length k3)) ∧ (V.cell? ⟨q1, 0, none⟩ = some (.slice A0 C.nodes.length l0) ∧ V.cell? ⟨q1, 1, none⟩ = some (.slice A1 C.first.length l1) ∧ V.cell? ⟨q1, 2, none⟩ = some (.slice A2 C.tos.length l2) ∧ V.cell? ⟨q1, 3, none⟩ = some (.slice A3 C.edges.length l3)) ∧ (V.cell? ⟨p, 0, none⟩ = some (.slice B0 C.nodes.length j0) ∧ V.cell? ⟨p, 1, none⟩ = some (.slice B1 C.first.length j1) ∧ V.cell? ⟨p, 2, none⟩ = some (.slice B2 C.tos.length j2) ∧ V.cell? ⟨p, 3, none⟩ = some (.slice B3 C.edges.length j3))))
    replace HEN := Lib.hid (fun V (e : Ext w5 V) => HEN.out V (HX15.out.trans e))
    replace HER := Lib.hid (fun V (e : Ext w5 V) => HER.out V (HX15.out.trans e))
    clear hp hw5 hx3 hx4 hx34 hc3 hc2 hc4 HC2 HB2 a0 a1 a2 a3 b0 b1 b2 b3 MK1 HX1 HX15 HX3
    refine wp_region_held_drew (S := (fun V => (V.cell? ⟨q, 0, none⟩ = some (.slice A c.nodes.length k0) ∧ V.cell? ⟨q, 1, none⟩ = some (.slice B c.first.length k1) ∧ V.cell? ⟨q, 2, none⟩ = some (.slice Cx c.tos.length k2) ∧ V.cell? ⟨q, 3, none⟩ = some (.slice D c.edges.length k3)) ∧ (V.cell? ⟨q1, 0, none⟩ = some (.slice A0 C.nodes.length l0) ∧ V.cell? ⟨q1, 1, none⟩ = some (.slice A1 C.first.length l1) ∧ V.cell? ⟨q1, 2, none⟩ = some (.slice A2 C.tos.length l2) ∧ V.cell? ⟨q1, 3, none⟩ = some (.slice A3 C.edges.length l3)) ∧ (V.cell? ⟨p, 0, none⟩ = some (.slice B0 C.nodes.length j0) ∧ V.cell? ⟨p, 1, none⟩ = some (.slice B1 C.first.length j1) ∧ V.cell? ⟨p, 2, none⟩ = some (.slice B2 C.tos.length j2) ∧ V.cell? ⟨p, 3, none⟩ = some (.slice B3 C.edges.length j3)))) (by kernel_rfl) ?hs82001 (fun hHeld => ?go82001)
    case hs82001 => (exact MK5.out _ (by solve_by_elim [X0, X1, X2, X3]))
    refine TK 0 (v := ?v82002) hHeld ?hy82002 ?_
    case hy82002 => (intro w hSw; (try dsimp only at hSw); go_simp <;> first | with_reducible rfl | rw [if_neg (by omega)] | rw [if_pos (by omega)])
    (try simp only [PU])
    refine TK 1 (v := ?v82003) hHeld ?hy82003 ?_
    case hy82003 => (intro w hSw; (try dsimp only at hSw); go_simp <;> first | with_reducible rfl | rw [if_neg (by omega)] | rw [if_pos (by omega)])
    (try simp only [PU])
    refine wpAnyH_ready (rs := [2]) (by kernel_rfl) (by simp) ?_
    refine AllReadyH.cons (o := ⟨_, _, _, _, _, _⟩) rfl (fun K hK => ?step82004x0) ?more82004x0
    case more82004x0 => exact AllReadyH.nil
    go_simp
    ((with_reducible refine (HSM.out _ (by solve_by_elim [X0, X1, X2, X3])).mono ?_); rintro r v2 ⟨rfl, hy2⟩; replace hy2 : Ext w5 v2 := Ext.trans (a := w5) (by solve_by_elim [X0, X1, X2, X3]) hy2)
    refine hK.out _ _ ?hS82004x0 (fun H82004 => ?_)
    case hS82004x0 => first | (exact MK5.out _ (by solve_by_elim [X0, X1, X2, X3])) | ((try dsimp only); (exact MK5.out _ (by solve_by_elim [X0, X1, X2, X3])))
    clear hK K
    clear hHeld
    (try simp only [PU])
    refine TK 3 (v := ?v82005) H82004 ?hy82005 ?_
    case hy82005 => (intro w hSw; (try dsimp only at hSw); go_simp <;> first | with_reducible rfl | rw [if_neg (by omega)] | rw [if_pos (by omega)])
    (try simp only [PU])
    refine TK 4 (v := ?v82006) H82004 ?hy82006 ?_
    case hy82006 => (intro w hSw; (try dsimp only at hSw); go_simp <;> first | with_reducible rfl | rw [if_neg (by omega)] | rw [if_pos (by omega)])
    (try simp only [PU])
    refine TK 5 (v := ?v82007) H82004 ?hy82007 ?_
    case hy82007 => (intro w hSw; (try dsimp only at hSw); go_simp <;> first | with_reducible rfl | rw [if_neg (by omega)] | rw [if_pos (by omega)])
    (try simp only [PU])
    refine TK 6 (v := ?v82008) H82004 ?hy82008 ?_
    case hy82008 => (intro w hSw; (try dsimp only at hSw); go_simp <;> first | with_reducible rfl | rw [if_neg (by omega)] | rw [if_pos (by omega)])
    (try simp only [PU])
    refine TK 7 (v := ?v82009) H82004 ?hy82009 ?_
    case hy82009 => (intro w hSw; (try dsimp only at hSw); go_simp <;> first | with_reducible rfl | rw [if_neg (by omega)] | rw [if_pos (by omega)])
    (try simp only [PU])
    refine TK 8 (v := ?v82010) H82004 ?hy82010 ?_
    case hy82010 => (intro w hSw; (try dsimp only at hSw); go_simp <;> first | with_reducible rfl | rw [if_neg (by omega)] | rw [if_pos (by omega)])
    (try simp only [PU])
    refine TK 9 (v := ?v82011) H82004 ?hy82011 ?_
    case hy82011 => (intro w hSw; (try dsimp only at hSw); go_simp <;> first | with_reducible rfl | rw [if_neg (by omega)] | rw [if_pos (by omega)])
    (try simp only [PU])
    refine TK 11 (v := ?v82012) H82004 ?hy82012 ?_
    case hy82012 => (intro w hSw; (try dsimp only at hSw); go_simp <;> first | with_reducible rfl | rw [if_neg (by omega)] | rw [if_pos (by omega)])
    (try simp only [PU])
    refine wpAnyH_ready (rs := [10]) (by kernel_rfl) (by simp) ?_
    refine AllReadyH.cons (o := ⟨_, _, _, _, _, _⟩) rfl (fun K hK => ?step82013x0) ?more82013x0
    case more82013x0 => exact AllReadyH.nil
    go_simp
    ((with_reducible refine (HEN.out _ (by solve_by_elim [X0, X1, X2, X3])).mono ?_); rintro r v10 ⟨A8, c8, rfl, -, hS8, hy10⟩; replace hy10 : Ext w5 v10 := Ext.trans (a := w5) (by solve_by_elim [X0, X1, X2, X3]) hy10)
    refine hK.out _ _ ?hS82013x0 (fun H82013 => ?_)
    case hS82013x0 => first | (exact MK5.out _ (by solve_by_elim [X0, X1, X2, X3])) | ((try dsimp only); (exact MK5.out _ (by solve_by_elim [X0, X1, X2, X3])))
    clear hK K
    clear H82004
    (try simp only [PU])
    refine wpAnyH_ready (rs := [12]) (by kernel_rfl) (by simp) ?_
    refine AllReadyH.cons (o := ⟨_, _, _, _, _, _⟩) rfl (fun K hK => ?step82014x0) ?more82014x0
    case more82014x0 => exact AllReadyH.nil
    go_simp
    ((with_reducible refine (HER.out _ (by solve_by_elim [X0, X1, X2, X3])).mono ?_); rintro r v12 ⟨A9, c9, rfl, -, hS9, hy12⟩; have hz12 : Ext v10 v12 := Ext.trans (a := v10) (by solve_by_elim [X0, X1, X2, X3]) hy12; replace hy12 : Ext w5 v12 := Ext.trans (a := w5) (by solve_by_elim [X0, X1, X2, X3]) hy12)
    refine hK.out _ _ ?hS82014x0 (fun H82014 => ?_)
    case hS82014x0 => first | (exact MK5.out _ (by solve_by_elim [X0, X1, X2, X3])) | ((try dsimp only); (exact MK5.out _ (by solve_by_elim [X0, X1, X2, X3])))
    clear hK K
    clear H82013
    (try simp only [PU])
    refine wpAnyH_ready (rs := [13]) (by kernel_rfl) (by simp) ?_
    refine AllReadyH.cons (o := ⟨_, _, _, _, _, _⟩) rfl (fun K hK => ?step82015x0) ?more82015x0
    case more82015x0 => exact AllReadyH.nil
    go_simp
    ((with_reducible refine (HBY.out _ _ _ _ _ _ _ (Byts.ext hS8 (by solve_by_elim [X0, X1, X2, X3])) (Byts.ext hS9 (by solve_by_elim [X0, X1, X2, X3]))).mono ?_); rintro r v13 ⟨rfl, hy13⟩; replace hy13 : Ext w5 v13 := Ext.trans (a := w5) (by solve_by_elim [X0, X1, X2, X3]) hy13)
    refine hK.out _ _ ?hS82015x0 (fun H82015 => ?_)
    case hS82015x0 => first | (exact MK5.out _ (by solve_by_elim [X0, X1, X2, X3])) | ((try dsimp only); (exact MK5.out _ (by solve_by_elim [X0, X1, X2, X3])))
    clear hK K
    clear H82014
    (try simp only [PU])
    refine TK 14 (v := ?v82016) H82015 ?hy82016 ?_
    case hy82016 => (intro w hSw; (try dsimp only at hSw); go_simp <;> first | with_reducible rfl | rw [if_neg (by omega)] | rw [if_pos (by omega)])
    (try simp only [PU])
    refine TK 15 (v := ?v82017) H82015 ?hy82017 ?_
    case hy82017 => (intro w hSw; (try dsimp only at hSw); go_simp <;> first | with_reducible rfl | rw [if_neg (by omega)] | rw [if_pos (by omega)])
    (try simp only [PU])
    refine wpAnyH_ready (rs := [16]) (by kernel_rfl) (by simp) ?_
    refine AllReadyH.cons (o := ⟨_, _, _, _, _, _⟩) rfl (fun K hK => ?step82018x0) ?more82018x0
    case more82018x0 => exact AllReadyH.nil
    go_simp
    ((with_reducible refine (l_lives _).mono ?_); rintro r v16 ⟨rfl, hy16⟩; replace hy16 : Ext w5 v16 := Ext.trans (a := w5) (by solve_by_elim [X0, X1, X2, X3]) hy16)
    refine hK.out _ _ ?hS82018x0 (fun H82018 => ?_)
    case hS82018x0 => first | (exact MK5.out _ (by solve_by_elim [X0, X1, X2, X3])) | ((try dsimp only); (exact MK5.out _ (by solve_by_elim [X0, X1, X2, X3])))
    clear hK K
    clear H82015
    (try simp only [PU])
    refine TK 17 (v := ?v82019) H82018 ?hy82019 ?_
    case hy82019 => (intro w hSw; (try dsimp only at hSw); go_simp <;> first | with_reducible rfl | rw [if_neg (by omega)] | rw [if_pos (by omega)])
    (try simp only [PU])
    refine TK 18 (v := ?v82020) H82018 ?hy82020 ?_
    case hy82020 => (intro w hSw; (try dsimp only at hSw); go_simp <;> first | with_reducible rfl | rw [if_neg (by omega)] | rw [if_pos (by omega)])
    (try simp only [PU])
    refine wpAnyH_done (by kernel_rfl) ?_ _
    clear H82018
    go_wp2_with fail
    go_ret
    exact ⟨rfl, HX5.out.trans (by solve_by_elim [X0, X1, X2, X3])⟩
end Go.Proofs.YtnheioehadldmaaGreat
