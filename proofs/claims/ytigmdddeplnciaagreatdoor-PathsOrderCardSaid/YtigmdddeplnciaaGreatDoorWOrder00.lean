/- PARTS OF THE WALKS, joined: PtX. -/
import Derived.Test.YtigmdddeplnciaaGreatDoorV00
import Derived.Test.YtigmdddeplnciaaGreatDoorV01
import Derived.Test.YtigmdddeplnciaaGreatDoorV02
import Derived.Test.YtigmdddeplnciaaGreatDoorV03
import Derived.Test.YtigmdddeplnciaaGreatDoorV04
import Derived.Test.YtigmdddeplnciaaGreatDoorV05
import Derived.Test.YtigmdddeplnciaaGreatDoorV06
import Derived.Test.YtigmdddeplnciaaGreatDoorV07
import Derived.Test.YtigmdddeplnciaaGreatDoorV08
import Derived.Test.YtigmdddeplnciaaGreatDoorV09
import Derived.Test.YtigmdddeplnciaaGreatDoorV10
import Derived.Test.YtigmdddeplnciaaGreatDoorV11
import Derived.Test.YtigmdddeplnciaaGreatDoorV12
import Derived.Test.YtigmdddeplnciaaGreatDoorV13
import Derived.Test.YtigmdddeplnciaaGreatDoorV14
import Derived.Test.YtigmdddeplnciaaGreatDoorV15
import Derived.Test.YtigmdddeplnciaaGreatDoorV16
import Derived.Test.YtigmdddeplnciaaGreatDoorV17
import Derived.Test.YtigmdddeplnciaaGreatDoorV18
import Derived.Test.YtigmdddeplnciaaGreatDoorV19
import Derived.Test.YtigmdddeplnciaaGreatDoorV20
import Derived.Deep.RegionHeld3
import Derived.Deep.CutBlock
import Derived.Deep.DeepCutAuto
import Derived.Lib.BitFns
import Derived.Test.YtigmdddeplnciaaGreatDoorShelf
import Derived.Shelf.Spec.BitsCarry
import Derived.Deep.Cut
import Derived.Lib.ItoaNum
import Derived.Lib.AtoiAll
import Derived.Deep.QuietTactic
import Derived.BigQuiet
import Derived.Test.YtigmdddeplnciaaGreatDoorProg
import Derived.WalkKit
import Derived.WalkSpells
import Derived.WalkLawsBesides
import Derived.Lib.Hide
import Derived.Sort.Walk0
import Derived.Lib.Small
import Derived.Laws.CopyRow
import Derived.Lib.AppendZerosOnto
import Derived.Lib.SlFresh
import Derived.Laws.AppendOwn
import Derived.Laws.OwnMore
import Derived.OwnWalk
import Derived.Deep.AppendLies
import Derived.Deep.MidRow
import Derived.Below
import Derived.Laws.Rows
import Derived.Deep.Draws
import Derived.OrdersHeld
import Derived.Maps.AppendAt
import Derived.Test.YtigmdddeplnciaaGreatDoorShelfG
import Derived.Shelf.SlSortCmp.NoneTotal
import Derived.Shelf.SlSortCmp.WholeK
import Derived.Calls
import Derived.Laws.BitsAllLaws
import Derived.Deep.RegionHeld
import Derived.Deep.CutRange
import Derived.Maps.OwnSet
import Derived.Maps.OwnOps
import Derived.BigRegion
import Derived.Sort.LotA
/- THE LAW PathsOrder. -/
namespace Go.Proofs.YtigmdddeplnciaaGreatDoor
open Go.RowKit
theorem ord_hops {a b : Val} (h : hopsV a < hopsV b) : ordP a b = -1 := by
  have h1 : Lib.compareInt (hopsV a) (hopsV b) = -1 := by unfold Lib.compareInt; split <;> first | rfl | omega
  unfold ordP
  rw [h1]; rfl
set_option maxRecDepth 100000 in
set_option maxHeartbeats 12800000 in
theorem l_PathsOrder (a b c : Val) (oka okb okc : Nat → Prop) (A B C : Option Addr) (ca cb cc : Nat) (w : World) (hz : ZeroAt w) (hva : Vals w oka A a.l) (hvb : Vals w okb B b.l) (hvc : Vals w okc C c.l) :
    Calls Tryz.prog 5 #[.agg #[.int .i64 a.kind, .int .i64 a.n, .int .i64 a.d, .string a.s, .slice A a.l.length ca], .agg #[.int .i64 b.kind, .int .i64 b.n, .int .i64 b.d, .string b.s, .slice B b.l.length cb], .agg #[.int .i64 c.kind, .int .i64 c.n, .int .i64 c.d, .string c.s, .slice C c.l.length cc]] w fun r w' => r = .returned (.bool true) ∧ Ext w w' := by
  obtain ⟨q, w1, hq, hw1, hac, hx⟩ : ∃ (q : Nat) (w1 : World), q = w.heap.size ∧ w1 = ((w.alloc (.cells #[.int .i64 a.kind, .int .i64 a.n, .int .i64 a.d, .string a.s, .slice A a.l.length ca] 37)).alloc (.cells #[.int .i64 b.kind, .int .i64 b.n, .int .i64 b.d, .string b.s, .slice B b.l.length cb] 37)).alloc (.cells #[.int .i64 c.kind, .int .i64 c.n, .int .i64 c.d, .string c.s, .slice C c.l.length cc] 37) ∧ ((w1.cell? ⟨q, 0, none⟩ = some (.int .i64 a.kind) ∧ w1.cell? ⟨q, 1, none⟩ = some (.int .i64 a.n) ∧ w1.cell? ⟨q, 2, none⟩ = some (.int .i64 a.d) ∧ w1.cell? ⟨q, 3, none⟩ = some (.string a.s) ∧ w1.cell? ⟨q, 4, none⟩ = some (.slice A a.l.length ca)) ∧ (w1.cell? ⟨q + 1, 0, none⟩ = some (.int .i64 b.kind) ∧ w1.cell? ⟨q + 1, 1, none⟩ = some (.int .i64 b.n) ∧ w1.cell? ⟨q + 1, 2, none⟩ = some (.int .i64 b.d) ∧ w1.cell? ⟨q + 1, 3, none⟩ = some (.string b.s) ∧ w1.cell? ⟨q + 1, 4, none⟩ = some (.slice B b.l.length cb)) ∧ (w1.cell? ⟨q + 2, 0, none⟩ = some (.int .i64 c.kind) ∧ w1.cell? ⟨q + 2, 1, none⟩ = some (.int .i64 c.n) ∧ w1.cell? ⟨q + 2, 2, none⟩ = some (.int .i64 c.d) ∧ w1.cell? ⟨q + 2, 3, none⟩ = some (.string c.s) ∧ w1.cell? ⟨q + 2, 4, none⟩ = some (.slice C c.l.length cc))) ∧ Ext w w1 :=
    ⟨_, _, rfl, rfl, ⟨⟨by go_simp, by go_simp, by go_simp, by go_simp, by go_simp⟩, ⟨by go_simp, by go_simp, by go_simp, by go_simp, by go_simp⟩, by go_simp, by go_simp, by go_simp, by go_simp, by go_simp⟩, (by solve_by_elim [X0, X1, X2, X3])⟩
  have HW1 := Lib.hid hw1
  have HQ := Lib.hid hq
  have HX := Lib.hid hx
  have HLV := Lib.hid (fun W (e' : Ext w1 W) => l_lives W (hz.ext (hx.trans e')))
  have HAB := Lib.hid (fun W (e' : Ext w1 W) => p_Order a b oka okb A B ca cb W (hz.ext (hx.trans e')) (hva.ext (hx.trans e')) (hvb.ext (hx.trans e')))
  have HBA := Lib.hid (fun W (e' : Ext w1 W) => p_Order b a okb oka B A cb ca W (hz.ext (hx.trans e')) (hvb.ext (hx.trans e')) (hva.ext (hx.trans e')))
  have HBC := Lib.hid (fun W (e' : Ext w1 W) => p_Order b c okb okc B C cb cc W (hz.ext (hx.trans e')) (hvb.ext (hx.trans e')) (hvc.ext (hx.trans e')))
  have HAC := Lib.hid (fun W (e' : Ext w1 W) => p_Order a c oka okc A C ca cc W (hz.ext (hx.trans e')) (hva.ext (hx.trans e')) (hvc.ext (hx.trans e')))
  have HVV := Lib.hid (fun W (e' : Ext w1 W) => v_Order a b oka okb A B ca cb W (hz.ext (hx.trans e')) (hva.ext (hx.trans e')) (hvb.ext (hx.trans e')))
  have HHA := Lib.hid (fun W (e' : Ext w1 W) => p_Hops a oka A ca W (hva.ext (hx.trans e')))
  have HHB := Lib.hid (fun W (e' : Ext w1 W) => p_Hops b okb B cb W (hvb.ext (hx.trans e')))
  have hr := TotC.path.rng a b
  have hk' := TotC.path.anti a b
  have hkv : ordP a b = 0 ↔ ordV a b = 0 := (TotC.path.zero a b).trans (TotC.val.zero a b).symm
  have hh := @ord_hops a b
  have htr := TotC.path.trans a b c
  unfold agV at HAB HBA HBC HAC HHA HHB
  have MK := Lib.hid (fun V (e' : Ext w1 V) => (⟨⟨e'.cell hac.1.1, e'.cell hac.1.2.1, e'.cell hac.1.2.2.1, e'.cell hac.1.2.2.2.1, e'.cell hac.1.2.2.2.2⟩, ⟨e'.cell hac.2.1.1, e'.cell hac.2.1.2.1, e'.cell hac.2.1.2.2.1, e'.cell hac.2.1.2.2.2.1, e'.cell hac.2.1.2.2.2.2⟩, e'.cell hac.2.2.1, e'.cell hac.2.2.2.1, e'.cell hac.2.2.2.2.1, e'.cell hac.2.2.2.2.2.1, e'.cell hac.2.2.2.2.2.2⟩ : (V.cell? ⟨q, 0, none⟩ = some (.int .i64 a.kind) ∧ V.cell? ⟨q, 1, none⟩ = some (.int .i64 a.n) ∧ V.cell? ⟨q, 2, none⟩ = some (.int .i64 a.d) ∧ V.cell? ⟨q, 3, none⟩ = some (.string a.s) ∧ V.cell? ⟨q, 4, none⟩ = some (.slice A a.l.length ca)) ∧ (V.cell? ⟨q + 1, 0, none⟩ = some (.int .i64 b.kind) ∧ V.cell? ⟨q + 1, 1, none⟩ = some (.int .i64 b.n) ∧ V.cell? ⟨q + 1, 2, none⟩ = some (.int .i64 b.d) ∧ V.cell? ⟨q + 1, 3, none⟩ = some (.string b.s) ∧ V.cell? ⟨q + 1, 4, none⟩ = some (.slice B b.l.length cb)) ∧ (V.cell? ⟨q + 2, 0, none⟩ = some (.int .i64 c.kind) ∧ V.cell? ⟨q + 2, 1, none⟩ = some (.int .i64 c.n) ∧ V.cell? ⟨q + 2, 2, none⟩ = some (.int .i64 c.d) ∧ V.cell? ⟨q + 2, 3, none⟩ = some (.string c.s) ∧ V.cell? ⟨q + 2, 4, none⟩ = some (.slice C c.l.length cc))))
  obtain ⟨⟨a0, a1, a2, a3, a4⟩, ⟨b0, b1, b2, b3, b4⟩, c0, c1, c2, c3, c4⟩ := hac
  clear hw1 hq hz hx hva hvb hvc
  generalize ordP a b = k at *
  generalize ordP b a = k' at *
  generalize ordP b c = x at *
  generalize ordP a c = y at *
  generalize ordV a b = v at *
  generalize hopsV a = ha at *
  generalize hopsV b = hb at *
  go_enter Tryz.func5, Tryz.ntmps5
  go_upto_region 1 with (fail)
  rw [← HW1.out, ← HQ.out]
  clear HW1 HQ
  rcases hr with rfl | rfl | rfl
  · obtain rfl : k' = 1 := by omega
    have hv0 : (v == 0) = false := beq_eq_false_iff_ne.2 (fun h => by have := hkv.2 h; omega)
    clear hk' hkv
    clear hh
    by_cases hlt : ha < hb
    · have hdd : decide (ha < hb) = true := decide_eq_true hlt
      by_cases hx0 : 0 < x
      · clear htr
        go_upto_region 4 with (first | (go_at_call 19; ((with_reducible refine (HAB.out _ (by solve_by_elim [X0, X1, X2, X3])).mono ?_); rintro r v1 ⟨rfl, hy1⟩; replace hy1 : Ext w1 v1 := Ext.trans (by solve_by_elim [X0, X1, X2, X3]) hy1; obtain ⟨⟨a0, a1, a2, a3, a4⟩, ⟨b0, b1, b2, b3, b4⟩, c0, c1, c2, c3, c4⟩ := MK.out _ hy1)) | (go_at_call 19; ((with_reducible refine (HBA.out _ (by solve_by_elim [X0, X1, X2, X3])).mono ?_); rintro r v2 ⟨rfl, hy2⟩; replace hy2 : Ext w1 v2 := Ext.trans (by solve_by_elim [X0, X1, X2, X3]) hy2; obtain ⟨⟨a0, a1, a2, a3, a4⟩, ⟨b0, b1, b2, b3, b4⟩, c0, c1, c2, c3, c4⟩ := MK.out _ hy2)) | (go_at_call 20; ((with_reducible refine (HVV.out _ (by solve_by_elim [X0, X1, X2, X3])).mono ?_); rintro r v3 ⟨rfl, hy3⟩; replace hy3 : Ext w1 v3 := Ext.trans (by solve_by_elim [X0, X1, X2, X3]) hy3; obtain ⟨⟨a0, a1, a2, a3, a4⟩, ⟨b0, b1, b2, b3, b4⟩, c0, c1, c2, c3, c4⟩ := MK.out _ hy3)))
        refine wp_region_held_drew (S := (fun V => (V.cell? ⟨q, 0, none⟩ = some (.int .i64 a.kind) ∧ V.cell? ⟨q, 1, none⟩ = some (.int .i64 a.n) ∧ V.cell? ⟨q, 2, none⟩ = some (.int .i64 a.d) ∧ V.cell? ⟨q, 3, none⟩ = some (.string a.s) ∧ V.cell? ⟨q, 4, none⟩ = some (.slice A a.l.length ca)) ∧ (V.cell? ⟨q + 1, 0, none⟩ = some (.int .i64 b.kind) ∧ V.cell? ⟨q + 1, 1, none⟩ = some (.int .i64 b.n) ∧ V.cell? ⟨q + 1, 2, none⟩ = some (.int .i64 b.d) ∧ V.cell? ⟨q + 1, 3, none⟩ = some (.string b.s) ∧ V.cell? ⟨q + 1, 4, none⟩ = some (.slice B b.l.length cb)) ∧ (V.cell? ⟨q + 2, 0, none⟩ = some (.int .i64 c.kind) ∧ V.cell? ⟨q + 2, 1, none⟩ = some (.int .i64 c.n) ∧ V.cell? ⟨q + 2, 2, none⟩ = some (.int .i64 c.d) ∧ V.cell? ⟨q + 2, 3, none⟩ = some (.string c.s) ∧ V.cell? ⟨q + 2, 4, none⟩ = some (.slice C c.l.length cc)))) (by kernel_rfl) ?hs19001 (fun hHeld => ?go19001)
        case hs19001 => (exact MK.out _ (by solve_by_elim [X0, X1, X2, X3]))
        refine TK 0 (v := ?v19002) hHeld ?hy19002 ?_
        case hy19002 => (intro w hSw; (try dsimp only at hSw); go_simp <;> first | with_reducible rfl | rw [if_neg (by omega)] | rw [if_pos (by omega)])
        (try simp only [PU])
        refine TK 2 (v := ?v19003) hHeld ?hy19003 ?_
        case hy19003 => (intro w hSw; (try dsimp only at hSw); go_simp <;> first | with_reducible rfl | rw [if_neg (by omega)] | rw [if_pos (by omega)])
        (try simp only [PU])
        refine wpAnyH_ready (rs := [1]) (by kernel_rfl) (by simp) ?_
        refine AllReadyH.cons (o := ⟨_, _, _, _, _, _⟩) rfl (fun K hK => ?step19004x0) ?more19004x0
        case more19004x0 => exact AllReadyH.nil
        go_simp
        (with_reducible refine (HHA.out _ (by solve_by_elim [X0, X1, X2, X3])).mono ?_; rintro r v110 ⟨rfl, hy11⟩; replace hy11 : Ext w1 v110 := Ext.trans (by solve_by_elim [X0, X1, X2, X3]) hy11)
        refine hK.out _ _ ?hS19004x0 (fun H19004 => ?_)
        case hS19004x0 => first | (exact MK.out _ (by solve_by_elim [X0, X1, X2, X3])) | ((try dsimp only); (exact MK.out _ (by solve_by_elim [X0, X1, X2, X3])))
        clear hK K
        clear hHeld
        (try simp only [PU])
        refine wpAnyH_ready (rs := [3]) (by kernel_rfl) (by simp) ?_
        refine AllReadyH.cons (o := ⟨_, _, _, _, _, _⟩) rfl (fun K hK => ?step19005x0) ?more19005x0
        case more19005x0 => exact AllReadyH.nil
        go_simp
        (with_reducible refine (HHB.out _ (by solve_by_elim [X0, X1, X2, X3])).mono ?_; rintro r v130 ⟨rfl, hy13⟩; replace hy13 : Ext w1 v130 := Ext.trans (by solve_by_elim [X0, X1, X2, X3]) hy13)
        refine hK.out _ _ ?hS19005x0 (fun H19005 => ?_)
        case hS19005x0 => first | (exact MK.out _ (by solve_by_elim [X0, X1, X2, X3])) | ((try dsimp only); (exact MK.out _ (by solve_by_elim [X0, X1, X2, X3])))
        clear hK K
        clear H19004
        (try simp only [PU])
        refine TK 4 (v := ?v19006) H19005 ?hy19006 ?_
        case hy19006 => (intro w _; go_simp <;> first | with_reducible rfl | rw [if_neg (by omega)] | rw [if_pos (by omega)])
        (try simp only [PU])
        refine TK 5 (v := ?v19007) H19005 ?hy19007 ?_
        case hy19007 => (intro w _; go_simp <;> rfl)
        (try simp only [PU])
        refine TK 6 (v := ?v19008) H19005 ?hy19008 ?_
        case hy19008 => (intro w _; go_simp <;> rfl)
        (try simp only [PU])
        refine TK 7 (v := ?v19009) H19005 ?hy19009 ?_
        case hy19009 => (intro w _; go_simp <;> first | with_reducible rfl | rw [if_neg (by omega)] | rw [if_pos (by omega)])
        (try simp only [PU])
        refine TK 8 (v := ?v19010) H19005 ?hy19010 ?_
        case hy19010 => (intro w _; go_simp <;> rfl)
        (try simp only [PU])
        refine wpAnyH_done (by kernel_rfl) ?_ _
        clear H19005
        obtain ⟨⟨a0, a1, a2, a3, a4⟩, ⟨b0, b1, b2, b3, b4⟩, c0, c1, c2, c3, c4⟩ := MK.out _ hy13
        go_wp2_with (first | (go_at_call 19; ((with_reducible refine (HBC.out _ (by solve_by_elim [X0, X1, X2, X3])).mono ?_); rintro r v4 ⟨rfl, hy4⟩; replace hy4 : Ext w1 v4 := Ext.trans (by solve_by_elim [X0, X1, X2, X3]) hy4; obtain ⟨⟨a0, a1, a2, a3, a4⟩, ⟨b0, b1, b2, b3, b4⟩, c0, c1, c2, c3, c4⟩ := MK.out _ hy4)) | (go_at_call 19; ((with_reducible refine (HAC.out _ (by solve_by_elim [X0, X1, X2, X3])).mono ?_); rintro r v5 ⟨rfl, hy5⟩; replace hy5 : Ext w1 v5 := Ext.trans (by solve_by_elim [X0, X1, X2, X3]) hy5; obtain ⟨⟨a0, a1, a2, a3, a4⟩, ⟨b0, b1, b2, b3, b4⟩, c0, c1, c2, c3, c4⟩ := MK.out _ hy5)) | (go_at_call 9; ((with_reducible refine (HLV.out _ (by solve_by_elim [X0, X1, X2, X3])).mono ?_); rintro r v6 ⟨rfl, hy6⟩; replace hy6 : Ext w1 v6 := Ext.trans (by solve_by_elim [X0, X1, X2, X3]) hy6; obtain ⟨⟨a0, a1, a2, a3, a4⟩, ⟨b0, b1, b2, b3, b4⟩, c0, c1, c2, c3, c4⟩ := MK.out _ hy6)))
        go_ret
        exact ⟨rfl, HX.out.trans hy6⟩
      · have hy0 : y ≤ 0 := htr (by omega) (by omega)
        clear htr
        go_upto_region 4 with (first | (go_at_call 19; ((with_reducible refine (HAB.out _ (by solve_by_elim [X0, X1, X2, X3])).mono ?_); rintro r v1 ⟨rfl, hy1⟩; replace hy1 : Ext w1 v1 := Ext.trans (by solve_by_elim [X0, X1, X2, X3]) hy1; obtain ⟨⟨a0, a1, a2, a3, a4⟩, ⟨b0, b1, b2, b3, b4⟩, c0, c1, c2, c3, c4⟩ := MK.out _ hy1)) | (go_at_call 19; ((with_reducible refine (HBA.out _ (by solve_by_elim [X0, X1, X2, X3])).mono ?_); rintro r v2 ⟨rfl, hy2⟩; replace hy2 : Ext w1 v2 := Ext.trans (by solve_by_elim [X0, X1, X2, X3]) hy2; obtain ⟨⟨a0, a1, a2, a3, a4⟩, ⟨b0, b1, b2, b3, b4⟩, c0, c1, c2, c3, c4⟩ := MK.out _ hy2)) | (go_at_call 20; ((with_reducible refine (HVV.out _ (by solve_by_elim [X0, X1, X2, X3])).mono ?_); rintro r v3 ⟨rfl, hy3⟩; replace hy3 : Ext w1 v3 := Ext.trans (by solve_by_elim [X0, X1, X2, X3]) hy3; obtain ⟨⟨a0, a1, a2, a3, a4⟩, ⟨b0, b1, b2, b3, b4⟩, c0, c1, c2, c3, c4⟩ := MK.out _ hy3)))
        refine wp_region_held_drew (S := (fun V => (V.cell? ⟨q, 0, none⟩ = some (.int .i64 a.kind) ∧ V.cell? ⟨q, 1, none⟩ = some (.int .i64 a.n) ∧ V.cell? ⟨q, 2, none⟩ = some (.int .i64 a.d) ∧ V.cell? ⟨q, 3, none⟩ = some (.string a.s) ∧ V.cell? ⟨q, 4, none⟩ = some (.slice A a.l.length ca)) ∧ (V.cell? ⟨q + 1, 0, none⟩ = some (.int .i64 b.kind) ∧ V.cell? ⟨q + 1, 1, none⟩ = some (.int .i64 b.n) ∧ V.cell? ⟨q + 1, 2, none⟩ = some (.int .i64 b.d) ∧ V.cell? ⟨q + 1, 3, none⟩ = some (.string b.s) ∧ V.cell? ⟨q + 1, 4, none⟩ = some (.slice B b.l.length cb)) ∧ (V.cell? ⟨q + 2, 0, none⟩ = some (.int .i64 c.kind) ∧ V.cell? ⟨q + 2, 1, none⟩ = some (.int .i64 c.n) ∧ V.cell? ⟨q + 2, 2, none⟩ = some (.int .i64 c.d) ∧ V.cell? ⟨q + 2, 3, none⟩ = some (.string c.s) ∧ V.cell? ⟨q + 2, 4, none⟩ = some (.slice C c.l.length cc)))) (by kernel_rfl) ?hs19011 (fun hHeld => ?go19011)
        case hs19011 => (exact MK.out _ (by solve_by_elim [X0, X1, X2, X3]))
        refine TK 0 (v := ?v19012) hHeld ?hy19012 ?_
        case hy19012 => (intro w hSw; (try dsimp only at hSw); go_simp <;> first | with_reducible rfl | rw [if_neg (by omega)] | rw [if_pos (by omega)])
        (try simp only [PU])
        refine TK 2 (v := ?v19013) hHeld ?hy19013 ?_
        case hy19013 => (intro w hSw; (try dsimp only at hSw); go_simp <;> first | with_reducible rfl | rw [if_neg (by omega)] | rw [if_pos (by omega)])
        (try simp only [PU])
        refine wpAnyH_ready (rs := [1]) (by kernel_rfl) (by simp) ?_
        refine AllReadyH.cons (o := ⟨_, _, _, _, _, _⟩) rfl (fun K hK => ?step19014x0) ?more19014x0
        case more19014x0 => exact AllReadyH.nil
        go_simp
        (with_reducible refine (HHA.out _ (by solve_by_elim [X0, X1, X2, X3])).mono ?_; rintro r v110 ⟨rfl, hy11⟩; replace hy11 : Ext w1 v110 := Ext.trans (by solve_by_elim [X0, X1, X2, X3]) hy11)
        refine hK.out _ _ ?hS19014x0 (fun H19014 => ?_)
        case hS19014x0 => first | (exact MK.out _ (by solve_by_elim [X0, X1, X2, X3])) | ((try dsimp only); (exact MK.out _ (by solve_by_elim [X0, X1, X2, X3])))
        clear hK K
        clear hHeld
        (try simp only [PU])
        refine wpAnyH_ready (rs := [3]) (by kernel_rfl) (by simp) ?_
        refine AllReadyH.cons (o := ⟨_, _, _, _, _, _⟩) rfl (fun K hK => ?step19015x0) ?more19015x0
        case more19015x0 => exact AllReadyH.nil
        go_simp
        (with_reducible refine (HHB.out _ (by solve_by_elim [X0, X1, X2, X3])).mono ?_; rintro r v130 ⟨rfl, hy13⟩; replace hy13 : Ext w1 v130 := Ext.trans (by solve_by_elim [X0, X1, X2, X3]) hy13)
        refine hK.out _ _ ?hS19015x0 (fun H19015 => ?_)
        case hS19015x0 => first | (exact MK.out _ (by solve_by_elim [X0, X1, X2, X3])) | ((try dsimp only); (exact MK.out _ (by solve_by_elim [X0, X1, X2, X3])))
        clear hK K
        clear H19014
        (try simp only [PU])
        refine TK 4 (v := ?v19016) H19015 ?hy19016 ?_
        case hy19016 => (intro w _; go_simp <;> first | with_reducible rfl | rw [if_neg (by omega)] | rw [if_pos (by omega)])
        (try simp only [PU])
        refine TK 5 (v := ?v19017) H19015 ?hy19017 ?_
        case hy19017 => (intro w _; go_simp <;> rfl)
        (try simp only [PU])
        refine TK 6 (v := ?v19018) H19015 ?hy19018 ?_
        case hy19018 => (intro w _; go_simp <;> rfl)
        (try simp only [PU])
        refine TK 7 (v := ?v19019) H19015 ?hy19019 ?_
        case hy19019 => (intro w _; go_simp <;> first | with_reducible rfl | rw [if_neg (by omega)] | rw [if_pos (by omega)])
        (try simp only [PU])
        refine TK 8 (v := ?v19020) H19015 ?hy19020 ?_
        case hy19020 => (intro w _; go_simp <;> rfl)
        (try simp only [PU])
        refine wpAnyH_done (by kernel_rfl) ?_ _
        clear H19015
        obtain ⟨⟨a0, a1, a2, a3, a4⟩, ⟨b0, b1, b2, b3, b4⟩, c0, c1, c2, c3, c4⟩ := MK.out _ hy13
        go_wp2_with (first | (go_at_call 19; ((with_reducible refine (HBC.out _ (by solve_by_elim [X0, X1, X2, X3])).mono ?_); rintro r v4 ⟨rfl, hy4⟩; replace hy4 : Ext w1 v4 := Ext.trans (by solve_by_elim [X0, X1, X2, X3]) hy4; obtain ⟨⟨a0, a1, a2, a3, a4⟩, ⟨b0, b1, b2, b3, b4⟩, c0, c1, c2, c3, c4⟩ := MK.out _ hy4)) | (go_at_call 19; ((with_reducible refine (HAC.out _ (by solve_by_elim [X0, X1, X2, X3])).mono ?_); rintro r v5 ⟨rfl, hy5⟩; replace hy5 : Ext w1 v5 := Ext.trans (by solve_by_elim [X0, X1, X2, X3]) hy5; obtain ⟨⟨a0, a1, a2, a3, a4⟩, ⟨b0, b1, b2, b3, b4⟩, c0, c1, c2, c3, c4⟩ := MK.out _ hy5)) | (go_at_call 9; ((with_reducible refine (HLV.out _ (by solve_by_elim [X0, X1, X2, X3])).mono ?_); rintro r v6 ⟨rfl, hy6⟩; replace hy6 : Ext w1 v6 := Ext.trans (by solve_by_elim [X0, X1, X2, X3]) hy6; obtain ⟨⟨a0, a1, a2, a3, a4⟩, ⟨b0, b1, b2, b3, b4⟩, c0, c1, c2, c3, c4⟩ := MK.out _ hy6)))
        go_ret
        exact ⟨rfl, HX.out.trans hy6⟩
    · have hdd : decide (ha < hb) = false := decide_eq_false hlt
      by_cases hx0 : 0 < x
      · clear htr
        go_upto_region 4 with (first | (go_at_call 19; ((with_reducible refine (HAB.out _ (by solve_by_elim [X0, X1, X2, X3])).mono ?_); rintro r v1 ⟨rfl, hy1⟩; replace hy1 : Ext w1 v1 := Ext.trans (by solve_by_elim [X0, X1, X2, X3]) hy1; obtain ⟨⟨a0, a1, a2, a3, a4⟩, ⟨b0, b1, b2, b3, b4⟩, c0, c1, c2, c3, c4⟩ := MK.out _ hy1)) | (go_at_call 19; ((with_reducible refine (HBA.out _ (by solve_by_elim [X0, X1, X2, X3])).mono ?_); rintro r v2 ⟨rfl, hy2⟩; replace hy2 : Ext w1 v2 := Ext.trans (by solve_by_elim [X0, X1, X2, X3]) hy2; obtain ⟨⟨a0, a1, a2, a3, a4⟩, ⟨b0, b1, b2, b3, b4⟩, c0, c1, c2, c3, c4⟩ := MK.out _ hy2)) | (go_at_call 20; ((with_reducible refine (HVV.out _ (by solve_by_elim [X0, X1, X2, X3])).mono ?_); rintro r v3 ⟨rfl, hy3⟩; replace hy3 : Ext w1 v3 := Ext.trans (by solve_by_elim [X0, X1, X2, X3]) hy3; obtain ⟨⟨a0, a1, a2, a3, a4⟩, ⟨b0, b1, b2, b3, b4⟩, c0, c1, c2, c3, c4⟩ := MK.out _ hy3)))
        refine wp_region_held_drew (S := (fun V => (V.cell? ⟨q, 0, none⟩ = some (.int .i64 a.kind) ∧ V.cell? ⟨q, 1, none⟩ = some (.int .i64 a.n) ∧ V.cell? ⟨q, 2, none⟩ = some (.int .i64 a.d) ∧ V.cell? ⟨q, 3, none⟩ = some (.string a.s) ∧ V.cell? ⟨q, 4, none⟩ = some (.slice A a.l.length ca)) ∧ (V.cell? ⟨q + 1, 0, none⟩ = some (.int .i64 b.kind) ∧ V.cell? ⟨q + 1, 1, none⟩ = some (.int .i64 b.n) ∧ V.cell? ⟨q + 1, 2, none⟩ = some (.int .i64 b.d) ∧ V.cell? ⟨q + 1, 3, none⟩ = some (.string b.s) ∧ V.cell? ⟨q + 1, 4, none⟩ = some (.slice B b.l.length cb)) ∧ (V.cell? ⟨q + 2, 0, none⟩ = some (.int .i64 c.kind) ∧ V.cell? ⟨q + 2, 1, none⟩ = some (.int .i64 c.n) ∧ V.cell? ⟨q + 2, 2, none⟩ = some (.int .i64 c.d) ∧ V.cell? ⟨q + 2, 3, none⟩ = some (.string c.s) ∧ V.cell? ⟨q + 2, 4, none⟩ = some (.slice C c.l.length cc)))) (by kernel_rfl) ?hs19021 (fun hHeld => ?go19021)
        case hs19021 => (exact MK.out _ (by solve_by_elim [X0, X1, X2, X3]))
        refine TK 0 (v := ?v19022) hHeld ?hy19022 ?_
        case hy19022 => (intro w hSw; (try dsimp only at hSw); go_simp <;> first | with_reducible rfl | rw [if_neg (by omega)] | rw [if_pos (by omega)])
        (try simp only [PU])
        refine TK 2 (v := ?v19023) hHeld ?hy19023 ?_
        case hy19023 => (intro w hSw; (try dsimp only at hSw); go_simp <;> first | with_reducible rfl | rw [if_neg (by omega)] | rw [if_pos (by omega)])
        (try simp only [PU])
        refine wpAnyH_ready (rs := [1]) (by kernel_rfl) (by simp) ?_
        refine AllReadyH.cons (o := ⟨_, _, _, _, _, _⟩) rfl (fun K hK => ?step19024x0) ?more19024x0
        case more19024x0 => exact AllReadyH.nil
        go_simp
        (with_reducible refine (HHA.out _ (by solve_by_elim [X0, X1, X2, X3])).mono ?_; rintro r v110 ⟨rfl, hy11⟩; replace hy11 : Ext w1 v110 := Ext.trans (by solve_by_elim [X0, X1, X2, X3]) hy11)
        refine hK.out _ _ ?hS19024x0 (fun H19024 => ?_)
        case hS19024x0 => first | (exact MK.out _ (by solve_by_elim [X0, X1, X2, X3])) | ((try dsimp only); (exact MK.out _ (by solve_by_elim [X0, X1, X2, X3])))
        clear hK K
        clear hHeld
        (try simp only [PU])
        refine wpAnyH_ready (rs := [3]) (by kernel_rfl) (by simp) ?_
        refine AllReadyH.cons (o := ⟨_, _, _, _, _, _⟩) rfl (fun K hK => ?step19025x0) ?more19025x0
        case more19025x0 => exact AllReadyH.nil
        go_simp
        (with_reducible refine (HHB.out _ (by solve_by_elim [X0, X1, X2, X3])).mono ?_; rintro r v130 ⟨rfl, hy13⟩; replace hy13 : Ext w1 v130 := Ext.trans (by solve_by_elim [X0, X1, X2, X3]) hy13)
        refine hK.out _ _ ?hS19025x0 (fun H19025 => ?_)
        case hS19025x0 => first | (exact MK.out _ (by solve_by_elim [X0, X1, X2, X3])) | ((try dsimp only); (exact MK.out _ (by solve_by_elim [X0, X1, X2, X3])))
        clear hK K
        clear H19024
        (try simp only [PU])
        refine TK 4 (v := ?v19026) H19025 ?hy19026 ?_
        case hy19026 => (intro w _; go_simp <;> first | with_reducible rfl | rw [if_neg (by omega)] | rw [if_pos (by omega)])
        (try simp only [PU])
        refine TK 5 (v := ?v19027) H19025 ?hy19027 ?_
        case hy19027 => (intro w _; go_simp <;> rfl)
        (try simp only [PU])
        refine TN 6 H19025 ?_
        (try simp only [PU])
        refine TN 7 H19025 ?_
        (try simp only [PU])
        refine TK 8 (v := ?v19030) H19025 ?hy19030 ?_
        case hy19030 => (intro w _; go_simp <;> rfl)
        (try simp only [PU])
        refine wpAnyH_done (by kernel_rfl) ?_ _
        clear H19025
        obtain ⟨⟨a0, a1, a2, a3, a4⟩, ⟨b0, b1, b2, b3, b4⟩, c0, c1, c2, c3, c4⟩ := MK.out _ hy13
        go_wp2_with (first | (go_at_call 19; ((with_reducible refine (HBC.out _ (by solve_by_elim [X0, X1, X2, X3])).mono ?_); rintro r v4 ⟨rfl, hy4⟩; replace hy4 : Ext w1 v4 := Ext.trans (by solve_by_elim [X0, X1, X2, X3]) hy4; obtain ⟨⟨a0, a1, a2, a3, a4⟩, ⟨b0, b1, b2, b3, b4⟩, c0, c1, c2, c3, c4⟩ := MK.out _ hy4)) | (go_at_call 19; ((with_reducible refine (HAC.out _ (by solve_by_elim [X0, X1, X2, X3])).mono ?_); rintro r v5 ⟨rfl, hy5⟩; replace hy5 : Ext w1 v5 := Ext.trans (by solve_by_elim [X0, X1, X2, X3]) hy5; obtain ⟨⟨a0, a1, a2, a3, a4⟩, ⟨b0, b1, b2, b3, b4⟩, c0, c1, c2, c3, c4⟩ := MK.out _ hy5)) | (go_at_call 9; ((with_reducible refine (HLV.out _ (by solve_by_elim [X0, X1, X2, X3])).mono ?_); rintro r v6 ⟨rfl, hy6⟩; replace hy6 : Ext w1 v6 := Ext.trans (by solve_by_elim [X0, X1, X2, X3]) hy6; obtain ⟨⟨a0, a1, a2, a3, a4⟩, ⟨b0, b1, b2, b3, b4⟩, c0, c1, c2, c3, c4⟩ := MK.out _ hy6)))
        go_ret
        exact ⟨rfl, HX.out.trans hy6⟩
      · have hy0 : y ≤ 0 := htr (by omega) (by omega)
        clear htr
        go_upto_region 4 with (first | (go_at_call 19; ((with_reducible refine (HAB.out _ (by solve_by_elim [X0, X1, X2, X3])).mono ?_); rintro r v1 ⟨rfl, hy1⟩; replace hy1 : Ext w1 v1 := Ext.trans (by solve_by_elim [X0, X1, X2, X3]) hy1; obtain ⟨⟨a0, a1, a2, a3, a4⟩, ⟨b0, b1, b2, b3, b4⟩, c0, c1, c2, c3, c4⟩ := MK.out _ hy1)) | (go_at_call 19; ((with_reducible refine (HBA.out _ (by solve_by_elim [X0, X1, X2, X3])).mono ?_); rintro r v2 ⟨rfl, hy2⟩; replace hy2 : Ext w1 v2 := Ext.trans (by solve_by_elim [X0, X1, X2, X3]) hy2; obtain ⟨⟨a0, a1, a2, a3, a4⟩, ⟨b0, b1, b2, b3, b4⟩, c0, c1, c2, c3, c4⟩ := MK.out _ hy2)) | (go_at_call 20; ((with_reducible refine (HVV.out _ (by solve_by_elim [X0, X1, X2, X3])).mono ?_); rintro r v3 ⟨rfl, hy3⟩; replace hy3 : Ext w1 v3 := Ext.trans (by solve_by_elim [X0, X1, X2, X3]) hy3; obtain ⟨⟨a0, a1, a2, a3, a4⟩, ⟨b0, b1, b2, b3, b4⟩, c0, c1, c2, c3, c4⟩ := MK.out _ hy3)))
        refine wp_region_held_drew (S := (fun V => (V.cell? ⟨q, 0, none⟩ = some (.int .i64 a.kind) ∧ V.cell? ⟨q, 1, none⟩ = some (.int .i64 a.n) ∧ V.cell? ⟨q, 2, none⟩ = some (.int .i64 a.d) ∧ V.cell? ⟨q, 3, none⟩ = some (.string a.s) ∧ V.cell? ⟨q, 4, none⟩ = some (.slice A a.l.length ca)) ∧ (V.cell? ⟨q + 1, 0, none⟩ = some (.int .i64 b.kind) ∧ V.cell? ⟨q + 1, 1, none⟩ = some (.int .i64 b.n) ∧ V.cell? ⟨q + 1, 2, none⟩ = some (.int .i64 b.d) ∧ V.cell? ⟨q + 1, 3, none⟩ = some (.string b.s) ∧ V.cell? ⟨q + 1, 4, none⟩ = some (.slice B b.l.length cb)) ∧ (V.cell? ⟨q + 2, 0, none⟩ = some (.int .i64 c.kind) ∧ V.cell? ⟨q + 2, 1, none⟩ = some (.int .i64 c.n) ∧ V.cell? ⟨q + 2, 2, none⟩ = some (.int .i64 c.d) ∧ V.cell? ⟨q + 2, 3, none⟩ = some (.string c.s) ∧ V.cell? ⟨q + 2, 4, none⟩ = some (.slice C c.l.length cc)))) (by kernel_rfl) ?hs19031 (fun hHeld => ?go19031)
        case hs19031 => (exact MK.out _ (by solve_by_elim [X0, X1, X2, X3]))
        refine TK 0 (v := ?v19032) hHeld ?hy19032 ?_
        case hy19032 => (intro w hSw; (try dsimp only at hSw); go_simp <;> first | with_reducible rfl | rw [if_neg (by omega)] | rw [if_pos (by omega)])
        (try simp only [PU])
        refine TK 2 (v := ?v19033) hHeld ?hy19033 ?_
        case hy19033 => (intro w hSw; (try dsimp only at hSw); go_simp <;> first | with_reducible rfl | rw [if_neg (by omega)] | rw [if_pos (by omega)])
        (try simp only [PU])
        refine wpAnyH_ready (rs := [1]) (by kernel_rfl) (by simp) ?_
        refine AllReadyH.cons (o := ⟨_, _, _, _, _, _⟩) rfl (fun K hK => ?step19034x0) ?more19034x0
        case more19034x0 => exact AllReadyH.nil
        go_simp
        (with_reducible refine (HHA.out _ (by solve_by_elim [X0, X1, X2, X3])).mono ?_; rintro r v110 ⟨rfl, hy11⟩; replace hy11 : Ext w1 v110 := Ext.trans (by solve_by_elim [X0, X1, X2, X3]) hy11)
        refine hK.out _ _ ?hS19034x0 (fun H19034 => ?_)
        case hS19034x0 => first | (exact MK.out _ (by solve_by_elim [X0, X1, X2, X3])) | ((try dsimp only); (exact MK.out _ (by solve_by_elim [X0, X1, X2, X3])))
        clear hK K
        clear hHeld
        (try simp only [PU])
        refine wpAnyH_ready (rs := [3]) (by kernel_rfl) (by simp) ?_
        refine AllReadyH.cons (o := ⟨_, _, _, _, _, _⟩) rfl (fun K hK => ?step19035x0) ?more19035x0
        case more19035x0 => exact AllReadyH.nil
        go_simp
        (with_reducible refine (HHB.out _ (by solve_by_elim [X0, X1, X2, X3])).mono ?_; rintro r v130 ⟨rfl, hy13⟩; replace hy13 : Ext w1 v130 := Ext.trans (by solve_by_elim [X0, X1, X2, X3]) hy13)
        refine hK.out _ _ ?hS19035x0 (fun H19035 => ?_)
        case hS19035x0 => first | (exact MK.out _ (by solve_by_elim [X0, X1, X2, X3])) | ((try dsimp only); (exact MK.out _ (by solve_by_elim [X0, X1, X2, X3])))
        clear hK K
        clear H19034
        (try simp only [PU])
        refine TK 4 (v := ?v19036) H19035 ?hy19036 ?_
        case hy19036 => (intro w _; go_simp <;> first | with_reducible rfl | rw [if_neg (by omega)] | rw [if_pos (by omega)])
        (try simp only [PU])
        refine TK 5 (v := ?v19037) H19035 ?hy19037 ?_
        case hy19037 => (intro w _; go_simp <;> rfl)
        (try simp only [PU])
        refine TN 6 H19035 ?_
        (try simp only [PU])
        refine TN 7 H19035 ?_
        (try simp only [PU])
        refine TK 8 (v := ?v19040) H19035 ?hy19040 ?_
        case hy19040 => (intro w _; go_simp <;> rfl)
        (try simp only [PU])
        refine wpAnyH_done (by kernel_rfl) ?_ _
        clear H19035
        obtain ⟨⟨a0, a1, a2, a3, a4⟩, ⟨b0, b1, b2, b3, b4⟩, c0, c1, c2, c3, c4⟩ := MK.out _ hy13
        go_wp2_with (first | (go_at_call 19; ((with_reducible refine (HBC.out _ (by solve_by_elim [X0, X1, X2, X3])).mono ?_); rintro r v4 ⟨rfl, hy4⟩; replace hy4 : Ext w1 v4 := Ext.trans (by solve_by_elim [X0, X1, X2, X3]) hy4; obtain ⟨⟨a0, a1, a2, a3, a4⟩, ⟨b0, b1, b2, b3, b4⟩, c0, c1, c2, c3, c4⟩ := MK.out _ hy4)) | (go_at_call 19; ((with_reducible refine (HAC.out _ (by solve_by_elim [X0, X1, X2, X3])).mono ?_); rintro r v5 ⟨rfl, hy5⟩; replace hy5 : Ext w1 v5 := Ext.trans (by solve_by_elim [X0, X1, X2, X3]) hy5; obtain ⟨⟨a0, a1, a2, a3, a4⟩, ⟨b0, b1, b2, b3, b4⟩, c0, c1, c2, c3, c4⟩ := MK.out _ hy5)) | (go_at_call 9; ((with_reducible refine (HLV.out _ (by solve_by_elim [X0, X1, X2, X3])).mono ?_); rintro r v6 ⟨rfl, hy6⟩; replace hy6 : Ext w1 v6 := Ext.trans (by solve_by_elim [X0, X1, X2, X3]) hy6; obtain ⟨⟨a0, a1, a2, a3, a4⟩, ⟨b0, b1, b2, b3, b4⟩, c0, c1, c2, c3, c4⟩ := MK.out _ hy6)))
        go_ret
        exact ⟨rfl, HX.out.trans hy6⟩
  · obtain rfl : k' = 0 := by omega
    obtain rfl : v = 0 := hkv.1 rfl
    clear hk' hkv
    have hnh : ¬ ha < hb := fun h => by have := hh h; omega
    have hdd : decide (ha < hb) = false := decide_eq_false hnh
    clear hh
    by_cases hx0 : 0 < x
    · clear htr
      go_upto_region 4 with (first | (go_at_call 19; ((with_reducible refine (HAB.out _ (by solve_by_elim [X0, X1, X2, X3])).mono ?_); rintro r v1 ⟨rfl, hy1⟩; replace hy1 : Ext w1 v1 := Ext.trans (by solve_by_elim [X0, X1, X2, X3]) hy1; obtain ⟨⟨a0, a1, a2, a3, a4⟩, ⟨b0, b1, b2, b3, b4⟩, c0, c1, c2, c3, c4⟩ := MK.out _ hy1)) | (go_at_call 19; ((with_reducible refine (HBA.out _ (by solve_by_elim [X0, X1, X2, X3])).mono ?_); rintro r v2 ⟨rfl, hy2⟩; replace hy2 : Ext w1 v2 := Ext.trans (by solve_by_elim [X0, X1, X2, X3]) hy2; obtain ⟨⟨a0, a1, a2, a3, a4⟩, ⟨b0, b1, b2, b3, b4⟩, c0, c1, c2, c3, c4⟩ := MK.out _ hy2)) | (go_at_call 20; ((with_reducible refine (HVV.out _ (by solve_by_elim [X0, X1, X2, X3])).mono ?_); rintro r v3 ⟨rfl, hy3⟩; replace hy3 : Ext w1 v3 := Ext.trans (by solve_by_elim [X0, X1, X2, X3]) hy3; obtain ⟨⟨a0, a1, a2, a3, a4⟩, ⟨b0, b1, b2, b3, b4⟩, c0, c1, c2, c3, c4⟩ := MK.out _ hy3)))
      refine wp_region_held_drew (S := (fun V => (V.cell? ⟨q, 0, none⟩ = some (.int .i64 a.kind) ∧ V.cell? ⟨q, 1, none⟩ = some (.int .i64 a.n) ∧ V.cell? ⟨q, 2, none⟩ = some (.int .i64 a.d) ∧ V.cell? ⟨q, 3, none⟩ = some (.string a.s) ∧ V.cell? ⟨q, 4, none⟩ = some (.slice A a.l.length ca)) ∧ (V.cell? ⟨q + 1, 0, none⟩ = some (.int .i64 b.kind) ∧ V.cell? ⟨q + 1, 1, none⟩ = some (.int .i64 b.n) ∧ V.cell? ⟨q + 1, 2, none⟩ = some (.int .i64 b.d) ∧ V.cell? ⟨q + 1, 3, none⟩ = some (.string b.s) ∧ V.cell? ⟨q + 1, 4, none⟩ = some (.slice B b.l.length cb)) ∧ (V.cell? ⟨q + 2, 0, none⟩ = some (.int .i64 c.kind) ∧ V.cell? ⟨q + 2, 1, none⟩ = some (.int .i64 c.n) ∧ V.cell? ⟨q + 2, 2, none⟩ = some (.int .i64 c.d) ∧ V.cell? ⟨q + 2, 3, none⟩ = some (.string c.s) ∧ V.cell? ⟨q + 2, 4, none⟩ = some (.slice C c.l.length cc)))) (by kernel_rfl) ?hs19041 (fun hHeld => ?go19041)
      case hs19041 => (exact MK.out _ (by solve_by_elim [X0, X1, X2, X3]))
      refine TK 0 (v := ?v19042) hHeld ?hy19042 ?_
      case hy19042 => (intro w hSw; (try dsimp only at hSw); go_simp <;> first | with_reducible rfl | rw [if_neg (by omega)] | rw [if_pos (by omega)])
      (try simp only [PU])
      refine TK 2 (v := ?v19043) hHeld ?hy19043 ?_
      case hy19043 => (intro w hSw; (try dsimp only at hSw); go_simp <;> first | with_reducible rfl | rw [if_neg (by omega)] | rw [if_pos (by omega)])
      (try simp only [PU])
      refine wpAnyH_ready (rs := [1]) (by kernel_rfl) (by simp) ?_
      refine AllReadyH.cons (o := ⟨_, _, _, _, _, _⟩) rfl (fun K hK => ?step19044x0) ?more19044x0
      case more19044x0 => exact AllReadyH.nil
      go_simp
      (with_reducible refine (HHA.out _ (by solve_by_elim [X0, X1, X2, X3])).mono ?_; rintro r v110 ⟨rfl, hy11⟩; replace hy11 : Ext w1 v110 := Ext.trans (by solve_by_elim [X0, X1, X2, X3]) hy11)
      refine hK.out _ _ ?hS19044x0 (fun H19044 => ?_)
      case hS19044x0 => first | (exact MK.out _ (by solve_by_elim [X0, X1, X2, X3])) | ((try dsimp only); (exact MK.out _ (by solve_by_elim [X0, X1, X2, X3])))
      clear hK K
      clear hHeld
      (try simp only [PU])
      refine wpAnyH_ready (rs := [3]) (by kernel_rfl) (by simp) ?_
      refine AllReadyH.cons (o := ⟨_, _, _, _, _, _⟩) rfl (fun K hK => ?step19045x0) ?more19045x0
      case more19045x0 => exact AllReadyH.nil
      go_simp
      (with_reducible refine (HHB.out _ (by solve_by_elim [X0, X1, X2, X3])).mono ?_; rintro r v130 ⟨rfl, hy13⟩; replace hy13 : Ext w1 v130 := Ext.trans (by solve_by_elim [X0, X1, X2, X3]) hy13)
      refine hK.out _ _ ?hS19045x0 (fun H19045 => ?_)
      case hS19045x0 => first | (exact MK.out _ (by solve_by_elim [X0, X1, X2, X3])) | ((try dsimp only); (exact MK.out _ (by solve_by_elim [X0, X1, X2, X3])))
      clear hK K
      clear H19044
      (try simp only [PU])
      refine TK 4 (v := ?v19046) H19045 ?hy19046 ?_
      case hy19046 => (intro w _; go_simp <;> first | with_reducible rfl | rw [if_neg (by omega)] | rw [if_pos (by omega)])
      (try simp only [PU])
      refine TK 5 (v := ?v19047) H19045 ?hy19047 ?_
      case hy19047 => (intro w _; go_simp <;> rfl)
      (try simp only [PU])
      refine TN 6 H19045 ?_
      (try simp only [PU])
      refine TN 7 H19045 ?_
      (try simp only [PU])
      refine TK 8 (v := ?v19050) H19045 ?hy19050 ?_
      case hy19050 => (intro w _; go_simp <;> rfl)
      (try simp only [PU])
      refine wpAnyH_done (by kernel_rfl) ?_ _
      clear H19045
      obtain ⟨⟨a0, a1, a2, a3, a4⟩, ⟨b0, b1, b2, b3, b4⟩, c0, c1, c2, c3, c4⟩ := MK.out _ hy13
      go_wp2_with (first | (go_at_call 19; ((with_reducible refine (HBC.out _ (by solve_by_elim [X0, X1, X2, X3])).mono ?_); rintro r v4 ⟨rfl, hy4⟩; replace hy4 : Ext w1 v4 := Ext.trans (by solve_by_elim [X0, X1, X2, X3]) hy4; obtain ⟨⟨a0, a1, a2, a3, a4⟩, ⟨b0, b1, b2, b3, b4⟩, c0, c1, c2, c3, c4⟩ := MK.out _ hy4)) | (go_at_call 19; ((with_reducible refine (HAC.out _ (by solve_by_elim [X0, X1, X2, X3])).mono ?_); rintro r v5 ⟨rfl, hy5⟩; replace hy5 : Ext w1 v5 := Ext.trans (by solve_by_elim [X0, X1, X2, X3]) hy5; obtain ⟨⟨a0, a1, a2, a3, a4⟩, ⟨b0, b1, b2, b3, b4⟩, c0, c1, c2, c3, c4⟩ := MK.out _ hy5)) | (go_at_call 9; ((with_reducible refine (HLV.out _ (by solve_by_elim [X0, X1, X2, X3])).mono ?_); rintro r v6 ⟨rfl, hy6⟩; replace hy6 : Ext w1 v6 := Ext.trans (by solve_by_elim [X0, X1, X2, X3]) hy6; obtain ⟨⟨a0, a1, a2, a3, a4⟩, ⟨b0, b1, b2, b3, b4⟩, c0, c1, c2, c3, c4⟩ := MK.out _ hy6)))
      go_ret
      exact ⟨rfl, HX.out.trans hy6⟩
    · have hy0 : y ≤ 0 := htr (by omega) (by omega)
      clear htr
      go_upto_region 4 with (first | (go_at_call 19; ((with_reducible refine (HAB.out _ (by solve_by_elim [X0, X1, X2, X3])).mono ?_); rintro r v1 ⟨rfl, hy1⟩; replace hy1 : Ext w1 v1 := Ext.trans (by solve_by_elim [X0, X1, X2, X3]) hy1; obtain ⟨⟨a0, a1, a2, a3, a4⟩, ⟨b0, b1, b2, b3, b4⟩, c0, c1, c2, c3, c4⟩ := MK.out _ hy1)) | (go_at_call 19; ((with_reducible refine (HBA.out _ (by solve_by_elim [X0, X1, X2, X3])).mono ?_); rintro r v2 ⟨rfl, hy2⟩; replace hy2 : Ext w1 v2 := Ext.trans (by solve_by_elim [X0, X1, X2, X3]) hy2; obtain ⟨⟨a0, a1, a2, a3, a4⟩, ⟨b0, b1, b2, b3, b4⟩, c0, c1, c2, c3, c4⟩ := MK.out _ hy2)) | (go_at_call 20; ((with_reducible refine (HVV.out _ (by solve_by_elim [X0, X1, X2, X3])).mono ?_); rintro r v3 ⟨rfl, hy3⟩; replace hy3 : Ext w1 v3 := Ext.trans (by solve_by_elim [X0, X1, X2, X3]) hy3; obtain ⟨⟨a0, a1, a2, a3, a4⟩, ⟨b0, b1, b2, b3, b4⟩, c0, c1, c2, c3, c4⟩ := MK.out _ hy3)))
      refine wp_region_held_drew (S := (fun V => (V.cell? ⟨q, 0, none⟩ = some (.int .i64 a.kind) ∧ V.cell? ⟨q, 1, none⟩ = some (.int .i64 a.n) ∧ V.cell? ⟨q, 2, none⟩ = some (.int .i64 a.d) ∧ V.cell? ⟨q, 3, none⟩ = some (.string a.s) ∧ V.cell? ⟨q, 4, none⟩ = some (.slice A a.l.length ca)) ∧ (V.cell? ⟨q + 1, 0, none⟩ = some (.int .i64 b.kind) ∧ V.cell? ⟨q + 1, 1, none⟩ = some (.int .i64 b.n) ∧ V.cell? ⟨q + 1, 2, none⟩ = some (.int .i64 b.d) ∧ V.cell? ⟨q + 1, 3, none⟩ = some (.string b.s) ∧ V.cell? ⟨q + 1, 4, none⟩ = some (.slice B b.l.length cb)) ∧ (V.cell? ⟨q + 2, 0, none⟩ = some (.int .i64 c.kind) ∧ V.cell? ⟨q + 2, 1, none⟩ = some (.int .i64 c.n) ∧ V.cell? ⟨q + 2, 2, none⟩ = some (.int .i64 c.d) ∧ V.cell? ⟨q + 2, 3, none⟩ = some (.string c.s) ∧ V.cell? ⟨q + 2, 4, none⟩ = some (.slice C c.l.length cc)))) (by kernel_rfl) ?hs19051 (fun hHeld => ?go19051)
      case hs19051 => (exact MK.out _ (by solve_by_elim [X0, X1, X2, X3]))
      refine TK 0 (v := ?v19052) hHeld ?hy19052 ?_
      case hy19052 => (intro w hSw; (try dsimp only at hSw); go_simp <;> first | with_reducible rfl | rw [if_neg (by omega)] | rw [if_pos (by omega)])
      (try simp only [PU])
      refine TK 2 (v := ?v19053) hHeld ?hy19053 ?_
      case hy19053 => (intro w hSw; (try dsimp only at hSw); go_simp <;> first | with_reducible rfl | rw [if_neg (by omega)] | rw [if_pos (by omega)])
      (try simp only [PU])
      refine wpAnyH_ready (rs := [1]) (by kernel_rfl) (by simp) ?_
      refine AllReadyH.cons (o := ⟨_, _, _, _, _, _⟩) rfl (fun K hK => ?step19054x0) ?more19054x0
      case more19054x0 => exact AllReadyH.nil
      go_simp
      (with_reducible refine (HHA.out _ (by solve_by_elim [X0, X1, X2, X3])).mono ?_; rintro r v110 ⟨rfl, hy11⟩; replace hy11 : Ext w1 v110 := Ext.trans (by solve_by_elim [X0, X1, X2, X3]) hy11)
      refine hK.out _ _ ?hS19054x0 (fun H19054 => ?_)
      case hS19054x0 => first | (exact MK.out _ (by solve_by_elim [X0, X1, X2, X3])) | ((try dsimp only); (exact MK.out _ (by solve_by_elim [X0, X1, X2, X3])))
      clear hK K
      clear hHeld
      (try simp only [PU])
      refine wpAnyH_ready (rs := [3]) (by kernel_rfl) (by simp) ?_
      refine AllReadyH.cons (o := ⟨_, _, _, _, _, _⟩) rfl (fun K hK => ?step19055x0) ?more19055x0
      case more19055x0 => exact AllReadyH.nil
      go_simp
      (with_reducible refine (HHB.out _ (by solve_by_elim [X0, X1, X2, X3])).mono ?_; rintro r v130 ⟨rfl, hy13⟩; replace hy13 : Ext w1 v130 := Ext.trans (by solve_by_elim [X0, X1, X2, X3]) hy13)
      refine hK.out _ _ ?hS19055x0 (fun H19055 => ?_)
      case hS19055x0 => first | (exact MK.out _ (by solve_by_elim [X0, X1, X2, X3])) | ((try dsimp only); (exact MK.out _ (by solve_by_elim [X0, X1, X2, X3])))
      clear hK K
      clear H19054
      (try simp only [PU])
      refine TK 4 (v := ?v19056) H19055 ?hy19056 ?_
      case hy19056 => (intro w _; go_simp <;> first | with_reducible rfl | rw [if_neg (by omega)] | rw [if_pos (by omega)])
      (try simp only [PU])
      refine TK 5 (v := ?v19057) H19055 ?hy19057 ?_
      case hy19057 => (intro w _; go_simp <;> rfl)
      (try simp only [PU])
      refine TN 6 H19055 ?_
      (try simp only [PU])
      refine TN 7 H19055 ?_
      (try simp only [PU])
      refine TK 8 (v := ?v19060) H19055 ?hy19060 ?_
      case hy19060 => (intro w _; go_simp <;> rfl)
      (try simp only [PU])
      refine wpAnyH_done (by kernel_rfl) ?_ _
      clear H19055
      obtain ⟨⟨a0, a1, a2, a3, a4⟩, ⟨b0, b1, b2, b3, b4⟩, c0, c1, c2, c3, c4⟩ := MK.out _ hy13
      go_wp2_with (first | (go_at_call 19; ((with_reducible refine (HBC.out _ (by solve_by_elim [X0, X1, X2, X3])).mono ?_); rintro r v4 ⟨rfl, hy4⟩; replace hy4 : Ext w1 v4 := Ext.trans (by solve_by_elim [X0, X1, X2, X3]) hy4; obtain ⟨⟨a0, a1, a2, a3, a4⟩, ⟨b0, b1, b2, b3, b4⟩, c0, c1, c2, c3, c4⟩ := MK.out _ hy4)) | (go_at_call 19; ((with_reducible refine (HAC.out _ (by solve_by_elim [X0, X1, X2, X3])).mono ?_); rintro r v5 ⟨rfl, hy5⟩; replace hy5 : Ext w1 v5 := Ext.trans (by solve_by_elim [X0, X1, X2, X3]) hy5; obtain ⟨⟨a0, a1, a2, a3, a4⟩, ⟨b0, b1, b2, b3, b4⟩, c0, c1, c2, c3, c4⟩ := MK.out _ hy5)) | (go_at_call 9; ((with_reducible refine (HLV.out _ (by solve_by_elim [X0, X1, X2, X3])).mono ?_); rintro r v6 ⟨rfl, hy6⟩; replace hy6 : Ext w1 v6 := Ext.trans (by solve_by_elim [X0, X1, X2, X3]) hy6; obtain ⟨⟨a0, a1, a2, a3, a4⟩, ⟨b0, b1, b2, b3, b4⟩, c0, c1, c2, c3, c4⟩ := MK.out _ hy6)))
      go_ret
      exact ⟨rfl, HX.out.trans hy6⟩
  · obtain rfl : k' = -1 := by omega
    have hv0 : (v == 0) = false := beq_eq_false_iff_ne.2 (fun h => by have := hkv.2 h; omega)
    clear hk' hkv
    have hnh : ¬ ha < hb := fun h => by have := hh h; omega
    have hdd : decide (ha < hb) = false := decide_eq_false hnh
    clear hh htr
    go_upto_region 4 with (first | (go_at_call 19; ((with_reducible refine (HAB.out _ (by solve_by_elim [X0, X1, X2, X3])).mono ?_); rintro r v1 ⟨rfl, hy1⟩; replace hy1 : Ext w1 v1 := Ext.trans (by solve_by_elim [X0, X1, X2, X3]) hy1; obtain ⟨⟨a0, a1, a2, a3, a4⟩, ⟨b0, b1, b2, b3, b4⟩, c0, c1, c2, c3, c4⟩ := MK.out _ hy1)) | (go_at_call 19; ((with_reducible refine (HBA.out _ (by solve_by_elim [X0, X1, X2, X3])).mono ?_); rintro r v2 ⟨rfl, hy2⟩; replace hy2 : Ext w1 v2 := Ext.trans (by solve_by_elim [X0, X1, X2, X3]) hy2; obtain ⟨⟨a0, a1, a2, a3, a4⟩, ⟨b0, b1, b2, b3, b4⟩, c0, c1, c2, c3, c4⟩ := MK.out _ hy2)) | (go_at_call 20; ((with_reducible refine (HVV.out _ (by solve_by_elim [X0, X1, X2, X3])).mono ?_); rintro r v3 ⟨rfl, hy3⟩; replace hy3 : Ext w1 v3 := Ext.trans (by solve_by_elim [X0, X1, X2, X3]) hy3; obtain ⟨⟨a0, a1, a2, a3, a4⟩, ⟨b0, b1, b2, b3, b4⟩, c0, c1, c2, c3, c4⟩ := MK.out _ hy3)))
    refine wp_region_held_drew (S := (fun V => (V.cell? ⟨q, 0, none⟩ = some (.int .i64 a.kind) ∧ V.cell? ⟨q, 1, none⟩ = some (.int .i64 a.n) ∧ V.cell? ⟨q, 2, none⟩ = some (.int .i64 a.d) ∧ V.cell? ⟨q, 3, none⟩ = some (.string a.s) ∧ V.cell? ⟨q, 4, none⟩ = some (.slice A a.l.length ca)) ∧ (V.cell? ⟨q + 1, 0, none⟩ = some (.int .i64 b.kind) ∧ V.cell? ⟨q + 1, 1, none⟩ = some (.int .i64 b.n) ∧ V.cell? ⟨q + 1, 2, none⟩ = some (.int .i64 b.d) ∧ V.cell? ⟨q + 1, 3, none⟩ = some (.string b.s) ∧ V.cell? ⟨q + 1, 4, none⟩ = some (.slice B b.l.length cb)) ∧ (V.cell? ⟨q + 2, 0, none⟩ = some (.int .i64 c.kind) ∧ V.cell? ⟨q + 2, 1, none⟩ = some (.int .i64 c.n) ∧ V.cell? ⟨q + 2, 2, none⟩ = some (.int .i64 c.d) ∧ V.cell? ⟨q + 2, 3, none⟩ = some (.string c.s) ∧ V.cell? ⟨q + 2, 4, none⟩ = some (.slice C c.l.length cc)))) (by kernel_rfl) ?hs19061 (fun hHeld => ?go19061)
    case hs19061 => (exact MK.out _ (by solve_by_elim [X0, X1, X2, X3]))
    refine TK 0 (v := ?v19062) hHeld ?hy19062 ?_
    case hy19062 => (intro w hSw; (try dsimp only at hSw); go_simp <;> first | with_reducible rfl | rw [if_neg (by omega)] | rw [if_pos (by omega)])
    (try simp only [PU])
    refine TK 2 (v := ?v19063) hHeld ?hy19063 ?_
    case hy19063 => (intro w hSw; (try dsimp only at hSw); go_simp <;> first | with_reducible rfl | rw [if_neg (by omega)] | rw [if_pos (by omega)])
    (try simp only [PU])
    refine wpAnyH_ready (rs := [1]) (by kernel_rfl) (by simp) ?_
    refine AllReadyH.cons (o := ⟨_, _, _, _, _, _⟩) rfl (fun K hK => ?step19064x0) ?more19064x0
    case more19064x0 => exact AllReadyH.nil
    go_simp
    (with_reducible refine (HHA.out _ (by solve_by_elim [X0, X1, X2, X3])).mono ?_; rintro r v110 ⟨rfl, hy11⟩; replace hy11 : Ext w1 v110 := Ext.trans (by solve_by_elim [X0, X1, X2, X3]) hy11)
    refine hK.out _ _ ?hS19064x0 (fun H19064 => ?_)
    case hS19064x0 => first | (exact MK.out _ (by solve_by_elim [X0, X1, X2, X3])) | ((try dsimp only); (exact MK.out _ (by solve_by_elim [X0, X1, X2, X3])))
    clear hK K
    clear hHeld
    (try simp only [PU])
    refine wpAnyH_ready (rs := [3]) (by kernel_rfl) (by simp) ?_
    refine AllReadyH.cons (o := ⟨_, _, _, _, _, _⟩) rfl (fun K hK => ?step19065x0) ?more19065x0
    case more19065x0 => exact AllReadyH.nil
    go_simp
    (with_reducible refine (HHB.out _ (by solve_by_elim [X0, X1, X2, X3])).mono ?_; rintro r v130 ⟨rfl, hy13⟩; replace hy13 : Ext w1 v130 := Ext.trans (by solve_by_elim [X0, X1, X2, X3]) hy13)
    refine hK.out _ _ ?hS19065x0 (fun H19065 => ?_)
    case hS19065x0 => first | (exact MK.out _ (by solve_by_elim [X0, X1, X2, X3])) | ((try dsimp only); (exact MK.out _ (by solve_by_elim [X0, X1, X2, X3])))
    clear hK K
    clear H19064
    (try simp only [PU])
    refine TK 4 (v := ?v19066) H19065 ?hy19066 ?_
    case hy19066 => (intro w _; go_simp <;> first | with_reducible rfl | rw [if_neg (by omega)] | rw [if_pos (by omega)])
    (try simp only [PU])
    refine TK 5 (v := ?v19067) H19065 ?hy19067 ?_
    case hy19067 => (intro w _; go_simp <;> rfl)
    (try simp only [PU])
    refine TN 6 H19065 ?_
    (try simp only [PU])
    refine TN 7 H19065 ?_
    (try simp only [PU])
    refine TK 8 (v := ?v19070) H19065 ?hy19070 ?_
    case hy19070 => (intro w _; go_simp <;> rfl)
    (try simp only [PU])
    refine wpAnyH_done (by kernel_rfl) ?_ _
    clear H19065
    obtain ⟨⟨a0, a1, a2, a3, a4⟩, ⟨b0, b1, b2, b3, b4⟩, c0, c1, c2, c3, c4⟩ := MK.out _ hy13
    go_wp2_with (first | (go_at_call 19; ((with_reducible refine (HBC.out _ (by solve_by_elim [X0, X1, X2, X3])).mono ?_); rintro r v4 ⟨rfl, hy4⟩; replace hy4 : Ext w1 v4 := Ext.trans (by solve_by_elim [X0, X1, X2, X3]) hy4; obtain ⟨⟨a0, a1, a2, a3, a4⟩, ⟨b0, b1, b2, b3, b4⟩, c0, c1, c2, c3, c4⟩ := MK.out _ hy4)) | (go_at_call 19; ((with_reducible refine (HAC.out _ (by solve_by_elim [X0, X1, X2, X3])).mono ?_); rintro r v5 ⟨rfl, hy5⟩; replace hy5 : Ext w1 v5 := Ext.trans (by solve_by_elim [X0, X1, X2, X3]) hy5; obtain ⟨⟨a0, a1, a2, a3, a4⟩, ⟨b0, b1, b2, b3, b4⟩, c0, c1, c2, c3, c4⟩ := MK.out _ hy5)) | (go_at_call 9; ((with_reducible refine (HLV.out _ (by solve_by_elim [X0, X1, X2, X3])).mono ?_); rintro r v6 ⟨rfl, hy6⟩; replace hy6 : Ext w1 v6 := Ext.trans (by solve_by_elim [X0, X1, X2, X3]) hy6; obtain ⟨⟨a0, a1, a2, a3, a4⟩, ⟨b0, b1, b2, b3, b4⟩, c0, c1, c2, c3, c4⟩ := MK.out _ hy6)))
    go_ret
    exact ⟨rfl, HX.out.trans hy6⟩
end Go.Proofs.YtigmdddeplnciaaGreatDoor
