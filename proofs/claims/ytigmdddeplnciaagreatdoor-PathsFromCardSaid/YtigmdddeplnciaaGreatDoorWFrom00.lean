/- PARTS OF THE WALKS, joined: PtR, PtS. -/
import Derived.Test.YtigmdddeplnciaaGreatDoorV00
import Derived.Test.YtigmdddeplnciaaGreatDoorV01
import Derived.Test.YtigmdddeplnciaaGreatDoorV02
import Derived.Test.YtigmdddeplnciaaGreatDoorV03
import Derived.Test.YtigmdddeplnciaaGreatDoorV04
import Derived.Test.YtigmdddeplnciaaGreatDoorV05
import Derived.Test.YtigmdddeplnciaaGreatDoorV06
import Derived.Test.YtigmdddeplnciaaGreatDoorV07
import Derived.Test.YtigmdddeplnciaaGreatDoorV08
import Derived.Test.YtigmdddeplnciaaGreatDoorV09
import Derived.Test.YtigmdddeplnciaaGreatDoorV10
import Derived.Test.YtigmdddeplnciaaGreatDoorV11
import Derived.Test.YtigmdddeplnciaaGreatDoorV12
import Derived.Test.YtigmdddeplnciaaGreatDoorV13
import Derived.Test.YtigmdddeplnciaaGreatDoorV14
import Derived.Test.YtigmdddeplnciaaGreatDoorV15
import Derived.Test.YtigmdddeplnciaaGreatDoorV16
import Derived.Test.YtigmdddeplnciaaGreatDoorV17
import Derived.Test.YtigmdddeplnciaaGreatDoorV18
import Derived.Test.YtigmdddeplnciaaGreatDoorV19
import Derived.Test.YtigmdddeplnciaaGreatDoorV20
import Derived.Deep.RegionHeld3
import Derived.Deep.CutBlock
import Derived.Deep.DeepCutAuto
import Derived.Lib.BitFns
import Derived.Test.YtigmdddeplnciaaGreatDoorShelf
import Derived.Shelf.Spec.BitsCarry
import Derived.Deep.Cut
import Derived.Lib.ItoaNum
import Derived.Lib.AtoiAll
import Derived.Deep.QuietTactic
import Derived.BigQuiet
import Derived.Test.YtigmdddeplnciaaGreatDoorProg
import Derived.WalkKit
import Derived.WalkSpells
import Derived.WalkLawsBesides
import Derived.Lib.Hide
import Derived.Sort.Walk0
import Derived.Lib.Small
import Derived.Laws.CopyRow
import Derived.Lib.AppendZerosOnto
import Derived.Lib.SlFresh
import Derived.Laws.AppendOwn
import Derived.Laws.OwnMore
import Derived.OwnWalk
import Derived.Deep.AppendLies
import Derived.Deep.MidRow
import Derived.Below
import Derived.Laws.Rows
import Derived.Deep.Draws
import Derived.OrdersHeld
import Derived.Maps.AppendAt
import Derived.Test.YtigmdddeplnciaaGreatDoorShelfG
import Derived.Shelf.SlSortCmp.NoneTotal
import Derived.Shelf.SlSortCmp.WholeK
import Derived.Calls
import Derived.Laws.BitsAllLaws
import Derived.Deep.RegionHeld
import Derived.Deep.CutRange
import Derived.Maps.OwnSet
import Derived.Maps.OwnOps
import Derived.BigRegion
import Derived.Sort.LotA
/- THE WALK over the reference's From. -/
namespace Go.Proofs.YtigmdddeplnciaaGreatDoor
open Go.RowKit
theorem vals_lt {W : World} {ok : Nat → Prop} {A : Option Addr} {l : List Val} (h : Vals W ok A l) : Vals W (fun b => ok b ∧ b < W.heap.size) A l := h.keep' (fun _ _ _ hb hc => ⟨hc, hb, block_lt_of_cell hc⟩)
theorem lv_start {w w1 w3 : World} (hx : Ext w w3) (hb : w.heap.size ≤ w1.heap.size) (hw : w1.heap.size ≤ w3.heap.size) (s : Int) : ∃ w4, w4 = (w3.alloc (.cells #[.int .i64 (nodeV s).kind, .int .i64 (nodeV s).n, .int .i64 (nodeV s).d, .string (nodeV s).s, .slice none (nodeV s).l.length 0] 37)).alloc (.cells #[.int .i64 7, .int .i64 0, .int .i64 0, .string ⟨#[]⟩, .slice (some ⟨w3.heap.size, 0, none⟩) 1 1] 37) ∧ Lv w w1.heap.size w4 (.slice none 0 0) [] (.slice none 0 0) [] (some ⟨w3.heap.size + 1, 0, none⟩) [pv s []] := by
 have hx4 : Ext w3 ((w3.alloc (.cells #[.int .i64 (nodeV s).kind, .int .i64 (nodeV s).n, .int .i64 (nodeV s).d, .string (nodeV s).s, .slice none (nodeV s).l.length 0] 37)).alloc (.cells #[.int .i64 7, .int .i64 0, .int .i64 0, .string ⟨#[]⟩, .slice (some ⟨w3.heap.size, 0, none⟩) 1 1] 37)) := ((Ext.refl _).alloc _).alloc _
 refine ⟨_, rfl, hx.trans hx4, hb, Nat.le_trans hw hx4.le, OwnG.nil _ _ _ _ _, OwnG.nil _ _ _ _ _, ?_, .inl rfl, .inl rfl⟩
 refine ⟨by simp, fun _ => ⟨_, _, rfl, fun k hk => ?_⟩⟩
 have hk0 : k = 0 := by simp at hk; exact hk
 subst hk0
 refine VCells.iff.2 ⟨⟨by omega, by simp [Value.ownBlock], by simp [Value.ownBlock]⟩, some ⟨w3.heap.size, 0, none⟩, 1, ⟨by go_simp; rfl, by go_simp; rfl, by go_simp; rfl, by go_simp; rfl, by go_simp; rfl⟩, Nat.le_refl _, ?_⟩
 refine ⟨by show (1 : Nat) ≤ _; decide, fun _ => ⟨_, _, rfl, fun k hk => ?_⟩⟩
 have hk0 : k = 0 := by have h1 : k < 1 := hk; omega
 subst hk0
 exact VCells.iff.2 ⟨⟨hw, by simp [Value.ownBlock], by simp [Value.ownBlock]⟩, none, 0, ⟨by go_simp; rfl, by go_simp; rfl, by go_simp; rfl, by go_simp; rfl, by go_simp; rfl⟩, Nat.le_refl _, SliceR.nil _ _ _⟩
set_option maxRecDepth 100000 in
set_option maxHeartbeats 12800000 in
theorem r24_From (g : GraphG) (types : List ByteArray) (s dir mode mn mx : Int) (ok ok' : Nat → Prop) (A B T : Option Addr) (c d e : Nat) (w : World) (hg : GraphAt w ok A B g) (hsz : SzG g) (ht : Strs w ok' T types) (hcnt : 0 ≤ mx → mx ≤ 6 → (g.edges.length + 1) ^ mx.toNat ≤ 4000) :
  Calls Tryz.prog 12 #[.agg #[.slice A g.nodes.length c, .slice B g.edges.length d, .int .i64 g.nn, .int .i64 g.ne], .int .i64 s, .slice T types.length e, .int .i64 dir, .int .i64 mode, .int .i64 mn, .int .i64 mx] w fun r w' => ∃ A' c', r = .returned (.slice A' (fromP g s types dir mode mn mx).length c') ∧ (fromP g s types dir mode mn mx).length ≤ c' ∧ Vals w' (fun b => w.heap.size ≤ b) A' (fromP g s types dir mode mn mx) ∧ Ext w w' := by
 obtain ⟨q, w1, hq, hw1, g0, g1, g2, g3, hx1⟩ := box_graph w A B c d g 25
 have HW1 := Lib.hid hw1
 have HQ := Lib.hid hq
 have HCH := Lib.hid (fun W (e' : Ext w1 W) => r7_Check g ok A B c d W (hg.ext (hx1.trans e')) hsz)
 have HHA := Lib.hid (fun W (e' : Ext w1 W) => r24_has g s ok A B c d W (hg.nodes.ext (hx1.trans e')))
 have HNO := Lib.hid (from_no (g := g) (s := s) (types := types) (dir := dir) (mode := mode) (mn := mn) (mx := mx))
 have HED := Lib.hid (hg.edges.ext hx1)
 have HT0 := Lib.hid (ht.ext hx1)
 have HCN := Lib.hid hcnt
 have HX1 := Lib.hid hx1
 have HW1L := Lib.hid (show w.heap.size ≤ w1.heap.size from hx1.le)
 have MKG := Lib.hid (fun V (e' : Ext w1 V) => (⟨e'.cell g0, e'.cell g1, e'.cell g2, e'.cell g3⟩ : V.cell? ⟨q, 0, none⟩ = some (.slice A g.nodes.length c) ∧ V.cell? ⟨q, 1, none⟩ = some (.slice B g.edges.length d) ∧ V.cell? ⟨q, 2, none⟩ = some (.int .i64 g.nn) ∧ V.cell? ⟨q, 3, none⟩ = some (.int .i64 g.ne)))
 obtain ⟨RR, hRR⟩ : ∃ RR, RR = fromP g s types dir mode mn mx := ⟨_, rfl⟩
 rw [← hRR] at HNO ⊢
 have HFP := Lib.hid hRR
 clear hw1 hq hg hsz ht hcnt hRR hx1
 go_enter Tryz.func12, Tryz.ntmps12
 go_upto_region 1 with (fail)
 rw [← HW1.out, ← HQ.out]
 clear HW1
 by_cases hc : chkG g = 0
 ·rw [hc] at HCH
  have HC0 := Lib.hid hc
  clear hc
  cases hn : hasN g.nodes s
  ·rw [hn] at HHA
   have hR0 : RR = [] := HNO.out (fun h => by have := h.2.1; rw [hn] at this; cases this)
   subst hR0
   clear hn HNO HFP
   go_wp2_with (first | (go_at_call 28; ((with_reducible refine (HCH.out _ (Ext.refl _)).mono ?_); rintro r w2 ⟨rfl, hx2⟩; replace g0 := hx2.cell g0; replace g1 := hx2.cell g1; replace g2 := hx2.cell g2; replace g3 := hx2.cell g3)) | (go_at_call 29; ((with_reducible refine (HHA.out _ hx2).mono ?_); rintro r w3 ⟨rfl, hx3⟩)))
   go_ret
   exact ⟨none, 0, rfl, Nat.le_refl _, SliceR.nil _ _ _, HX1.out.trans (hx2.trans hx3)⟩
  ·rw [hn] at HHA
   have HHN := Lib.hid hn
   clear hn
   by_cases h1 : mode < 1
   ·have hR0 : RR = [] := HNO.out (fun h => by have := h.2.2.1; omega)
    subst hR0
    clear HNO HFP
    go_wp2_with (first | (go_at_call 28; ((with_reducible refine (HCH.out _ (Ext.refl _)).mono ?_); rintro r w2 ⟨rfl, hx2⟩; replace g0 := hx2.cell g0; replace g1 := hx2.cell g1; replace g2 := hx2.cell g2; replace g3 := hx2.cell g3)) | (go_at_call 29; ((with_reducible refine (HHA.out _ hx2).mono ?_); rintro r w3 ⟨rfl, hx3⟩)))
    go_ret
    exact ⟨none, 0, rfl, Nat.le_refl _, SliceR.nil _ _ _, HX1.out.trans (hx2.trans hx3)⟩
   by_cases h2 : 3 < mode
   ·have hR0 : RR = [] := HNO.out (fun h => by have := h.2.2.2.1; omega)
    subst hR0
    clear HNO HFP
    go_wp2_with (first | (go_at_call 28; ((with_reducible refine (HCH.out _ (Ext.refl _)).mono ?_); rintro r w2 ⟨rfl, hx2⟩; replace g0 := hx2.cell g0; replace g1 := hx2.cell g1; replace g2 := hx2.cell g2; replace g3 := hx2.cell g3)) | (go_at_call 29; ((with_reducible refine (HHA.out _ hx2).mono ?_); rintro r w3 ⟨rfl, hx3⟩)))
    go_ret
    exact ⟨none, 0, rfl, Nat.le_refl _, SliceR.nil _ _ _, HX1.out.trans (hx2.trans hx3)⟩
   by_cases h3 : mn < 0
   ·have hR0 : RR = [] := HNO.out (fun h => by have := h.2.2.2.2.1; omega)
    subst hR0
    clear HNO HFP
    go_wp2_with (first | (go_at_call 28; ((with_reducible refine (HCH.out _ (Ext.refl _)).mono ?_); rintro r w2 ⟨rfl, hx2⟩; replace g0 := hx2.cell g0; replace g1 := hx2.cell g1; replace g2 := hx2.cell g2; replace g3 := hx2.cell g3)) | (go_at_call 29; ((with_reducible refine (HHA.out _ hx2).mono ?_); rintro r w3 ⟨rfl, hx3⟩)))
    go_ret
    exact ⟨none, 0, rfl, Nat.le_refl _, SliceR.nil _ _ _, HX1.out.trans (hx2.trans hx3)⟩
   by_cases h4 : mx < mn
   ·have hR0 : RR = [] := HNO.out (fun h => by have := h.2.2.2.2.2.1; omega)
    subst hR0
    clear HNO HFP
    go_wp2_with (first | (go_at_call 28; ((with_reducible refine (HCH.out _ (Ext.refl _)).mono ?_); rintro r w2 ⟨rfl, hx2⟩; replace g0 := hx2.cell g0; replace g1 := hx2.cell g1; replace g2 := hx2.cell g2; replace g3 := hx2.cell g3)) | (go_at_call 29; ((with_reducible refine (HHA.out _ hx2).mono ?_); rintro r w3 ⟨rfl, hx3⟩)))
    go_ret
    exact ⟨none, 0, rfl, Nat.le_refl _, SliceR.nil _ _ _, HX1.out.trans (hx2.trans hx3)⟩
   by_cases h5 : 6 < mx
   ·have hR0 : RR = [] := HNO.out (fun h => by have := h.2.2.2.2.2.2; omega)
    subst hR0
    clear HNO HFP
    go_wp2_with (first | (go_at_call 28; ((with_reducible refine (HCH.out _ (Ext.refl _)).mono ?_); rintro r w2 ⟨rfl, hx2⟩; replace g0 := hx2.cell g0; replace g1 := hx2.cell g1; replace g2 := hx2.cell g2; replace g3 := hx2.cell g3)) | (go_at_call 29; ((with_reducible refine (HHA.out _ hx2).mono ?_); rintro r w3 ⟨rfl, hx3⟩)))
    go_ret
    exact ⟨none, 0, rfl, Nat.le_refl _, SliceR.nil _ _ _, HX1.out.trans (hx2.trans hx3)⟩
   obtain ⟨mm, hm⟩ : ∃ mm : Nat, mx = (mm : Int) := ⟨mx.toNat, by omega⟩
   subst hm
   have HM6 := Lib.hid (show mm ≤ 6 by omega)
   have HMD := Lib.hid (show 1 ≤ mode ∧ mode ≤ 3 by omega)
   have HID := Lib.hid (id_node (good_of HC0.out) HHN.out)
   have HLE := Lib.hid (fun k (hk : k ≤ mm) => (Nat.le_trans (Nat.pow_le_pow_left (Nat.le_succ _) k) (Nat.le_trans (Nat.pow_le_pow_right (Nat.succ_pos _) hk) (by have := HCN.out (by omega) (by omega); simpa using this)) : g.edges.length ^ k ≤ 4000))
   have HLN := Lib.hid (fun k (hk : k ≤ mm) => (Nat.le_trans (levP_len g types dir mode s k) (HLE.out k hk) : (levP g types dir mode s k).length ≤ 4000))
   have HFA := Lib.hid (by rw [HFP.out]; unfold fromP; rw [if_pos ⟨HC0.out, HHN.out, HMD.out.1, HMD.out.2, by omega, by omega, by omega⟩]; rfl : RR = (allP g types dir mode s mn mm).map (pv s))
   have HAB := Lib.hid (show (allP g types dir mode s mn mm).length ≤ 40000 by
    rw [← OX_all, OX_turn]
    exact Nat.le_trans (OX_len g types dir mode s mn (fun k' hk' => HLN.out k' hk')) (by have := HM6.out; omega))
   replace HFP := HFA
   clear HFA HNO HCN HHN
   have hel : g.edges.length ≤ 4000 := (good_of HC0.out).elen
   have hmm6 : mm ≤ 6 := HM6.out
   go_upto_region 5 with (first | (go_at_call 28; ((with_reducible refine (HCH.out _ (Ext.refl _)).mono ?_); rintro r w2 ⟨rfl, hx2⟩; replace g0 := hx2.cell g0; replace g1 := hx2.cell g1; replace g2 := hx2.cell g2; replace g3 := hx2.cell g3)) | (go_at_call 29; ((with_reducible refine (HHA.out _ hx2).mono ?_); rintro r w3 ⟨rfl, hx3⟩)) | (go_at_call 30; ((with_reducible refine (r24_node _ _).mono ?_); rintro r w3' ⟨rfl, hx3'⟩)))
   obtain ⟨w4, hw4, hL4⟩ := lv_start (w := w1) (w1 := w1) (w3 := w3') (hx2.trans (hx3.trans hx3')) (Nat.le_refl _) (hx2.trans (hx3.trans hx3')).le s
   have HL4 := Lib.hid hL4
   rw [← hw4]
   clear hw4 hL4 hx2 hx3 hx3' HCH HHA g0 g1 g2 g3 h1 h2 h3 h4 h5
   go_wp2_with fail
   go_loopw [15, 16, 17] (fun v15 vL u W => ∃ (vO : Value) (k : Nat) (hsO : List HV) (AL : Option Addr) (cL : Nat) (lvl : List Val), vO = v15 ∧ u = .int .i64 k ∧ k ≤ mm + 1 ∧ vL = .slice AL lvl.length cL ∧ Hid (Lv w1 w1.heap.size W vO hsO (.slice none 0 0) [] AL lvl) ∧ Hid (hsO.map HV.v = (OX g types dir mode s mn k 0).map (pv s)) ∧ Hid (k ≤ mm → lvl = (levP g types dir mode s k).map (pv s))) (fun _ _ u _ => mm + 1 - (intOf u).toNat)
   case atStart => exact ⟨_, 0, [], _, 1, [pv s []], rfl, rfl, Nat.zero_le _, rfl, HL4, Lib.hid (by rw [OX_start]; rfl), Lib.hid (fun _ => rfl)⟩
   case round =>
    clear HL4
    obtain ⟨vO, k, hsO, AL, cL, lvl, rfl, rfl, hk, rfl, HL, HMO, HLV⟩ := hrel
    by_cases hkm : k ≤ mm
    ·have hkI : (k : Int) ≤ (mm : Int) := by omega
     have hlv := HLV.out hkm
     subst hlv
     have HGD := good_of HC0.out
     obtain ⟨LL, hLL⟩ : ∃ LL, LL = levP g types dir mode s k := ⟨_, rfl⟩
     have HLK := Lib.hid (fun i (hi : i < LL.length) => (lev_on HGD HID.out HMD.out (by rw [← hLL, getElem!_pos LL i hi]; exact List.getElem_mem hi : LL[i]! ∈ levP g types dir mode s k)).1)
     have HLB := Lib.hid (show LL.length ≤ 4000 by rw [hLL]; exact HLN.out k hkm)
     have HNB := Lib.hid (fun i j (hj : j ≤ g.edges.length) (hi : i ≤ LL.length) => (by
      have h := NX_len g types dir mode s mm (k := k) hj (hLL ▸ hi)
      refine Nat.le_trans h ?_
      split
      ·rename_i h2; exact HLE.out (k + 1) h2
      ·omega : (NX g types dir mode s mm k i j).length ≤ 4000))
     have HOB := Lib.hid (fun i => (Nat.le_trans (OX_len g types dir mode s mn (k := k) (i := i) (fun k' hk' => HLN.out k' (Nat.le_trans hk' hkm))) (by have := HM6.out; omega : (k + 1) * 4000 ≤ 40000)))
     have HNS := Lib.hid (fun i j (h1 : k < mm) (h2 : i < LL.length) (h3 : j < g.edges.length) => (by rw [hLL] at h2 ⊢; exact NX_step g types dir mode s mm h1 h2 h3 : NX g types dir mode s mm k i (j + 1) = NX g types dir mode s mm k i j ++ (match toE types dir (lastP s LL[i]!) g.edges[j]! with
      | some t => if allowH s (LL[i]! ++ [(g.edges[j]!.id, t)]) mode = true then [LL[i]! ++ [(g.edges[j]!.id, t)]] else []
      | none => [])))
     have HNT := Lib.hid (fun i (h2 : i < LL.length) => (by rw [hLL] at h2; exact NX_turn g types dir mode s mm h2 : NX g types dir mode s mm k (i + 1) 0 = NX g types dir mode s mm k i g.edges.length))
     have HOYE := Lib.hid (fun i (h1 : mn ≤ (k : Int)) (h2 : i < LL.length) => (by rw [hLL] at h2 ⊢; exact OX_yes g types dir mode s mn h1 h2 : OX g types dir mode s mn k (i + 1) = OX g types dir mode s mn k i ++ [LL[i]!]))
     have OXT := Lib.hid (show OX g types dir mode s mn (k + 1) 0 = OX g types dir mode s mn k LL.length by rw [hLL]; exact OX_turn g types dir mode s mn k)
     have HNE := Lib.hid (fun (h : k < mm) => (by rw [hLL]; exact NX_end g types dir mode s mm h : NX g types dir mode s mm k LL.length 0 = levP g types dir mode s (k + 1)))
     rw [← hLL] at HL
     obtain ⟨k2, hk2⟩ : ∃ k2, k2 = 2 * k := ⟨_, rfl⟩
     have HK2 := Lib.hid hk2
     have wmk : IntKind.i64.wrap (2 * (k : Int)) = (k2 : Int) := by rw [IntKind.wrap_i64]; have := HM6.out; omega
     have hlen : ((levP g types dir mode s k).map (pv s)).length = LL.length := by rw [List.length_map, hLL]
     rw [hlen]
     clear hlen hk2 hLL HLV HGD
     go_wp2_with fail
     go_loopw [15, 18, 19] (fun v15 v18 u W => ∃ (vO vN : Value) (i : Nat) (hsO hsN : List HV), vO = v15 ∧ vN = v18 ∧ u = .int .i64 i ∧ i ≤ LL.length ∧ Hid (Lv w1 w1.heap.size W vO hsO vN hsN AL (LL.map (pv s))) ∧ Hid (hsO.map HV.v = (OX g types dir mode s mn k i).map (pv s)) ∧ Hid (hsN.map HV.v = (NX g types dir mode s mm k i 0).map (pv s))) (fun _ _ u _ => LL.length - (intOf u).toNat)
     case atStart => exact ⟨_, _, 0, hsO, [], rfl, rfl, rfl, Nat.zero_le _, HL, HMO, Lib.hid (by rw [NX_start]; rfl)⟩
     case round =>
      clear HL HMO hsO
      obtain ⟨vO, vN, i, hsO, hsN, rfl, rfl, rfl, hi, HL, HMO, HMN⟩ := hrel
      have hll := HLB.out
      by_cases hil : i < LL.length
      ·obtain ⟨b, o, rfl, -⟩ := HL.out.l.atB (i := i) (by rw [List.length_map]; exact hil)
       have HIL := Lib.hid hil
       obtain ⟨⟨xA, xc, xv⟩, hxv, hxl, x0, x1, x2, x3, x4⟩ := Vals.head HL.out.l (i := i) (by rw [List.length_map]; exact hil)
       replace hxv : xv = pv s LL[i]! := by have h1 : xv = (LL.map (pv s))[i]! := hxv; rw [h1, getElem!_pos _ i (by rw [List.length_map]; exact hil), List.getElem_map, getElem!_pos LL i hil]
       obtain ⟨b2, o2, hxA, hc2⟩ := hxl.2.atB (i := 0) (by show 0 < xv.l.length; rw [hxv]; show 0 < (elsP s _).length; rw [elsP_len]; omega)
       replace hxA : xA = _ := hxA
       subst hxA
       have hk2x : k2 < xv.l.length := by rw [hxv]; show _ < (elsP s _).length; rw [elsP_len, HLK.out i hil, HK2.out]; omega
       obtain ⟨-, A7, c7, ⟨-, hn0, -⟩, -⟩ := hc2 k2 hk2x
       replace hn0 : wr.cell? ⟨b2, o2 + k2 * 5 + 1, none⟩ = some (.int .i64 (lastP s LL[i]!)) := by
        have h1 : wr.cell? ⟨b2, o2 + k2 * 5 + 1, none⟩ = some (.int .i64 xv.l[k2]!.n) := hn0
        rw [h1, hxv, HK2.out]
        show some (Value.int .i64 (elsP s LL[i]!)[2 * k]!.n) = _
        rw [els_last s _ (HLK.out i hil)]; rfl
       have HOL := Lib.hid (by have := congrArg List.length HMO.out; rw [List.length_map, List.length_map] at this; rw [this]; have h2 := HOB.out i; omega : hsO.length + 1 ≤ 8388608)
       have HXV := Lib.hid hxv
       have HOY := Lib.hid (fun (h : mn ≤ (k : Int)) => (by rw [List.map_append, HMO.out, HOYE.out i h hil, List.map_append]; show _ ++ [xv] = _; rw [hxv]; rfl : (hsO ++ [(⟨some ⟨b2, o2, none⟩, xc, xv⟩ : HV)]).map HV.v = (OX g types dir mode s mn k (i + 1)).map (pv s)))
       have HON := Lib.hid (fun (h : ¬ mn ≤ (k : Int)) => (by rw [HMO.out, OX_no _ _ _ _ _ _ h] : hsO.map HV.v = (OX g types dir mode s mn k (i + 1)).map (pv s)))
       have hxl2 : KHV.lies wr (fun b => (w1.heap.size ≤ b ∧ some b ≠ vN.ownBlock) ∧ some b ≠ vO.ownBlock) ⟨some ⟨b2, o2, none⟩, xc, xv⟩ := ⟨hxl.1, hxl.2.to (fun _ hb => ⟨⟨hb.1, hb.2.2⟩, hb.2.1⟩)⟩
       have HXL := Lib.hid hxl2
       obtain ⟨la, hla⟩ : ∃ la, lastP s LL[i]! = la := ⟨_, rfl⟩
       rw [hla] at hn0
       have HLA := Lib.hid hla
       clear hla
       clear hxv hxl hxl2 hc2 HMO
       go_upto_if 73 with (fail)
       go_cut [15] from 71 to 80 (fun v15 wx => ∃ (vO : Value) (hsO' : List HV), vO = v15 ∧ Hid (Lv w1 w1.heap.size wx vO hsO' vN hsN (some ⟨b, o, none⟩) (LL.map (pv s))) ∧ Hid (hsO'.map HV.v = (OX g types dir mode s mn k (i + 1)).map (pv s)) ∧ (wx.cell? ⟨b, o + i * 5 + 4, none⟩ = some (.slice (some ⟨b2, o2, none⟩) xv.l.length xc) ∧ wx.cell? ⟨b2, o2 + k2 * 5 + 1, none⟩ = some (.int .i64 la)))
       case first =>
        by_cases hmk : mn ≤ (k : Int)
        ·have HT := Lib.hid (HOY.out hmk)
         clear HOY HON
         go_wp2_with (at_builtin; go_loud (refine own_pushG (v := vO) (hs := hsO) T_hv rfl (.tmp 74) (.tmp 79) rfl wr rfl HL.out.o HL.out.hW ⟨some ⟨b2, o2, none⟩, xc, xv⟩ HXL.out rfl _ rfl rfl HOL.out (by decide) ?_); intro v6 w6 hO6 hg6 hd6)
         have HLF := Lib.hid (Lv.push HL.out.swap hO6 hg6 (Nat.le_succ _) hd6).swap
         have hbo : some b ≠ vO.ownBlock := by
          obtain ⟨b', o', e1, h2⟩ := HL.out.l.atB (i := i) (by rw [List.length_map]; exact HIL.out)
          injection e1 with e1
          injection e1 with e1 e2
          subst e1
          exact (h2 i (by rw [List.length_map]; exact HIL.out)).1.2.1
         have hb2 : some b2 ≠ vO.ownBlock := by
          obtain ⟨b', o', e1, h2⟩ := HXL.out.2.atB (i := k2) hk2x
          injection e1 with e1
          injection e1 with e1 e2
          subst e1
          exact (h2 k2 hk2x).1.2
         have x4' := hg6.cell x4 hbo
         have hn0' := hg6.cell hn0 hb2
         clear hO6 hg6 hd6
         go_meet
         case rel => exact ⟨_, _, rfl, HLF, HT, x4', hn0'⟩
        ·have HT := Lib.hid (HON.out hmk)
         clear HOY HON
         go_wp2_with fail
         go_meet
         case rel => exact ⟨_, hsO, rfl, HL, HT, x4, hn0⟩
       case rest =>
        clear HL HOY HON HXL HOL x0 x1 x2 x3 x4 hn0 hsO
        obtain ⟨vO, hsO, rfl, HL6, HMO6, x4, hn0⟩ := hcut
        have HMN6 := HMN
        clear HMN
        obtain ⟨g0, g1, g2, g3⟩ := MKG.out wc HL6.out.ext
        have x0 := trivial; have x1 := trivial; have x2 := trivial; have x3 := trivial
        go_wp2_with fail
        clear g0 g1 g2 g3 x0 x1 x2 x3 x4 hn0
        go_loopw [18, 21] (fun v18 u W => ∃ (vN : Value) (j : Nat) (hsN : List HV), vN = v18 ∧ u = .int .i64 j ∧ j ≤ g.edges.length ∧ Hid (Lv w1 w1.heap.size W vO hsO vN hsN (some ⟨b, o, none⟩) (LL.map (pv s))) ∧ Hid (hsN.map HV.v = (NX g types dir mode s mm k i j).map (pv s))) (fun _ u _ => g.edges.length - (intOf u).toNat)
        case atStart => exact ⟨_, 0, hsN, rfl, rfl, Nat.zero_le _, HL6, HMN6⟩
        case round =>
         clear HL6 HMN6 hsN
         obtain ⟨vN, j, hsN, rfl, rfl, hj, HL, HM⟩ := hrel
         obtain ⟨g0, g1, g2, g3⟩ := MKG.out wr HL.out.ext
         by_cases hjl : j < g.edges.length
         ·by_cases hkm : k < mm
          ·obtain ⟨be, oe, rfl, hce⟩ := HED.out.2 (by omega)
           obtain ⟨-, d0, d1, d2, d3, E', pc, d4, -⟩ := hce j hjl
           rw [← getElem!_pos g.edges j hjl] at d0 d1 d2 d3 d4
           replace d0 := HL.out.ext.cell d0
           replace d1 := HL.out.ext.cell d1
           replace d2 := HL.out.ext.cell d2
           replace d3 := HL.out.ext.cell d3
           replace d4 := HL.out.ext.cell d4
           have HEN := Lib.hid (fun W (e' : Ext w1 W) => r24_end g.edges[j]! types (lastP s LL[i]!) dir ok' T E' e g.edges[j]!.props.length pc W (HT0.out.ext e'))
           have HST := Lib.hid (HNS.out i j hkm HIL.out hjl)
           have HND := Lib.hid (by have := congrArg List.length HM.out; rw [List.length_map, List.length_map] at this; rw [this]; exact Nat.le_trans (HNB.out i j hj (Nat.le_of_lt HIL.out)) (by decide) : hsN.length ≤ 8000000)
           have HNL := HND
           have HTP := Lib.hid (fun t (h : toE types dir (lastP s LL[i]!) g.edges[j]! = some t) => (by
            have h1 := toE_end h
            have h2 := (good_of HC0.out).endr (show g.edges[j]! ∈ g.edges by rw [getElem!_pos g.edges j hjl]; exact List.getElem_mem hjl)
            rcases h1 with h1 | h1 <;> omega : 0 < t))
           rw [HLA.out] at HEN HST HTP
           generalize toE types dir la g.edges[j]! = te at *
           generalize g.edges[j]!.props.length = epl at *
           generalize g.edges[j]!.id = eid at *
           generalize g.edges[j]!.frm = efr at *
           generalize g.edges[j]!.to_ = eto at *
           generalize g.edges[j]!.typ = ety at *
           clear hce HND
           cases te with
           | none =>
            have HT := Lib.hid (by rw [HST.out, List.append_nil]; exact HM.out : hsN.map HV.v = (NX g types dir mode s mm k i (j + 1)).map (pv s))
            clear HST HTP HM HNL
            go_wp2_with (go_at_call 31; go_loud ((with_reducible refine (HEN.out _ HL.out.ext).mono ?_); rintro r w7 ⟨rfl, hx7⟩))
            go_roundw
            case rel => exact ⟨_, j + 1, hsN, rfl, by go_num, by omega, Lib.hid (HL.out.exts hx7), HT⟩
            case measure => simp [intOf]; omega
           | some t =>
            have ht0 := HTP.out t rfl
            obtain ⟨⟨xA, xc, xv⟩, hxv, hxl, x0, x1, x2, x3, x4⟩ := Vals.head HL.out.l (i := i) (by rw [List.length_map]; exact HIL.out)
            replace hxv : xv = pv s LL[i]! := by have h1 : xv = (LL.map (pv s))[i]! := hxv; rw [h1, getElem!_pos _ i (by rw [List.length_map]; exact HIL.out), List.getElem_map, getElem!_pos LL i HIL.out]
            obtain ⟨l2, hl2⟩ : ∃ l2, l2 = xv.l ++ [edgeV eid, nodeV t] := ⟨_, rfl⟩
            have hl2' : l2 = elsP s (LL[i]! ++ [(eid, t)]) := by rw [hl2, hxv, elsP_snoc]; rfl
            have hlen2 : l2.length = 2 * (k + 1) + 1 := by rw [hl2', elsP_len, List.length_append, HLK.out i HIL.out]; rfl
            have hlxv : xv.l.length = 2 * k + 1 := by rw [hxv]; show (elsP s LL[i]!).length = _; rw [elsP_len, HLK.out i HIL.out]
            replace HST := Lib.hid (show NX g types dir mode s mm k i (j + 1) = NX g types dir mode s mm k i j ++ (if allowH s (LL[i]! ++ [(eid, t)]) mode = true then [LL[i]! ++ [(eid, t)]] else []) from HST.out)
            obtain ⟨al, hal⟩ : ∃ al, al = allowH s (LL[i]! ++ [(eid, t)]) mode := ⟨_, rfl⟩
            have HNA := Lib.hid (fun (h : al = false) => (by rw [HST.out, ← hal, h]; simp; exact HM.out : hsN.map HV.v = (NX g types dir mode s mm k i (j + 1)).map (pv s)))
            have HYA := Lib.hid (fun (x : HV) (hx : x.v = pathV l2) (h : al = true) => (by rw [HST.out, ← hal, if_pos h, List.map_append, List.map_append, HM.out, List.map_singleton, List.map_singleton, hx, hl2']; rfl : (hsN ++ [x]).map HV.v = (NX g types dir mode s mm k i (j + 1)).map (pv s)))
            go_upto_region 20 with (go_at_call 31; ((with_reducible refine (HEN.out _ HL.out.ext).mono ?_); rintro r w7 ⟨rfl, hx7⟩))
            have HL7 := Lib.hid (HL.out.exts hx7)
            have HE7 := Lib.hid HL7.out.ext
            have HAL := Lib.hid (fun W A' c' okv (hv : Vals W okv A' l2) => (by
             have h := r24_Allowed (pathV l2) mode okv A' c' W hv (by show l2.length ≤ _; have := HM6.out; omega) (by show l2.length % 2 = 1; omega)
             rw [show allowL (pathV l2).l mode = al by rw [hal, ← allow_els, ← hl2']; rfl] at h
             exact h : Calls Tryz.prog 33 #[.agg #[.int .i64 7, .int .i64 0, .int .i64 0, .string ByteArray.empty, .slice A' l2.length c'], .int .i64 mode] W fun r w' => r = .returned (.bool al) ∧ Ext W w'))
            have HLG := Lib.hid (fun W (e' : Ext w7 W) => (by
             have h := r24_longer xv eid t _ xA xc W (hxl.2.ext (hx7.trans e')) (by have := HM6.out; omega) (by rw [hxv]; exact els_leaf s _)
             rw [← hl2] at h
             exact h : Calls Tryz.prog 32 #[.agg #[.int .i64 xv.kind, .int .i64 xv.n, .int .i64 xv.d, .string xv.s, .slice xA xv.l.length xc], .int .i64 eid, .int .i64 t] W fun r w' => ∃ A' c', r = .returned (.agg #[.int .i64 7, .int .i64 0, .int .i64 0, .string ByteArray.empty, .slice A' l2.length c']) ∧ l2.length ≤ c' ∧ Vals w' (fun b => W.heap.size ≤ b) A' l2 ∧ Ext W w'))
            replace x0 := hx7.cell x0
            replace x1 := hx7.cell x1
            replace x2 := hx7.cell x2
            replace x3 := hx7.cell x3
            replace x4 := hx7.cell x4
            replace d0 := hx7.cell d0
            replace g1 := hx7.cell g1
            clear hxv hl2 hl2' hlen2 hlxv hal HST HTP HM HEN HL hx7 hxl d1 d2 d3 d4 g0 g2 g3
            have MKA := Lib.hid (fun V (e : Ext w7 V) => (⟨e.cell g1, e.cell d0, e.cell x0, e.cell x1, e.cell x2, e.cell x3, e.cell x4, e⟩ : V.cell? ⟨q, 1, none⟩ = some (.slice (some ⟨be, oe, none⟩) g.edges.length d) ∧ V.cell? ⟨be, oe + j * 5, none⟩ = some (.int .i64 eid) ∧ V.cell? ⟨b, o + i * 5, none⟩ = some (.int .i64 xv.kind) ∧ V.cell? ⟨b, o + i * 5 + 1, none⟩ = some (.int .i64 xv.n) ∧ V.cell? ⟨b, o + i * 5 + 2, none⟩ = some (.int .i64 xv.d) ∧ V.cell? ⟨b, o + i * 5 + 3, none⟩ = some (.string xv.s) ∧ V.cell? ⟨b, o + i * 5 + 4, none⟩ = some (.slice xA xv.l.length xc) ∧ Ext w7 V))
            have MKB := Lib.hid (fun V gg u0 u1 u2 u3 u4 (hgg : w7.heap.size ≤ gg) (e : Ext w7 V) => (⟨((cell_other (by have := block_lt_of_cell g1; simp at this; omega)).trans ((cell_other (by have := block_lt_of_cell g1; simp at this; omega)).trans ((cell_other (by have := block_lt_of_cell g1; simp at this; omega)).trans ((cell_other (by have := block_lt_of_cell g1; simp at this; omega)).trans ((cell_other (by have := block_lt_of_cell g1; simp at this; omega)).trans (e.cell g1)))))), ((cell_other (by have := block_lt_of_cell d0; simp at this; omega)).trans ((cell_other (by have := block_lt_of_cell d0; simp at this; omega)).trans ((cell_other (by have := block_lt_of_cell d0; simp at this; omega)).trans ((cell_other (by have := block_lt_of_cell d0; simp at this; omega)).trans ((cell_other (by have := block_lt_of_cell d0; simp at this; omega)).trans (e.cell d0)))))), ((cell_other (by have := block_lt_of_cell x0; simp at this; omega)).trans ((cell_other (by have := block_lt_of_cell x0; simp at this; omega)).trans ((cell_other (by have := block_lt_of_cell x0; simp at this; omega)).trans ((cell_other (by have := block_lt_of_cell x0; simp at this; omega)).trans ((cell_other (by have := block_lt_of_cell x0; simp at this; omega)).trans (e.cell x0)))))), ((cell_other (by have := block_lt_of_cell x1; simp at this; omega)).trans ((cell_other (by have := block_lt_of_cell x1; simp at this; omega)).trans ((cell_other (by have := block_lt_of_cell x1; simp at this; omega)).trans ((cell_other (by have := block_lt_of_cell x1; simp at this; omega)).trans ((cell_other (by have := block_lt_of_cell x1; simp at this; omega)).trans (e.cell x1)))))), ((cell_other (by have := block_lt_of_cell x2; simp at this; omega)).trans ((cell_other (by have := block_lt_of_cell x2; simp at this; omega)).trans ((cell_other (by have := block_lt_of_cell x2; simp at this; omega)).trans ((cell_other (by have := block_lt_of_cell x2; simp at this; omega)).trans ((cell_other (by have := block_lt_of_cell x2; simp at this; omega)).trans (e.cell x2)))))), ((cell_other (by have := block_lt_of_cell x3; simp at this; omega)).trans ((cell_other (by have := block_lt_of_cell x3; simp at this; omega)).trans ((cell_other (by have := block_lt_of_cell x3; simp at this; omega)).trans ((cell_other (by have := block_lt_of_cell x3; simp at this; omega)).trans ((cell_other (by have := block_lt_of_cell x3; simp at this; omega)).trans (e.cell x3)))))), ((cell_other (by have := block_lt_of_cell x4; simp at this; omega)).trans ((cell_other (by have := block_lt_of_cell x4; simp at this; omega)).trans ((cell_other (by have := block_lt_of_cell x4; simp at this; omega)).trans ((cell_other (by have := block_lt_of_cell x4; simp at this; omega)).trans ((cell_other (by have := block_lt_of_cell x4; simp at this; omega)).trans (e.cell x4)))))), (Ext.setCell (Ext.setCell (Ext.setCell (Ext.setCell (Ext.setCell e hgg _) hgg _) hgg _) hgg _) hgg _)⟩ : (((((V.setCell ⟨gg, 0, none⟩ u0).setCell ⟨gg, 1, none⟩ u1).setCell ⟨gg, 2, none⟩ u2).setCell ⟨gg, 3, none⟩ u3).setCell ⟨gg, 4, none⟩ u4).cell? ⟨q, 1, none⟩ = some (.slice (some ⟨be, oe, none⟩) g.edges.length d) ∧ (((((V.setCell ⟨gg, 0, none⟩ u0).setCell ⟨gg, 1, none⟩ u1).setCell ⟨gg, 2, none⟩ u2).setCell ⟨gg, 3, none⟩ u3).setCell ⟨gg, 4, none⟩ u4).cell? ⟨be, oe + j * 5, none⟩ = some (.int .i64 eid) ∧ (((((V.setCell ⟨gg, 0, none⟩ u0).setCell ⟨gg, 1, none⟩ u1).setCell ⟨gg, 2, none⟩ u2).setCell ⟨gg, 3, none⟩ u3).setCell ⟨gg, 4, none⟩ u4).cell? ⟨b, o + i * 5, none⟩ = some (.int .i64 xv.kind) ∧ (((((V.setCell ⟨gg, 0, none⟩ u0).setCell ⟨gg, 1, none⟩ u1).setCell ⟨gg, 2, none⟩ u2).setCell ⟨gg, 3, none⟩ u3).setCell ⟨gg, 4, none⟩ u4).cell? ⟨b, o + i * 5 + 1, none⟩ = some (.int .i64 xv.n) ∧ (((((V.setCell ⟨gg, 0, none⟩ u0).setCell ⟨gg, 1, none⟩ u1).setCell ⟨gg, 2, none⟩ u2).setCell ⟨gg, 3, none⟩ u3).setCell ⟨gg, 4, none⟩ u4).cell? ⟨b, o + i * 5 + 2, none⟩ = some (.int .i64 xv.d) ∧ (((((V.setCell ⟨gg, 0, none⟩ u0).setCell ⟨gg, 1, none⟩ u1).setCell ⟨gg, 2, none⟩ u2).setCell ⟨gg, 3, none⟩ u3).setCell ⟨gg, 4, none⟩ u4).cell? ⟨b, o + i * 5 + 3, none⟩ = some (.string xv.s) ∧ (((((V.setCell ⟨gg, 0, none⟩ u0).setCell ⟨gg, 1, none⟩ u1).setCell ⟨gg, 2, none⟩ u2).setCell ⟨gg, 3, none⟩ u3).setCell ⟨gg, 4, none⟩ u4).cell? ⟨b, o + i * 5 + 4, none⟩ = some (.slice xA xv.l.length xc) ∧ Ext w7 (((((V.setCell ⟨gg, 0, none⟩ u0).setCell ⟨gg, 1, none⟩ u1).setCell ⟨gg, 2, none⟩ u2).setCell ⟨gg, 3, none⟩ u3).setCell ⟨gg, 4, none⟩ u4)))
            go_upto_region 20 with (fail)
            go_cut [23] (fun y wx => ∃ (gy : Nat) (A9 : Option Addr) (c9 : Nat), y = .pointer (some ⟨gy, 0, none⟩) ∧ l2.length ≤ c9 ∧ Hid (Vals wx (fun b => w7.heap.size ≤ b) A9 l2) ∧ wx.cell? ⟨gy, 0, none⟩ = some (.int .i64 7) ∧ wx.cell? ⟨gy, 1, none⟩ = some (.int .i64 0) ∧ wx.cell? ⟨gy, 2, none⟩ = some (.int .i64 0) ∧ wx.cell? ⟨gy, 3, none⟩ = some (.string ByteArray.empty) ∧ wx.cell? ⟨gy, 4, none⟩ = some (.slice A9 l2.length c9) ∧ Ext w7 wx)
            case first =>
             refine wp_region_held_drew (S := (fun V => V.cell? ⟨q, 1, none⟩ = some (.slice (some ⟨be, oe, none⟩) g.edges.length d) ∧ V.cell? ⟨be, oe + j * 5, none⟩ = some (.int .i64 eid) ∧ V.cell? ⟨b, o + i * 5, none⟩ = some (.int .i64 xv.kind) ∧ V.cell? ⟨b, o + i * 5 + 1, none⟩ = some (.int .i64 xv.n) ∧ V.cell? ⟨b, o + i * 5 + 2, none⟩ = some (.int .i64 xv.d) ∧ V.cell? ⟨b, o + i * 5 + 3, none⟩ = some (.string xv.s) ∧ V.cell? ⟨b, o + i * 5 + 4, none⟩ = some (.slice xA xv.l.length xc) ∧ Ext w7 V)) (by kernel_rfl) ?hs13001 (fun hHeld => ?go13001)
             case hs13001 => (first | with_reducible exact MKB.out _ _ _ _ _ _ _ (by first | exact Nat.le_refl _ | exact Ext.le (by solve_by_elim [X0, X1, X2, X3])) (by solve_by_elim [X0, X1, X2, X3]) | exact MKA.out _ (by solve_by_elim [X0, X1, X2, X3]))
             refine TK 0 (v := ?v13002) hHeld ?hy13002 ?_
             case hy13002 => (intro w _; go_simp <;> rfl)
             (try simp only [PU])
             refine TK 1 (v := ?v13003) hHeld ?hy13003 ?_
             case hy13003 => (intro w _; go_simp <;> rfl)
             (try simp only [PU])
             refine TK 2 (v := ?v13004) hHeld ?hy13004 ?_
             case hy13004 => (intro w _; go_simp <;> first | with_reducible rfl | rw [if_neg (by omega)] | rw [if_pos (by omega)])
             (try simp only [PU])
             refine TK 3 (v := ?v13005) hHeld ?hy13005 ?_
             case hy13005 => (intro w hSw; (try dsimp only at hSw); go_simp <;> first | with_reducible rfl | rw [if_neg (by omega)] | rw [if_pos (by omega)])
             (try simp only [PU])
             refine TK 4 (v := ?v13006) hHeld ?hy13006 ?_
             case hy13006 => (intro w _; go_simp <;> rfl)
             (try simp only [PU])
             refine TK 5 (v := ?v13007) hHeld ?hy13007 ?_
             case hy13007 => (intro w hSw; (try dsimp only at hSw); go_simp <;> first | with_reducible rfl | rw [if_neg (by omega)] | rw [if_pos (by omega)])
             (try simp only [PU])
             refine TK 6 (v := ?v13008) hHeld ?hy13008 ?_
             case hy13008 => (intro w _; go_simp <;> rfl)
             (try simp only [PU])
             refine TK 7 (v := ?v13009) hHeld ?hy13009 ?_
             case hy13009 => (intro w _; go_simp <;> first | with_reducible rfl | rw [if_neg (by omega)] | rw [if_pos (by omega)])
             (try simp only [PU])
             refine TK 8 (v := ?v13010) hHeld ?hy13010 ?_
             case hy13010 => (intro w _; go_simp <;> rfl)
             (try simp only [PU])
             refine TK 9 (v := ?v13011) hHeld ?hy13011 ?_
             case hy13011 => (intro w hSw; (try dsimp only at hSw); go_simp <;> first | with_reducible rfl | rw [if_neg (by omega)] | rw [if_pos (by omega)])
             (try simp only [PU])
             refine TK 10 (v := ?v13012) hHeld ?hy13012 ?_
             case hy13012 => (intro w _; go_simp <;> rfl)
             (try simp only [PU])
             refine wpAnyH_ready (rs := [11, 12]) (by kernel_rfl) (by simp) ?_
             refine AllReadyH.cons (o := ⟨_, _, _, _, _, _⟩) rfl (fun K hK => ?step13013x0) ?more13013x0
             case more13013x0 =>
              refine AllReadyH.cons (o := ⟨_, _, _, _, _, _⟩) rfl (fun K hK => ?step13013x1) ?more13013x1
              case more13013x1 => exact AllReadyH.nil
              go_simp
              refine hK.out _ _ ?hS13013x1 (fun H13013 => ?_)
              case hS13013x1 => first | (first | with_reducible exact MKB.out _ _ _ _ _ _ _ (by first | exact Nat.le_refl _ | exact Ext.le (by solve_by_elim [X0, X1, X2, X3])) (by solve_by_elim [X0, X1, X2, X3]) | exact MKA.out _ (by solve_by_elim [X0, X1, X2, X3])) | ((try dsimp only); (first | with_reducible exact MKB.out _ _ _ _ _ _ _ (by first | exact Nat.le_refl _ | exact Ext.le (by solve_by_elim [X0, X1, X2, X3])) (by solve_by_elim [X0, X1, X2, X3]) | exact MKA.out _ (by solve_by_elim [X0, X1, X2, X3])))
              clear hK K
              clear hHeld
              (try simp only [PU])
              refine wpAnyH_ready (rs := [11]) (by kernel_rfl) (by simp) ?_
              refine AllReadyH.cons (o := ⟨_, _, _, _, _, _⟩) rfl (fun K hK => ?step13014x0) ?more13014x0
              case more13014x0 => exact AllReadyH.nil
              go_simp
              (with_reducible refine (HLG.out _ (by solve_by_elim [X0, X1, X2, X3])).mono ?_; rintro r w6 ⟨A9, c9, rfl, hle9, hV9, hx9⟩; replace hV9 := vals_lt hV9; have zz0 := hx9.cell (p := ⟨w7.heap.size, 0, none⟩) (v := (.int .i64 0)) (by go_simp); have zz1 := hx9.cell (p := ⟨w7.heap.size, 1, none⟩) (v := (.int .i64 0)) (by go_simp); have zz2 := hx9.cell (p := ⟨w7.heap.size, 2, none⟩) (v := (.int .i64 0)) (by go_simp); have zz3 := hx9.cell (p := ⟨w7.heap.size, 3, none⟩) (v := (.string ⟨#[]⟩)) (by go_simp); have zz4 := hx9.cell (p := ⟨w7.heap.size, 4, none⟩) (v := (.slice none 0 0)) (by go_simp); have yy0 := frozen_ext hx9 (p := ⟨w7.heap.size, 0, none⟩) (v := (.int .i64 0)) (by go_simp) (by go_simp); have yy1 := frozen_ext hx9 (p := ⟨w7.heap.size, 1, none⟩) (v := (.int .i64 0)) (by go_simp) (by go_simp); have yy2 := frozen_ext hx9 (p := ⟨w7.heap.size, 2, none⟩) (v := (.int .i64 0)) (by go_simp) (by go_simp); have yy3 := frozen_ext hx9 (p := ⟨w7.heap.size, 3, none⟩) (v := (.string ⟨#[]⟩)) (by go_simp) (by go_simp); have yy4 := frozen_ext hx9 (p := ⟨w7.heap.size, 4, none⟩) (v := (.slice none 0 0)) (by go_simp) (by go_simp); replace hx9 : Ext w7 w6 := Ext.trans (by solve_by_elim [X0, X1, X2, X3]) hx9)
              refine hK.out _ _ ?hS13014x0 (fun H13014 => ?_)
              case hS13014x0 => first | (first | with_reducible exact MKB.out _ _ _ _ _ _ _ (by first | exact Nat.le_refl _ | exact Ext.le (by solve_by_elim [X0, X1, X2, X3])) (by solve_by_elim [X0, X1, X2, X3]) | exact MKA.out _ (by solve_by_elim [X0, X1, X2, X3])) | ((try dsimp only); (first | with_reducible exact MKB.out _ _ _ _ _ _ _ (by first | exact Nat.le_refl _ | exact Ext.le (by solve_by_elim [X0, X1, X2, X3])) (by solve_by_elim [X0, X1, X2, X3]) | exact MKA.out _ (by solve_by_elim [X0, X1, X2, X3])))
              clear hK K
              clear H13013
              (try simp only [PU])
              refine wpAnyH_ready (rs := [13]) (by kernel_rfl) (by simp) ?_
              refine AllReadyH.cons (o := ⟨_, _, _, _, _, _⟩) rfl (fun K hK => ?step13015x0) ?more13015x0
              case more13015x0 => exact AllReadyH.nil
              go_simp
              refine hK.out _ _ ?hS13015x0 (fun H13015 => ?_)
              case hS13015x0 => first | (first | with_reducible exact MKB.out _ _ _ _ _ _ _ (by first | exact Nat.le_refl _ | exact Ext.le (by solve_by_elim [X0, X1, X2, X3])) (by solve_by_elim [X0, X1, X2, X3]) | exact MKA.out _ (by solve_by_elim [X0, X1, X2, X3])) | ((try dsimp only); (first | with_reducible exact MKB.out _ _ _ _ _ _ _ (by first | exact Nat.le_refl _ | exact Ext.le (by solve_by_elim [X0, X1, X2, X3])) (by solve_by_elim [X0, X1, X2, X3]) | exact MKA.out _ (by solve_by_elim [X0, X1, X2, X3])))
              clear hK K
              clear H13014
              refine wpAnyH_done (by kernel_rfl) ?_ _
              clear H13015
              go_wp2_with fail
              go_meet
              case rel => exact ⟨w7.heap.size, A9, c9, rfl, hle9, Lib.hid (Vals.to (vals_set5 hV9 (fun b hb => by have h5 := hb.1; simp at h5; omega) _ _ _ _ _) (fun b hb => by have h5 := hb.1; simp at h5; omega)), by go_simp, by go_simp, by go_simp, by go_simp, by go_simp, (Ext.setCell (Ext.setCell (Ext.setCell (Ext.setCell (Ext.setCell (by solve_by_elim [X0, X1, X2, X3]) (by first | exact Nat.le_refl _ | exact Ext.le (by solve_by_elim [X0, X1, X2, X3])) _) (by first | exact Nat.le_refl _ | exact Ext.le (by solve_by_elim [X0, X1, X2, X3])) _) (by first | exact Nat.le_refl _ | exact Ext.le (by solve_by_elim [X0, X1, X2, X3])) _) (by first | exact Nat.le_refl _ | exact Ext.le (by solve_by_elim [X0, X1, X2, X3])) _) (by first | exact Nat.le_refl _ | exact Ext.le (by solve_by_elim [X0, X1, X2, X3])) _)⟩
             go_simp
             (with_reducible refine (HLG.out _ (by solve_by_elim [X0, X1, X2, X3])).mono ?_; rintro r w6 ⟨A9, c9, rfl, hle9, hV9, hx9⟩; replace hV9 := vals_lt hV9; replace hx9 : Ext w7 w6 := Ext.trans (by solve_by_elim [X0, X1, X2, X3]) hx9)
             refine hK.out _ _ ?hS13013x0 (fun H13013 => ?_)
             case hS13013x0 => first | (first | with_reducible exact MKB.out _ _ _ _ _ _ _ (by first | exact Nat.le_refl _ | exact Ext.le (by solve_by_elim [X0, X1, X2, X3])) (by solve_by_elim [X0, X1, X2, X3]) | exact MKA.out _ (by solve_by_elim [X0, X1, X2, X3])) | ((try dsimp only); (first | with_reducible exact MKB.out _ _ _ _ _ _ _ (by first | exact Nat.le_refl _ | exact Ext.le (by solve_by_elim [X0, X1, X2, X3])) (by solve_by_elim [X0, X1, X2, X3]) | exact MKA.out _ (by solve_by_elim [X0, X1, X2, X3])))
             clear hK K
             clear hHeld
             (try simp only [PU])
             refine wpAnyH_ready (rs := [12]) (by kernel_rfl) (by simp) ?_
             refine AllReadyH.cons (o := ⟨_, _, _, _, _, _⟩) rfl (fun K hK => ?step13016x0) ?more13016x0
             case more13016x0 => exact AllReadyH.nil
             go_simp
             refine hK.out _ _ ?hS13016x0 (fun H13016 => ?_)
             case hS13016x0 => first | (first | with_reducible exact MKB.out _ _ _ _ _ _ _ (by first | exact Nat.le_refl _ | exact Ext.le (by solve_by_elim [X0, X1, X2, X3])) (by solve_by_elim [X0, X1, X2, X3]) | exact MKA.out _ (by solve_by_elim [X0, X1, X2, X3])) | ((try dsimp only); (first | with_reducible exact MKB.out _ _ _ _ _ _ _ (by first | exact Nat.le_refl _ | exact Ext.le (by solve_by_elim [X0, X1, X2, X3])) (by solve_by_elim [X0, X1, X2, X3]) | exact MKA.out _ (by solve_by_elim [X0, X1, X2, X3])))
             clear hK K
             clear H13013
             (try simp only [PU])
             refine wpAnyH_ready (rs := [13]) (by kernel_rfl) (by simp) ?_
             refine AllReadyH.cons (o := ⟨_, _, _, _, _, _⟩) rfl (fun K hK => ?step13017x0) ?more13017x0
             case more13017x0 => exact AllReadyH.nil
             go_simp
             refine hK.out _ _ ?hS13017x0 (fun H13017 => ?_)
             case hS13017x0 => first | (first | with_reducible exact MKB.out _ _ _ _ _ _ _ (by first | exact Nat.le_refl _ | exact Ext.le (by solve_by_elim [X0, X1, X2, X3])) (by solve_by_elim [X0, X1, X2, X3]) | exact MKA.out _ (by solve_by_elim [X0, X1, X2, X3])) | ((try dsimp only); (first | with_reducible exact MKB.out _ _ _ _ _ _ _ (by first | exact Nat.le_refl _ | exact Ext.le (by solve_by_elim [X0, X1, X2, X3])) (by solve_by_elim [X0, X1, X2, X3]) | exact MKA.out _ (by solve_by_elim [X0, X1, X2, X3])))
             clear hK K
             clear H13016
             refine wpAnyH_done (by kernel_rfl) ?_ _
             clear H13017
             go_wp2_with fail
             go_meet
             case rel => exact ⟨w6.heap.size, A9, c9, rfl, hle9, Lib.hid (Vals.to (Vals.ext hV9 (by solve_by_elim [X0, X1, X2, X3])) (fun b hb => by have h5 := hb.1; simpa using h5)), by go_simp, by go_simp, by go_simp, by go_simp, by go_simp, (by solve_by_elim [X0, X1, X2, X3])⟩
            case rest =>
             clear MKA MKB
             obtain ⟨gy, A9, c9, rfl, hle9, hV9, y0, y1, y2, y3, y4, hx8⟩ := hcut
             have HL8 := Lib.hid (HL7.out.exts hx8)
             have HE8 := Lib.hid (HE7.out.trans hx8)
             have HALW := Lib.hid (fun W (e' : Ext wc W) => HAL.out W A9 c9 _ (hV9.out.ext e'))
             have hlies := (fun b (hb : w7.heap.size ≤ b) => (⟨⟨Nat.le_trans HL7.out.hW hb, fun e1 => by have := (OwnG.lt HL7.out.o e1.symm).2; omega⟩, fun e1 => by have := (OwnG.lt HL7.out.n e1.symm).2; omega⟩ : (w1.heap.size ≤ b ∧ some b ≠ vO.ownBlock) ∧ some b ≠ vN.ownBlock))
             have HLI := Lib.hid (fun W (e' : Ext wc W) => (⟨hle9, (hV9.out.ext e').to hlies⟩ : KHV.lies W (fun b => (w1.heap.size ≤ b ∧ some b ≠ vO.ownBlock) ∧ some b ≠ vN.ownBlock) ⟨A9, c9, pathV l2⟩))
             clear hV9 hlies HL7 HE7 HAL HLG
             cases al
             ·have HT := Lib.hid (HNA.out rfl)
              clear HNA HYA
              go_wp2_with (go_at_call 33; ((with_reducible refine (HALW.out _ (Ext.refl _)).mono ?_); rintro r w9 ⟨rfl, hx9⟩))
              go_roundw
              case rel => exact ⟨_, j + 1, hsN, rfl, by go_num, by omega, Lib.hid (HL8.out.exts hx9), HT⟩
              case measure => simp [intOf]; omega
             ·have HT := Lib.hid (HYA.out ⟨A9, c9, pathV l2⟩ rfl rfl)
              clear HNA HYA
              go_wp2_with (first | (go_at_call 33; ((with_reducible refine (HALW.out _ (Ext.refl _)).mono ?_); rintro r w9 ⟨rfl, hx9⟩; replace y0 := hx9.cell y0; replace y1 := hx9.cell y1; replace y2 := hx9.cell y2; replace y3 := hx9.cell y3; replace y4 := hx9.cell y4)) | (at_builtin; go_loud (refine own_pushG (v := vN) (hs := hsN) T_hv rfl (.tmp 129) (.tmp 131) rfl w9 rfl (OwnG.ext HL8.out.n hx9) (Nat.le_trans HL8.out.hW hx9.le) ⟨A9, c9, pathV l2⟩ (HLI.out _ hx9) rfl _ rfl rfl (by have := HNL.out; omega) (by decide) ?_); intro v6 w6 hO6 hg6 hd6))
              have HLF := Lib.hid (Lv.push (HL8.out.exts hx9) hO6 hg6 (Nat.le_succ _) hd6)
              clear hO6 hg6 hd6
              go_roundw
              case rel => exact ⟨_, j + 1, _, rfl, by go_num, by omega, HLF, HT⟩
              case measure => simp [intOf]; omega
          ·have HMT := Lib.hid (by rw [NX_turn0 _ _ _ _ _ _ hkm]; rw [HM.out, NX_turn0 _ _ _ _ _ _ hkm] : hsN.map HV.v = (NX g types dir mode s mm k (i + 1) 0).map (pv s))
           clear HM
           go_wp2_with fail
           go_roundw
           case rel => exact ⟨_, _, i + 1, hsO, hsN, rfl, rfl, by go_num, by omega, HL, HMO6, HMT⟩
           case measure => simp [intOf]; omega
         ·have hje : j = g.edges.length := by omega
          have HMT := Lib.hid (by rw [HNT.out i HIL.out, ← hje]; exact HM.out : hsN.map HV.v = (NX g types dir mode s mm k (i + 1) 0).map (pv s))
          clear HM hje
          go_wp2_with fail
          go_roundw
          case rel => exact ⟨_, _, i + 1, hsO, hsN, rfl, rfl, by go_num, by omega, HL, HMO6, HMT⟩
          case measure => simp [intOf]; omega
      ·have hie : i = LL.length := by omega
       obtain ⟨A9, c9, rfl, hle9, hL9⟩ := Lv.turn HL.out (by have := congrArg List.length HMN.out; rw [List.length_map, List.length_map] at this; rw [this]; exact Nat.le_trans (HNB.out i 0 (Nat.zero_le _) hi) (by decide))
       have HL9 := Lib.hid hL9
       have HT := Lib.hid (by rw [OXT.out, ← hie]; exact HMO.out : hsO.map HV.v = (OX g types dir mode s mn (k + 1) 0).map (pv s))
       have HT2 := Lib.hid (fun (h : k + 1 ≤ mm) => (by rw [HMN.out, hie, HNE.out (by omega)] : hsN.map HV.v = (levP g types dir mode s (k + 1)).map (pv s)))
       clear HL hL9 HMO HMN hie
       go_wp2_with fail
       go_roundw
       case rel => exact ⟨_, k + 1, hsO, A9, c9, hsN.map HV.v, rfl, by go_num, by omega, by rw [List.length_map], HL9, HT, HT2⟩
       case measure => simp [intOf]; omega
    ·have hke : k = mm + 1 := by omega
     have hkI : ¬ (k : Int) ≤ (mm : Int) := by omega
     obtain ⟨A9, c9, e9, h9, hV9⟩ := OwnV.vals HL.out.o (by have := congrArg List.length HMO.out; rw [List.length_map, List.length_map] at this; rw [this, hke, OX_all]; exact Nat.le_trans HAB.out (by decide))
     rw [HMO.out, hke, OX_all, ← HFP.out] at hV9
     have hlR : hsO.length = RR.length := by rw [← List.length_map (f := HV.v), HMO.out, hke, OX_all, ← HFP.out]
     subst e9
     rw [hlR] at h9 ⊢
     have HV9 := Lib.hid hV9
     have HEX := Lib.hid HL.out.ext
     clear HL HMO HLV hV9 hlR hke
     go_wp2_with fail
     go_ret
     exact ⟨_, _, rfl, h9, HV9.out.to (fun b hb => by have h1 := HW1L.out; rcases hb with h | h; exact Nat.le_trans h1 h.1; exact Nat.le_trans h1 h), HX1.out.trans HEX.out⟩
 ·have hcb : (chkG g != 0) = true := bne_iff_ne.2 hc
  have hR0 : RR = [] := HNO.out (fun h => hc h.1)
  subst hR0
  clear hc HNO HFP
  go_wp2_with (first | (go_at_call 28; ((with_reducible refine (HCH.out _ (Ext.refl _)).mono ?_); rintro r w2 ⟨rfl, hx2⟩; replace g0 := hx2.cell g0; replace g1 := hx2.cell g1; replace g2 := hx2.cell g2; replace g3 := hx2.cell g3)) | (go_at_call 29; ((with_reducible refine (HHA.out _ hx2).mono ?_); rintro r w3 ⟨rfl, hx3⟩)))
  go_ret
  exact ⟨none, 0, rfl, Nat.le_refl _, SliceR.nil _ _ _, HX1.out.trans hx2⟩
end Go.Proofs.YtigmdddeplnciaaGreatDoor

/- THE WALK over the reference's Between. -/
namespace Go.Proofs.YtigmdddeplnciaaGreatDoor
open Go.RowKit
set_option maxRecDepth 100000 in
set_option maxHeartbeats 3200000 in
theorem r24_Between (g : GraphG) (types : List ByteArray) (s tn dir mode mn mx : Int) (ok ok' : Nat → Prop) (A B T : Option Addr) (c d e : Nat) (w : World) (hg : GraphAt w ok A B g) (hsz : SzG g) (ht : Strs w ok' T types) (hcnt : 0 ≤ mx → mx ≤ 6 → (g.edges.length + 1) ^ mx.toNat ≤ 4000) :
  Calls Tryz.prog 14 #[.agg #[.slice A g.nodes.length c, .slice B g.edges.length d, .int .i64 g.nn, .int .i64 g.ne], .int .i64 s, .int .i64 tn, .slice T types.length e, .int .i64 dir, .int .i64 mode, .int .i64 mn, .int .i64 mx] w fun r w' => ∃ A' c', r = .returned (.slice A' (betwP g s tn types dir mode mn mx).length c') ∧ (betwP g s tn types dir mode mn mx).length ≤ c' ∧ Vals w' (fun b => w.heap.size ≤ b) A' (betwP g s tn types dir mode mn mx) ∧ Ext w w' := by
 obtain ⟨q, w1, hq, hw1, g0, g1, g2, g3, hx1⟩ := box_graph w A B c d g 25
 have HFR := Lib.hid (r24_From g types s dir mode mn mx ok ok' A B T c d e w1 (hg.ext hx1) hsz (ht.ext hx1) hcnt)
 have HQL := Lib.hid (fun v (hv : v ∈ fromP g s types dir mode mn mx) => from_Q hv)
 have HLN := Lib.hid (from_len (g := g) (types := types) (dir := dir) (mode := mode) (s := s) (mn := mn) (mx := mx) hcnt)
 have HX1 := Lib.hid hx1
 have HW1 := Lib.hid hw1
 have HQ := Lib.hid hq
 unfold betwP
 generalize fromP g s types dir mode mn mx = RR at *
 clear hw1 hq hg hsz ht hcnt
 go_enter Tryz.func14, Tryz.ntmps14
 go_upto_region 1 with (fail)
 rw [← HW1.out, ← HQ.out]
 clear HW1 HQ
 go_wp2_with (go_at_call 12; ((with_reducible refine (HFR.out).mono ?_); rintro r w2 ⟨A2, c2, rfl, hle2, hV2, hx2⟩))
 have HV2 := Lib.hid (vals_lt hV2)
 have HX2 := Lib.hid hx2
 have hl4 := HLN.out
 clear hV2 g0 g1 g2 g3 hx1 hx2
 go_loopw [18, 19] (fun v18 u W => ∃ (vO : Value) (k : Nat) (hsO : List HV), vO = v18 ∧ u = .int .i64 k ∧ k ≤ RR.length ∧ Hid (Ext w2 W) ∧ Hid (OwnV W w2.heap.size (fun b => w1.heap.size ≤ b ∧ b < w2.heap.size) vO hsO) ∧ Hid (hsO.map HV.v = (RR.take k).filter (endsP tn))) (fun _ u _ => RR.length - (intOf u).toNat)
 case atStart => exact ⟨_, 0, [], rfl, rfl, Nat.zero_le _, Lib.hid (Ext.refl _), Lib.hid (OwnG.nil _ _ _ _ _), Lib.hid (by rw [List.take_zero]; rfl)⟩
 case round =>
  obtain ⟨vO, k, hsO, rfl, rfl, hk, hE, HO, HM⟩ := hrel
  by_cases hlt : k < RR.length
  ·obtain ⟨b, o, rfl, -⟩ := HV2.out.atB (i := k) hlt
   obtain ⟨⟨xA, xc, xv⟩, hxv, hxl, x0, x1, x2, x3, x4⟩ := Vals.head HV2.out (i := k) hlt
   replace hxv : xv = RR[k]! := hxv
   have hmem : xv ∈ RR := by rw [hxv, getElem!_pos RR k hlt]; exact List.getElem_mem hlt
   have hq2 := HQL.out xv hmem
   obtain ⟨m, hm⟩ : ∃ m, xv.l.length = m + 1 := ⟨xv.l.length - 1, by have := List.length_pos_iff.2 hq2.1; omega⟩
   obtain ⟨b2, o2, hxA, hc2⟩ := hxl.2.atB (i := m) (by show m < xv.l.length; omega)
   replace hxA : xA = _ := hxA
   subst hxA
   obtain ⟨-, A7, c7, ⟨-, hn0, -⟩, -⟩ := hc2 m (by show m < xv.l.length; omega)
   replace hn0 : w2.cell? ⟨b2, o2 + m * 5 + 1, none⟩ = some (.int .i64 xv.l[m]!.n) := hn0
   have hxl2 : KHV.lies w2 (fun b => (w1.heap.size ≤ b ∧ b < w2.heap.size) ∧ some b ≠ vO.ownBlock) ⟨some ⟨b2, o2, none⟩, xc, xv⟩ := ⟨hxl.1, hxl.2.to (fun b3 hb => ⟨hb, fun e1 => by have h1 := (OwnG.lt HO.out e1.symm).1; have h2 := hb.2; omega⟩)⟩
   have HXL := Lib.hid (fun V (e' : Ext wr V) => KHV.keep _ _ _ _ _ (fun _ _ _ hb hc => ⟨(hE.out.trans e').cell hc, hb⟩) hxl2)
   have HOL := Lib.hid (by have := congrArg List.length HM.out; rw [List.length_map] at this; have h2 := List.length_filter_le (endsP tn) (RR.take k); rw [List.length_take] at h2; omega : hsO.length + 1 ≤ 8388608)
   have HOB := Lib.hid (fun g2 (h2 : vO.ownBlock = some g2) => (OwnG.lt HO.out h2).1)
   have HEA := Lib.hid (ends_at hm tn)
   have HY := Lib.hid (fun (h : endsP tn xv = true) => (by rw [List.map_append, HM.out, List.take_succ_eq_append_getElem hlt, List.filter_append, ← getElem!_pos RR k hlt, ← hxv]; simp [h] : (hsO ++ [(⟨some ⟨b2, o2, none⟩, xc, xv⟩ : HV)]).map HV.v = (RR.take (k + 1)).filter (endsP tn)))
   have HN := Lib.hid (fun (h : endsP tn xv = false) => (by rw [HM.out, List.take_succ_eq_append_getElem hlt, List.filter_append, ← getElem!_pos RR k hlt, ← hxv]; simp [h] : hsO.map HV.v = (RR.take (k + 1)).filter (endsP tn)))
   have HLM := Lib.hid hm
   replace x0 := hE.out.cell x0
   replace x1 := hE.out.cell x1
   replace x2 := hE.out.cell x2
   replace x3 := hE.out.cell x3
   replace x4 := hE.out.cell x4
   replace hn0 := hE.out.cell hn0
   have hx4' : wr.cell? ⟨b, o + k * 5 + 4, none⟩ = some (.slice (some ⟨b2, o2, none⟩) (m + 1) xc) := by rw [← hm]; exact x4
   have hm8 : m < 8000000 := by have := hq2.2; omega
   generalize xv.l[m]!.n = la at *
   have MK6 := Lib.hid (fun V (e' : Ext wr V) => (⟨e'.cell hx4', e'.cell hn0⟩ : (V.cell? ⟨b, o + k * 5 + 4, none⟩ = some (.slice (some ⟨b2, o2, none⟩) (m + 1) xc) ∧ V.cell? ⟨b2, o2 + m * 5 + 1, none⟩ = some (.int .i64 la))))
   have wm : IntKind.i64.wrap (m : Int) = (m : Int) := by rw [IntKind.wrap_i64]; omega
   clear hxv hmem hq2 hm hc2 hxl hxl2 x4 HM
   by_cases he : la = tn
   ·have HT := Lib.hid (HY.out (by rw [HEA.out]; exact decide_eq_true he))
    have hbe : (la == tn) = true := beq_iff_eq.2 he
    clear HY HN HEA he
    go_upto_region 6 with (fail)
    refine wp_region_held_drew (S := (fun V => V.cell? ⟨b, o + k * 5 + 4, none⟩ = some (.slice (some ⟨b2, o2, none⟩) (m + 1) xc) ∧ V.cell? ⟨b2, o2 + m * 5 + 1, none⟩ = some (.int .i64 la))) (by kernel_rfl) ?hs14019 (fun hHeld => ?go14019)
    case hs14019 => (exact MK6.out _ (by solve_by_elim [X0, X1, X2, X3]))
    refine TK 0 (v := ?v14020) hHeld ?hy14020 ?_
    case hy14020 => (intro w _; go_simp <;> rfl)
    (try simp only [PU])
    refine TK 1 (v := ?v14021) hHeld ?hy14021 ?_
    case hy14021 => (intro w _; go_simp <;> rfl)
    (try simp only [PU])
    refine TK 2 (v := ?v14022) hHeld ?hy14022 ?_
    case hy14022 => (intro w _; go_simp <;> first | with_reducible rfl | rw [if_neg (by omega)] | rw [if_pos (by omega)])
    (try simp only [PU])
    refine TK 3 (v := ?v14023) hHeld ?hy14023 ?_
    case hy14023 => (intro w _; go_simp <;> rfl)
    (try simp only [PU])
    refine TK 4 (v := ?v14024) hHeld ?hy14024 ?_
    case hy14024 => (intro w hSw; (try dsimp only at hSw); go_simp <;> first | with_reducible rfl | rw [if_neg (by omega)] | rw [if_pos (by omega)])
    (try simp only [PU])
    refine TK 5 (v := ?v14025) hHeld ?hy14025 ?_
    case hy14025 => (intro w _; go_simp <;> rfl)
    (try simp only [PU])
    refine TK 6 (v := ?v14026) hHeld ?hy14026 ?_
    case hy14026 => (intro w _; go_simp <;> rfl)
    (try simp only [PU])
    refine TK 7 (v := ?v14027) hHeld ?hy14027 ?_
    case hy14027 => (intro w _; go_simp <;> first | with_reducible rfl | rw [if_neg (by omega)] | rw [if_pos (by omega)])
    (try simp only [PU])
    refine TK 8 (v := ?v14028) hHeld ?hy14028 ?_
    case hy14028 => (intro w _; go_simp <;> rfl)
    (try simp only [PU])
    refine TK 9 (v := ?v14029) hHeld ?hy14029 ?_
    case hy14029 => (intro w hSw; (try dsimp only at hSw); go_simp <;> first | with_reducible rfl | rw [if_neg (by omega)] | rw [if_pos (by omega)])
    (try simp only [PU])
    refine TK 10 (v := ?v14030) hHeld ?hy14030 ?_
    case hy14030 => (intro w _; go_simp <;> first | with_reducible rfl | rw [if_neg (by omega)] | rw [if_pos (by omega)])
    (try simp only [PU])
    refine TK 11 (v := ?v14031) hHeld ?hy14031 ?_
    case hy14031 => (intro w _; go_simp <;> first | with_reducible rfl | rw [if_neg (by omega)] | rw [if_pos (by omega)])
    (try simp only [PU])
    refine TK 12 (v := ?v14032) hHeld ?hy14032 ?_
    case hy14032 => (intro w _; go_simp <;> first | with_reducible rfl | rw [if_neg (by omega)] | rw [if_pos (by omega)])
    (try simp only [PU])
    refine TK 13 (v := ?v14033) hHeld ?hy14033 ?_
    case hy14033 => (intro w _; go_simp <;> rfl)
    (try simp only [PU])
    refine TK 14 (v := ?v14034) hHeld ?hy14034 ?_
    case hy14034 => (intro w hSw; (try dsimp only at hSw); go_simp <;> first | with_reducible rfl | rw [if_neg (by omega)] | rw [if_pos (by omega)])
    (try simp only [PU])
    refine TK 15 (v := ?v14035) hHeld ?hy14035 ?_
    case hy14035 => (intro w _; go_simp <;> rfl)
    (try simp only [PU])
    refine TK 16 (v := ?v14036) hHeld ?hy14036 ?_
    case hy14036 => (intro w _; go_simp <;> first | with_reducible rfl | rw [if_neg (by omega)] | rw [if_pos (by omega)])
    (try simp only [PU])
    refine wpAnyH_done (by kernel_rfl) ?_ _
    clear hHeld
    go_wp2_with (at_builtin; go_loud (refine own_pushG (v := vO) (hs := hsO) T_hv rfl (.tmp 51) (.tmp 56) rfl wr.drew rfl (OwnG.ext HO.out (by solve_by_elim [X0, X1, X2, X3])) (Nat.le_trans hE.out.le (Ext.le (by solve_by_elim [X0, X1, X2, X3]))) ⟨some ⟨b2, o2, none⟩, xc, xv⟩ (HXL.out _ (by solve_by_elim [X0, X1, X2, X3])) (by show _ = wr.drew.alloc (.cells #[.int .i64 xv.kind, .int .i64 xv.n, .int .i64 xv.d, .string xv.s, .slice (some ⟨b2, o2, none⟩) xv.l.length xc] _); rw [HLM.out]; rfl) _ rfl rfl HOL.out (by decide) ?_); intro v6 w6 hO6 hg6 hd6)
    have hE6 : Ext w2 w6 := (hE.out.trans (show Ext wr wr.drew from (by solve_by_elim [X0, X1, X2, X3]))).grown hg6 (fun g2 h2 => HOB.out g2 h2)
    have HO6 := Lib.hid hO6
    clear hO6 hg6 hd6
    go_roundw
    case rel => exact ⟨_, k + 1, _, rfl, by go_num, by omega, Lib.hid hE6, HO6, HT⟩
    case measure => simp [intOf]; omega
   ·have HT := Lib.hid (HN.out (by rw [HEA.out]; exact decide_eq_false he))
    have hbe : (la == tn) = false := beq_eq_false_iff_ne.2 he
    clear HY HN HEA he
    go_upto_region 6 with (fail)
    refine wp_region_held_drew (S := (fun V => V.cell? ⟨b, o + k * 5 + 4, none⟩ = some (.slice (some ⟨b2, o2, none⟩) (m + 1) xc) ∧ V.cell? ⟨b2, o2 + m * 5 + 1, none⟩ = some (.int .i64 la))) (by kernel_rfl) ?hs14001 (fun hHeld => ?go14001)
    case hs14001 => (exact MK6.out _ (by solve_by_elim [X0, X1, X2, X3]))
    refine TK 0 (v := ?v14002) hHeld ?hy14002 ?_
    case hy14002 => (intro w _; go_simp <;> rfl)
    (try simp only [PU])
    refine TK 1 (v := ?v14003) hHeld ?hy14003 ?_
    case hy14003 => (intro w _; go_simp <;> rfl)
    (try simp only [PU])
    refine TK 2 (v := ?v14004) hHeld ?hy14004 ?_
    case hy14004 => (intro w _; go_simp <;> first | with_reducible rfl | rw [if_neg (by omega)] | rw [if_pos (by omega)])
    (try simp only [PU])
    refine TK 3 (v := ?v14005) hHeld ?hy14005 ?_
    case hy14005 => (intro w _; go_simp <;> rfl)
    (try simp only [PU])
    refine TK 4 (v := ?v14006) hHeld ?hy14006 ?_
    case hy14006 => (intro w hSw; (try dsimp only at hSw); go_simp <;> first | with_reducible rfl | rw [if_neg (by omega)] | rw [if_pos (by omega)])
    (try simp only [PU])
    refine TK 5 (v := ?v14007) hHeld ?hy14007 ?_
    case hy14007 => (intro w _; go_simp <;> rfl)
    (try simp only [PU])
    refine TK 6 (v := ?v14008) hHeld ?hy14008 ?_
    case hy14008 => (intro w _; go_simp <;> rfl)
    (try simp only [PU])
    refine TK 7 (v := ?v14009) hHeld ?hy14009 ?_
    case hy14009 => (intro w _; go_simp <;> first | with_reducible rfl | rw [if_neg (by omega)] | rw [if_pos (by omega)])
    (try simp only [PU])
    refine TK 8 (v := ?v14010) hHeld ?hy14010 ?_
    case hy14010 => (intro w _; go_simp <;> rfl)
    (try simp only [PU])
    refine TK 9 (v := ?v14011) hHeld ?hy14011 ?_
    case hy14011 => (intro w hSw; (try dsimp only at hSw); go_simp <;> first | with_reducible rfl | rw [if_neg (by omega)] | rw [if_pos (by omega)])
    (try simp only [PU])
    refine TK 10 (v := ?v14012) hHeld ?hy14012 ?_
    case hy14012 => (intro w _; go_simp <;> first | with_reducible rfl | rw [if_neg (by omega)] | rw [if_pos (by omega)])
    (try simp only [PU])
    refine TK 11 (v := ?v14013) hHeld ?hy14013 ?_
    case hy14013 => (intro w _; go_simp <;> first | with_reducible rfl | rw [if_neg (by omega)] | rw [if_pos (by omega)])
    (try simp only [PU])
    refine TK 12 (v := ?v14014) hHeld ?hy14014 ?_
    case hy14014 => (intro w _; go_simp <;> first | with_reducible rfl | rw [if_neg (by omega)] | rw [if_pos (by omega)])
    (try simp only [PU])
    refine TK 13 (v := ?v14015) hHeld ?hy14015 ?_
    case hy14015 => (intro w _; go_simp <;> rfl)
    (try simp only [PU])
    refine TK 14 (v := ?v14016) hHeld ?hy14016 ?_
    case hy14016 => (intro w hSw; (try dsimp only at hSw); go_simp <;> first | with_reducible rfl | rw [if_neg (by omega)] | rw [if_pos (by omega)])
    (try simp only [PU])
    refine TK 15 (v := ?v14017) hHeld ?hy14017 ?_
    case hy14017 => (intro w _; go_simp <;> rfl)
    (try simp only [PU])
    refine TK 16 (v := ?v14018) hHeld ?hy14018 ?_
    case hy14018 => (intro w _; go_simp <;> first | with_reducible rfl | rw [if_neg (by omega)] | rw [if_pos (by omega)])
    (try simp only [PU])
    refine wpAnyH_done (by kernel_rfl) ?_ _
    clear hHeld
    go_wp2_with fail
    go_roundw
    case rel => exact ⟨_, k + 1, hsO, rfl, by go_num, by omega, Lib.hid (hE.out.trans (by solve_by_elim [X0, X1, X2, X3])), Lib.hid (OwnG.ext HO.out (by solve_by_elim [X0, X1, X2, X3])), HT⟩
    case measure => simp [intOf]; omega
  ·have hke : k = RR.length := by omega
   have hmm := HM.out
   rw [hke, List.take_length] at hmm
   obtain ⟨A9, c9, e9, h9, hV9⟩ := OwnV.vals HO.out (by have := congrArg List.length hmm; rw [List.length_map] at this; have h2 := List.length_filter_le (endsP tn) RR; omega)
   rw [hmm] at hV9
   have hlf : hsO.length = (RR.filter (endsP tn)).length := by rw [← hmm, List.length_map]
   subst e9
   rw [hlf] at h9 ⊢
   have HV9 := Lib.hid hV9
   have HW2 := Lib.hid (Nat.le_trans HX1.out.le HX2.out.le)
   have HW1 := Lib.hid HX1.out.le
   clear HO HM hmm hV9 hlf hke
   go_wp2_with fail
   go_ret
   exact ⟨_, _, rfl, h9, HV9.out.to (fun b hb => by have h1 := HW2.out; have h2 := HW1.out; rcases hb with h | h; exact Nat.le_trans h2 h.1; exact Nat.le_trans h1 h), (HX1.out.trans HX2.out).trans hE.out⟩
end Go.Proofs.YtigmdddeplnciaaGreatDoor
