/- PARTS OF THE WALKS, joined: PtZ. -/
import Derived.Test.YtigmdddeplnciaaGreatDoorV00
import Derived.Test.YtigmdddeplnciaaGreatDoorV01
import Derived.Test.YtigmdddeplnciaaGreatDoorV02
import Derived.Test.YtigmdddeplnciaaGreatDoorV03
import Derived.Test.YtigmdddeplnciaaGreatDoorV04
import Derived.Test.YtigmdddeplnciaaGreatDoorV05
import Derived.Test.YtigmdddeplnciaaGreatDoorV06
import Derived.Test.YtigmdddeplnciaaGreatDoorV07
import Derived.Test.YtigmdddeplnciaaGreatDoorV08
import Derived.Test.YtigmdddeplnciaaGreatDoorV09
import Derived.Test.YtigmdddeplnciaaGreatDoorV10
import Derived.Test.YtigmdddeplnciaaGreatDoorV11
import Derived.Test.YtigmdddeplnciaaGreatDoorV12
import Derived.Test.YtigmdddeplnciaaGreatDoorV13
import Derived.Test.YtigmdddeplnciaaGreatDoorV14
import Derived.Test.YtigmdddeplnciaaGreatDoorV15
import Derived.Test.YtigmdddeplnciaaGreatDoorV16
import Derived.Test.YtigmdddeplnciaaGreatDoorV17
import Derived.Test.YtigmdddeplnciaaGreatDoorV18
import Derived.Test.YtigmdddeplnciaaGreatDoorV19
import Derived.Test.YtigmdddeplnciaaGreatDoorV20
import Derived.Test.YtigmdddeplnciaaGreatDoorWSound00
/- THE LAW PathsSound. -/
namespace Go.Proofs.YtigmdddeplnciaaGreatDoor
open Go.RowKit
/-- what is told of each result -/
theorem sound_of {g : GraphG} {s : Int} {types : List ByteArray} {dir mode mn mx : Int} {v : Val} (hv : v ∈ fromP g s types dir mode mn mx) (tn : Int) : isP g types dir mode v = true ∧ ∃ n : Nat, hopsV v = (n : Int) ∧ v.l.length = 2 * n + 1 ∧ mn ≤ (n : Int) ∧ (n : Int) ≤ mx ∧ n ≤ 6 ∧ v.l[0]!.n = s ∧ endsP tn v = decide (v.l[2 * n]!.n = tn) := by
  obtain ⟨hok, h, rfl, ho, h1, h2⟩ := mem_from hv
  have h6 := hok.2.2.2.2.2.2
  have h12 : h.length ≤ 12 := by omega
  exact ⟨is_on hok.1 hok.2.1 ho h12 ho.allow, h.length, hops_els ho.rng h12, elsP_len s h, h1, h2, by omega, rfl, ends_at (v := pathV (elsP s h)) (elsP_len s h) tn⟩
theorem rise_at {g : GraphG} {s : Int} {types : List ByteArray} {dir mode mn mx : Int} {k j : Nat} (hkj : k = j + 1) (hk : k < (fromP g s types dir mode mn mx).length) : ordP (fromP g s types dir mode mn mx)[j]! (fromP g s types dir mode mn mx)[k]! < 0 := by
  rw [getElem!_pos _ j (by omega), getElem!_pos _ k hk]
  exact List.pairwise_iff_getElem.1 from_rise j k (by omega) hk (by omega)
set_option maxRecDepth 100000 in
set_option maxHeartbeats 6400000 in
theorem l_PathsSound (g : GraphG) (types : List ByteArray) (fr tn dir mode mn mx : Int) (ok ok' : Nat → Prop) (A B T : Option Addr) (c d e : Nat) (w : World) (hz : ZeroAt w) (hg : GraphAt w ok A B g) (hcap : ∀ x ∈ g.nodes, capN x) (ht : Strs w ok' T types) :
    Calls Tryz.prog 6 #[.agg #[.slice A g.nodes.length c, .slice B g.edges.length d, .int .i64 g.nn, .int .i64 g.ne, .int .i64 fr, .int .i64 tn, .int .i64 dir, .int .i64 mode, .int .i64 mn, .int .i64 mx, .slice T types.length e]] w fun r w' => r = .returned (.bool true) ∧ Ext w w' := by
  obtain ⟨q, w1, hq, hw1, hac, hx⟩ := box_ask w g types fr tn dir mode mn mx A B T c d e
  have HW1 := Lib.hid hw1
  have HQ := Lib.hid hq
  have HX := Lib.hid hx
  have HFW := Lib.hid (fun W (_ : Ext w1 W) => r24_Few g mx A B c d W hg.nodes.len hg.edges.len)
  have HLV := Lib.hid (fun W (e' : Ext w1 W) => l_lives W (hz.ext (hx.trans e')))
  have HPF := Lib.hid (fun (hf : fewB g mx = true) W (e' : Ext w1 W) => p_From g types fr dir mode mn mx ok ok' A B T c d e W (hz.ext (hx.trans e')) (hg.ext (hx.trans e')) hcap (ht.ext (hx.trans e')) (few_cnt hf))
  have HPB := Lib.hid (fun (hf : fewB g mx = true) W (e' : Ext w1 W) => p_Between g types fr tn dir mode mn mx ok ok' A B T c d e W (hz.ext (hx.trans e')) (hg.ext (hx.trans e')) hcap (ht.ext (hx.trans e')) (few_cnt hf))
  have HS2 := Lib.hid (fun ok1 ok2 A1 B1 c1 d1 W h1 h2 => r24_Same (betwP g fr tn types dir mode mn mx) ok1 ok2 A1 B1 c1 d1 W h1 h2 (sz_betw g fr tn types dir mode mn mx))
  have HIS := Lib.hid (fun p (okx : Nat → Prop) Qx qx W (e' : Ext w1 W) (hv : Vals W okx Qx p.l) => p_Is g p types dir mode ok ok' okx A B T Qx c d e qx W (hg.ext (hx.trans e')) hcap (ht.ext (hx.trans e')) hv)
  have HOR := Lib.hid (fun a b (ok1 ok2 : Nat → Prop) A1 A2 c1 c2 W (e' : Ext w1 W) (h1 : Vals W ok1 A1 a.l) (h2 : Vals W ok2 A2 b.l) => p_Order a b ok1 ok2 A1 A2 c1 c2 W (hz.ext (hx.trans e')) h1 h2)
  have HMO := Lib.hid (fun v (hv : v ∈ fromP g fr types dir mode mn mx) => sound_of hv tn)
  have HRS := Lib.hid (fun k j (hkj : k = j + 1) (hk : k < (fromP g fr types dir mode mn mx).length) => rise_at hkj hk)
  have MKA := Lib.hid (fun V (e' : Ext w1 V) => (⟨e'.cell hac.1, e'.cell hac.2.1, e'.cell hac.2.2.1, e'.cell hac.2.2.2.1, e'.cell hac.2.2.2.2.1, e'.cell hac.2.2.2.2.2.1, e'.cell hac.2.2.2.2.2.2.1, e'.cell hac.2.2.2.2.2.2.2.1, e'.cell hac.2.2.2.2.2.2.2.2.1, e'.cell hac.2.2.2.2.2.2.2.2.2.1, e'.cell hac.2.2.2.2.2.2.2.2.2.2⟩ : (V.cell? ⟨q, 0, none⟩ = some (.slice A g.nodes.length c) ∧ V.cell? ⟨q, 1, none⟩ = some (.slice B g.edges.length d) ∧ V.cell? ⟨q, 2, none⟩ = some (.int .i64 g.nn) ∧ V.cell? ⟨q, 3, none⟩ = some (.int .i64 g.ne) ∧ V.cell? ⟨q, 4, none⟩ = some (.int .i64 fr) ∧ V.cell? ⟨q, 5, none⟩ = some (.int .i64 tn) ∧ V.cell? ⟨q, 6, none⟩ = some (.int .i64 dir) ∧ V.cell? ⟨q, 7, none⟩ = some (.int .i64 mode) ∧ V.cell? ⟨q, 8, none⟩ = some (.int .i64 mn) ∧ V.cell? ⟨q, 9, none⟩ = some (.int .i64 mx) ∧ V.cell? ⟨q, 10, none⟩ = some (.slice T types.length e))))
  have HLN := Lib.hid (fun (hf : fewB g mx = true) => from_len (g := g) (types := types) (dir := dir) (mode := mode) (s := fr) (mn := mn) (mx := mx) (few_cnt hf))
  obtain ⟨a0, a1, a2, a3, a4, a5, a6, a7, a8, a9, a10⟩ := hac
  clear hw1 hq hz hg hcap ht hx
  go_enter Tryz.func6, Tryz.ntmps6
  go_upto_region 1 with (fail)
  rw [← HW1.out, ← HQ.out]
  clear HW1 HQ
  cases hf : fewB g mx
  · rw [hf] at HFW
    clear hf HPF HPB HS2 HIS HOR HMO HRS
    go_wp2_with (first | (go_at_call 8; ((with_reducible refine (HFW.out _ (Ext.refl _)).mono ?_); rintro r w2 ⟨rfl, hx2⟩)) | (go_at_call 9; ((with_reducible refine (HLV.out _ hx2).mono ?_); rintro r w3 ⟨rfl, hx3⟩)))
    go_ret
    exact ⟨rfl, HX.out.trans (hx2.trans hx3)⟩
  · rw [hf] at HFW
    replace HPF := Lib.hid (HPF.out hf)
    have hpb := HPB.out hf
    have hs2 := HS2.out
    have hln := HLN.out hf
    clear hf HLN HPB HS2
    unfold betwP at hpb hs2
    generalize fromP g fr types dir mode mn mx = RR at *
    have HPB := Lib.hid hpb
    have HS2 := Lib.hid hs2
    clear hpb hs2
    go_upto_region 4 with (first | (go_at_call 8; ((with_reducible refine (HFW.out _ (Ext.refl _)).mono ?_); rintro r w2 ⟨rfl, hx2⟩; obtain ⟨a0, a1, a2, a3, a4, a5, a6, a7, a8, a9, a10⟩ := MKA.out _ hx2)) | (go_at_call 11; ((with_reducible refine (HPF.out _ hx2).mono ?_); rintro r w3 ⟨A3, c3, rfl, hc3, hV3, hx3⟩)))
    have HV3 := Lib.hid (vals_lt hV3)
    have HX3 := Lib.hid (hx2.trans hx3)
    have HX2 := Lib.hid hx2
    have HY3 := Lib.hid hx3
    clear hV3 hx2 hx3 a0 a1 a2 a3 a4 a5 a6 a7 a8 a9 a10 HFW HPF
    go_wp2_with fail
    go_loopw [4, 5] (fun v4 u W => ∃ (vO : Value) (k : Nat) (hsO : List HV), vO = v4 ∧ u = .int .i64 k ∧ k ≤ RR.length ∧ Hid (Ext w3 W) ∧ Hid (OwnV W w3.heap.size (fun b => w2.heap.size ≤ b ∧ b < w3.heap.size) vO hsO) ∧ Hid (hsO.map HV.v = (RR.take k).filter (endsP tn))) (fun _ u _ => RR.length - (intOf u).toNat)
    case atStart => exact ⟨_, 0, [], rfl, rfl, Nat.zero_le _, Lib.hid (Ext.refl _), Lib.hid (OwnG.nil _ _ _ _ _), Lib.hid (by rw [List.take_zero]; rfl)⟩
    case round =>
      obtain ⟨vO, k, hsO, rfl, rfl, hk, hE, HO, HM⟩ := hrel
      by_cases hlt : k < RR.length
      · obtain ⟨b, o, rfl, -⟩ := HV3.out.atB (i := k) hlt
        obtain ⟨⟨xA, xc, xv⟩, hxv, hxl, x0, x1, x2, x3, x4⟩ := Vals.head HV3.out (i := k) hlt
        replace hxv : xv = RR[k]! := hxv
        obtain ⟨m1, n, m2, m3, hmn, hmx, hn6, m4, m5⟩ := HMO.out xv (by rw [hxv, getElem!_pos RR k hlt]; exact List.getElem_mem hlt)
        obtain ⟨m, hm⟩ : ∃ m, m = 2 * n := ⟨_, rfl⟩
        rw [← hm] at m3 m5
        obtain ⟨b2, o2, hxA, hc2⟩ := hxl.2.atB (i := 0) (by show 0 < xv.l.length; omega)
        replace hxA : xA = _ := hxA
        subst hxA
        obtain ⟨-, -, -, ⟨-, n0, -⟩, -⟩ := hc2 0 (by show 0 < xv.l.length; omega)
        obtain ⟨-, -, -, ⟨-, nL, -⟩, -⟩ := hc2 m (by show m < xv.l.length; omega)
        replace n0 : w3.cell? ⟨b2, o2 + 1, none⟩ = some (.int .i64 xv.l[0]!.n) := by have h := n0; rwa [show o2 + 0 * 5 + 1 = o2 + 1 by omega] at h
        replace nL : w3.cell? ⟨b2, o2 + m * 5 + 1, none⟩ = some (.int .i64 xv.l[m]!.n) := nL
        rw [m4] at n0
        have hxl2 : KHV.lies w3 (fun b => (w2.heap.size ≤ b ∧ b < w3.heap.size) ∧ some b ≠ vO.ownBlock) ⟨some ⟨b2, o2, none⟩, xc, xv⟩ := ⟨hxl.1, hxl.2.to (fun b3 hb => ⟨hb, fun e1 => by have h1 := (OwnG.lt HO.out e1.symm).1; have h2 := hb.2; omega⟩)⟩
        have HXL := Lib.hid (fun V (e' : Ext wr V) => KHV.keep _ _ _ _ _ (fun _ _ _ hb hc => ⟨(hE.out.trans e').cell hc, hb⟩) hxl2)
        have HOL := Lib.hid (by have := congrArg List.length HM.out; rw [List.length_map] at this; have h2 := List.length_filter_le (endsP tn) (RR.take k); rw [List.length_take] at h2; omega : hsO.length + 1 ≤ 8388608)
        have HOB := Lib.hid (fun g2 (h2 : vO.ownBlock = some g2) => (OwnG.lt HO.out h2).1)
        have HEA := Lib.hid m5
        have HY := Lib.hid (fun (h : endsP tn xv = true) => (by rw [List.map_append, HM.out, List.take_succ_eq_append_getElem hlt, List.filter_append, ← getElem!_pos RR k hlt, ← hxv]; simp [h] : (hsO ++ [(⟨some ⟨b2, o2, none⟩, xc, xv⟩ : HV)]).map HV.v = (RR.take (k + 1)).filter (endsP tn)))
        have HN := Lib.hid (fun (h : endsP tn xv = false) => (by rw [HM.out, List.take_succ_eq_append_getElem hlt, List.filter_append, ← getElem!_pos RR k hlt, ← hxv]; simp [h] : hsO.map HV.v = (RR.take (k + 1)).filter (endsP tn)))
        have HLM := Lib.hid m3
        have HI := Lib.hid (fun W (e' : Ext wr W) => (by have h := HIS.out xv _ (some ⟨b2, o2, none⟩) xc W (HX3.out.trans (hE.out.trans e')) (hxl.2.ext (hE.out.trans e')); rw [m1] at h; unfold agV at h; rw [m3] at h; exact h : Calls Tryz.prog 15 #[.agg #[.slice A g.nodes.length c, .slice B g.edges.length d, .int .i64 g.nn, .int .i64 g.ne], .agg #[.int .i64 xv.kind, .int .i64 xv.n, .int .i64 xv.d, .string xv.s, .slice (some ⟨b2, o2, none⟩) (m + 1) xc], .slice T types.length e, .int .i64 dir, .int .i64 mode] W fun r w' => r = .returned (.bool true) ∧ Ext W w'))
        have HH := Lib.hid (fun W (e' : Ext wr W) => (by have h := p_Hops xv _ (some ⟨b2, o2, none⟩) xc W (hxl.2.ext (hE.out.trans e')); rw [m2] at h; unfold agV at h; rw [m3] at h; exact h : Calls Tryz.prog 17 #[.agg #[.int .i64 xv.kind, .int .i64 xv.n, .int .i64 xv.d, .string xv.s, .slice (some ⟨b2, o2, none⟩) (m + 1) xc]] W fun r w' => r = .returned (.int .i64 n) ∧ Ext W w'))
        have x4' : w3.cell? ⟨b, o + k * 5 + 4, none⟩ = some (.slice (some ⟨b2, o2, none⟩) (m + 1) xc) := by rw [← m3]; exact x4
        generalize hla : xv.l[m]!.n = la at *
        have MK := Lib.hid (fun V (e' : Ext wr V) => (⟨MKA.out V (HX3.out.trans (hE.out.trans e')), (hE.out.trans e').cell x0, (hE.out.trans e').cell x1, (hE.out.trans e').cell x2, (hE.out.trans e').cell x3, (hE.out.trans e').cell x4', (hE.out.trans e').cell n0, (hE.out.trans e').cell nL⟩ : (V.cell? ⟨q, 0, none⟩ = some (.slice A g.nodes.length c) ∧ V.cell? ⟨q, 1, none⟩ = some (.slice B g.edges.length d) ∧ V.cell? ⟨q, 2, none⟩ = some (.int .i64 g.nn) ∧ V.cell? ⟨q, 3, none⟩ = some (.int .i64 g.ne) ∧ V.cell? ⟨q, 4, none⟩ = some (.int .i64 fr) ∧ V.cell? ⟨q, 5, none⟩ = some (.int .i64 tn) ∧ V.cell? ⟨q, 6, none⟩ = some (.int .i64 dir) ∧ V.cell? ⟨q, 7, none⟩ = some (.int .i64 mode) ∧ V.cell? ⟨q, 8, none⟩ = some (.int .i64 mn) ∧ V.cell? ⟨q, 9, none⟩ = some (.int .i64 mx) ∧ V.cell? ⟨q, 10, none⟩ = some (.slice T types.length e)) ∧ (V.cell? ⟨b, o + k * 5, none⟩ = some (.int .i64 xv.kind) ∧ V.cell? ⟨b, o + k * 5 + 1, none⟩ = some (.int .i64 xv.n) ∧ V.cell? ⟨b, o + k * 5 + 2, none⟩ = some (.int .i64 xv.d) ∧ V.cell? ⟨b, o + k * 5 + 3, none⟩ = some (.string xv.s) ∧ V.cell? ⟨b, o + k * 5 + 4, none⟩ = some (.slice (some ⟨b2, o2, none⟩) (m + 1) xc) ∧ V.cell? ⟨b2, o2 + 1, none⟩ = some (.int .i64 fr) ∧ V.cell? ⟨b2, o2 + m * 5 + 1, none⟩ = some (.int .i64 la))))
        have hm12 : m ≤ 12 := by omega
        have wm1 : IntKind.i64.wrap (2 * (n : Int)) = (m : Int) := by rw [IntKind.wrap_i64]; omega
        have wm2 : IntKind.i64.wrap ((m : Int) + 1) = ((m + 1 : Nat) : Int) := by rw [IntKind.wrap_i64]; omega
        have gmn : decide ((n : Int) < mn) = false := decide_eq_false (by omega)
        have gmx : decide (mx < (n : Int)) = false := decide_eq_false (by omega)
        have gfr : (fr != fr) = false := by simp
        have HHM := Lib.hid hm
        clear hm n0 nL hxl2 x0 x1 x2 x3 x4 x4' hc2 m1 m2 m3 m4 m5 hmn hmx HIS HMO HM hla
        by_cases hk0 : k = 0
        · have g0 : decide (0 < (k : Int)) = false := decide_eq_false (by omega)
          have g0' : decide (0 < k) = false := decide_eq_false (by omega)
          clear hxv hxl HOR HRS hk0
          obtain ⟨⟨a0, a1, a2, a3, a4, a5, a6, a7, a8, a9, a10⟩, ⟨x0, x1, x2, x3, x4, n0, nL⟩⟩ := MK.out wr (Ext.refl _)
          go_upto_region 9 with ((go_at_call 17; ((with_reducible refine (HH.out _ (Ext.refl _)).mono ?_); rintro r v7 ⟨rfl, hy7⟩)))
          obtain ⟨⟨a0, a1, a2, a3, a4, a5, a6, a7, a8, a9, a10⟩, ⟨x0, x1, x2, x3, x4, n0, nL⟩⟩ := MK.out v7 hy7
          refine wp_region_held_drew (S := (fun V => (V.cell? ⟨q, 0, none⟩ = some (.slice A g.nodes.length c) ∧ V.cell? ⟨q, 1, none⟩ = some (.slice B g.edges.length d) ∧ V.cell? ⟨q, 2, none⟩ = some (.int .i64 g.nn) ∧ V.cell? ⟨q, 3, none⟩ = some (.int .i64 g.ne) ∧ V.cell? ⟨q, 4, none⟩ = some (.int .i64 fr) ∧ V.cell? ⟨q, 5, none⟩ = some (.int .i64 tn) ∧ V.cell? ⟨q, 6, none⟩ = some (.int .i64 dir) ∧ V.cell? ⟨q, 7, none⟩ = some (.int .i64 mode) ∧ V.cell? ⟨q, 8, none⟩ = some (.int .i64 mn) ∧ V.cell? ⟨q, 9, none⟩ = some (.int .i64 mx) ∧ V.cell? ⟨q, 10, none⟩ = some (.slice T types.length e)) ∧ (V.cell? ⟨b, o + k * 5, none⟩ = some (.int .i64 xv.kind) ∧ V.cell? ⟨b, o + k * 5 + 1, none⟩ = some (.int .i64 xv.n) ∧ V.cell? ⟨b, o + k * 5 + 2, none⟩ = some (.int .i64 xv.d) ∧ V.cell? ⟨b, o + k * 5 + 3, none⟩ = some (.string xv.s) ∧ V.cell? ⟨b, o + k * 5 + 4, none⟩ = some (.slice (some ⟨b2, o2, none⟩) (m + 1) xc) ∧ V.cell? ⟨b2, o2 + 1, none⟩ = some (.int .i64 fr) ∧ V.cell? ⟨b2, o2 + m * 5 + 1, none⟩ = some (.int .i64 la)))) (by kernel_rfl) ?hs22029 (fun hHeld => ?go22029)
          case hs22029 => (exact MK.out _ (by solve_by_elim [X0, X1, X2, X3]))
          refine TK 0 (v := ?v22030) hHeld ?hy22030 ?_
          case hy22030 => (intro w _; go_simp <;> rfl)
          (try simp only [PU])
          refine TK 1 (v := ?v22031) hHeld ?hy22031 ?_
          case hy22031 => (intro w _; go_simp <;> rfl)
          (try simp only [PU])
          refine TK 2 (v := ?v22032) hHeld ?hy22032 ?_
          case hy22032 => (intro w _; go_simp <;> first | with_reducible rfl | rw [if_neg (by omega)] | rw [if_pos (by omega)])
          (try simp only [PU])
          refine TK 3 (v := ?v22033) hHeld ?hy22033 ?_
          case hy22033 => (intro w _; go_simp <;> rfl)
          (try simp only [PU])
          refine TK 4 (v := ?v22034) hHeld ?hy22034 ?_
          case hy22034 => (intro w hSw; (try dsimp only at hSw); go_simp <;> first | with_reducible rfl | rw [if_neg (by omega)] | rw [if_pos (by omega)])
          (try simp only [PU])
          refine TK 5 (v := ?v22035) hHeld ?hy22035 ?_
          case hy22035 => (intro w _; go_simp <;> first | with_reducible rfl | rw [if_neg (by omega)] | rw [if_pos (by omega)])
          (try simp only [PU])
          refine TK 6 (v := ?v22036) hHeld ?hy22036 ?_
          case hy22036 => (intro w _; go_simp <;> rfl)
          (try simp only [PU])
          refine TK 7 (v := ?v22037) hHeld ?hy22037 ?_
          case hy22037 => (intro w _; go_simp <;> first | with_reducible rfl | rw [if_neg (by omega)] | rw [if_pos (by omega)])
          (try simp only [PU])
          refine TK 8 (v := ?v22038) hHeld ?hy22038 ?_
          case hy22038 => (intro w _; go_simp <;> first | with_reducible rfl | rw [if_neg (by omega)] | rw [if_pos (by omega)])
          (try simp only [PU])
          refine TK 9 (v := ?v22039) hHeld ?hy22039 ?_
          case hy22039 => (intro w _; go_simp <;> first | with_reducible rfl | rw [if_neg (by omega)] | rw [if_pos (by omega)])
          (try simp only [PU])
          refine TK 10 (v := ?v22040) hHeld ?hy22040 ?_
          case hy22040 => (intro w _; go_simp <;> rfl)
          (try simp only [PU])
          refine TK 11 (v := ?v22041) hHeld ?hy22041 ?_
          case hy22041 => (intro w _; go_simp <;> rfl)
          (try simp only [PU])
          refine TK 12 (v := ?v22042) hHeld ?hy22042 ?_
          case hy22042 => (intro w _; go_simp <;> rfl)
          (try simp only [PU])
          refine TK 13 (v := ?v22043) hHeld ?hy22043 ?_
          case hy22043 => (intro w hSw; (try dsimp only at hSw); go_simp <;> first | with_reducible rfl | rw [if_neg (by omega)] | rw [if_pos (by omega)])
          (try simp only [PU])
          refine TK 14 (v := ?v22044) hHeld ?hy22044 ?_
          case hy22044 => (intro w _; go_simp <;> first | with_reducible rfl | rw [if_neg (by omega)] | rw [if_pos (by omega)])
          (try simp only [PU])
          refine TK 15 (v := ?v22045) hHeld ?hy22045 ?_
          case hy22045 => (intro w _; go_simp <;> rfl)
          (try simp only [PU])
          refine TK 16 (v := ?v22046) hHeld ?hy22046 ?_
          case hy22046 => (intro w _; go_simp <;> rfl)
          (try simp only [PU])
          refine TK 17 (v := ?v22047) hHeld ?hy22047 ?_
          case hy22047 => (intro w _; go_simp <;> rfl)
          (try simp only [PU])
          refine TK 18 (v := ?v22048) hHeld ?hy22048 ?_
          case hy22048 => (intro w _; go_simp <;> rfl)
          (try simp only [PU])
          refine TK 19 (v := ?v22049) hHeld ?hy22049 ?_
          case hy22049 => (intro w hSw; (try dsimp only at hSw); go_simp <;> first | with_reducible rfl | rw [if_neg (by omega)] | rw [if_pos (by omega)])
          (try simp only [PU])
          refine TK 20 (v := ?v22050) hHeld ?hy22050 ?_
          case hy22050 => (intro w _; go_simp <;> first | with_reducible rfl | rw [if_neg (by omega)] | rw [if_pos (by omega)])
          (try simp only [PU])
          refine TK 21 (v := ?v22051) hHeld ?hy22051 ?_
          case hy22051 => (intro w _; go_simp <;> rfl)
          (try simp only [PU])
          refine TK 22 (v := ?v22052) hHeld ?hy22052 ?_
          case hy22052 => (intro w _; go_simp <;> rfl)
          (try simp only [PU])
          refine TK 23 (v := ?v22053) hHeld ?hy22053 ?_
          case hy22053 => (intro w _; go_simp <;> rfl)
          (try simp only [PU])
          refine TK 24 (v := ?v22054) hHeld ?hy22054 ?_
          case hy22054 => (intro w hSw; (try dsimp only at hSw); go_simp <;> first | with_reducible rfl | rw [if_neg (by omega)] | rw [if_pos (by omega)])
          (try simp only [PU])
          refine TK 25 (v := ?v22055) hHeld ?hy22055 ?_
          case hy22055 => (intro w _; go_simp <;> rfl)
          (try simp only [PU])
          refine TK 26 (v := ?v22056) hHeld ?hy22056 ?_
          case hy22056 => (intro w _; go_simp <;> rfl)
          (try simp only [PU])
          refine TK 27 (v := ?v22057) hHeld ?hy22057 ?_
          case hy22057 => (intro w _; go_simp <;> first | with_reducible rfl | rw [if_neg (by omega)] | rw [if_pos (by omega)])
          (try simp only [PU])
          refine TK 28 (v := ?v22058) hHeld ?hy22058 ?_
          case hy22058 => (intro w hSw; (try dsimp only at hSw); go_simp <;> first | with_reducible rfl | rw [if_neg (by omega)] | rw [if_pos (by omega)])
          (try simp only [PU])
          refine TK 29 (v := ?v22059) hHeld ?hy22059 ?_
          case hy22059 => (intro w _; go_simp <;> rfl)
          (try simp only [PU])
          refine TK 30 (v := ?v22060) hHeld ?hy22060 ?_
          case hy22060 => (intro w hSw; (try dsimp only at hSw); go_simp <;> first | with_reducible rfl | rw [if_neg (by omega)] | rw [if_pos (by omega)])
          (try simp only [PU])
          refine TK 31 (v := ?v22061) hHeld ?hy22061 ?_
          case hy22061 => (intro w _; go_simp <;> rfl)
          (try simp only [PU])
          refine TK 32 (v := ?v22062) hHeld ?hy22062 ?_
          case hy22062 => (intro w hSw; (try dsimp only at hSw); go_simp <;> first | with_reducible rfl | rw [if_neg (by omega)] | rw [if_pos (by omega)])
          (try simp only [PU])
          refine TK 33 (v := ?v22063) hHeld ?hy22063 ?_
          case hy22063 => (intro w _; go_simp <;> rfl)
          (try simp only [PU])
          refine TK 34 (v := ?v22064) hHeld ?hy22064 ?_
          case hy22064 => (intro w hSw; (try dsimp only at hSw); go_simp <;> first | with_reducible rfl | rw [if_neg (by omega)] | rw [if_pos (by omega)])
          (try simp only [PU])
          refine wpAnyH_ready (rs := [35]) (by kernel_rfl) (by simp) ?_
          refine AllReadyH.cons (o := ⟨_, _, _, _, _, _⟩) rfl (fun K hK => ?step22065x0) ?more22065x0
          case more22065x0 => exact AllReadyH.nil
          go_simp
          (with_reducible refine (HI.out _ (by solve_by_elim [X0, X1, X2, X3])).mono ?_; rintro r v9 ⟨rfl, hy9⟩; replace hy9 : Ext wr v9 := Ext.trans (by solve_by_elim [X0, X1, X2, X3]) hy9)
          refine hK.out _ _ ?hS22065x0 (fun H22065 => ?_)
          case hS22065x0 => first | (exact MK.out _ (by solve_by_elim [X0, X1, X2, X3])) | ((try dsimp only); (exact MK.out _ (by solve_by_elim [X0, X1, X2, X3])))
          clear hK K
          clear hHeld
          (try simp only [PU])
          refine TK 36 (v := ?v22066) H22065 ?hy22066 ?_
          case hy22066 => (intro w _; go_simp <;> first | with_reducible rfl | rw [if_neg (by omega)] | rw [if_pos (by omega)])
          (try simp only [PU])
          refine TK 37 (v := ?v22067) H22065 ?hy22067 ?_
          case hy22067 => (intro w _; go_simp <;> rfl)
          (try simp only [PU])
          refine TK 38 (v := ?v22068) H22065 ?hy22068 ?_
          case hy22068 => (intro w _; go_simp <;> rfl)
          (try simp only [PU])
          refine TK 39 (v := ?v22069) H22065 ?hy22069 ?_
          case hy22069 => (intro w _; go_simp <;> rfl)
          (try simp only [PU])
          refine TK 40 (v := ?v22070) H22065 ?hy22070 ?_
          case hy22070 => (intro w _; go_simp <;> rfl)
          (try simp only [PU])
          refine TK 41 (v := ?v22071) H22065 ?hy22071 ?_
          case hy22071 => (intro w _; go_simp <;> first | with_reducible rfl | rw [if_neg (by omega)] | rw [if_pos (by omega)])
          (try simp only [PU])
          refine TK 42 (v := ?v22072) H22065 ?hy22072 ?_
          case hy22072 => (intro w _; go_simp <;> rfl)
          (try simp only [PU])
          refine TK 43 (v := ?v22073) H22065 ?hy22073 ?_
          case hy22073 => (intro w hSw; (try dsimp only at hSw); go_simp <;> first | with_reducible rfl | rw [if_neg (by omega)] | rw [if_pos (by omega)])
          (try simp only [PU])
          refine TK 44 (v := ?v22074) H22065 ?hy22074 ?_
          case hy22074 => (intro w _; go_simp <;> first | with_reducible rfl | rw [if_neg (by omega)] | rw [if_pos (by omega)])
          (try simp only [PU])
          refine TK 45 (v := ?v22075) H22065 ?hy22075 ?_
          case hy22075 => (intro w _; go_simp <;> rfl)
          (try simp only [PU])
          refine TK 46 (v := ?v22076) H22065 ?hy22076 ?_
          case hy22076 => (intro w hSw; (try dsimp only at hSw); go_simp <;> first | with_reducible rfl | rw [if_neg (by omega)] | rw [if_pos (by omega)])
          (try simp only [PU])
          refine TK 47 (v := ?v22077) H22065 ?hy22077 ?_
          case hy22077 => (intro w _; go_simp <;> rfl)
          (try simp only [PU])
          refine TK 48 (v := ?v22078) H22065 ?hy22078 ?_
          case hy22078 => (intro w hSw; (try dsimp only at hSw); go_simp <;> first | with_reducible rfl | rw [if_neg (by omega)] | rw [if_pos (by omega)])
          (try simp only [PU])
          refine TK 49 (v := ?v22079) H22065 ?hy22079 ?_
          case hy22079 => (intro w _; go_simp <;> first | with_reducible rfl | rw [if_neg (by omega)] | rw [if_pos (by omega)])
          (try simp only [PU])
          refine TK 50 (v := ?v22080) H22065 ?hy22080 ?_
          case hy22080 => (intro w _; go_simp <;> rfl)
          (try simp only [PU])
          refine TK 51 (v := ?v22081) H22065 ?hy22081 ?_
          case hy22081 => (intro w _; go_simp <;> rfl)
          (try simp only [PU])
          refine TK 52 (v := ?v22082) H22065 ?hy22082 ?_
          case hy22082 => (intro w _; go_simp <;> rfl)
          (try simp only [PU])
          refine TK 53 (v := ?v22083) H22065 ?hy22083 ?_
          case hy22083 => (intro w _; go_simp <;> first | with_reducible rfl | rw [if_neg (by omega)] | rw [if_pos (by omega)])
          (try simp only [PU])
          refine TK 54 (v := ?v22084) H22065 ?hy22084 ?_
          case hy22084 => (intro w _; go_simp <;> rfl)
          (try simp only [PU])
          refine TN 55 H22065 ?_
          (try simp only [PU])
          refine TN 56 H22065 ?_
          (try simp only [PU])
          refine TN 57 H22065 ?_
          (try simp only [PU])
          refine TN 58 H22065 ?_
          (try simp only [PU])
          refine TN 59 H22065 ?_
          (try simp only [PU])
          refine TN 60 H22065 ?_
          (try simp only [PU])
          refine TN 61 H22065 ?_
          (try simp only [PU])
          refine TN 62 H22065 ?_
          (try simp only [PU])
          refine TN 63 H22065 ?_
          (try simp only [PU])
          refine TN 64 H22065 ?_
          (try simp only [PU])
          refine TN 65 H22065 ?_
          (try simp only [PU])
          refine TK 66 (v := ?v22096) H22065 ?hy22096 ?_
          case hy22096 => (intro w _; go_simp <;> rfl)
          (try simp only [PU])
          refine TK 67 (v := ?v22097) H22065 ?hy22097 ?_
          case hy22097 => (intro w _; go_simp <;> rfl)
          (try simp only [PU])
          refine wpAnyH_done (by kernel_rfl) ?_ _
          clear H22065
          by_cases he : la = tn
          · have HT := Lib.hid (HY.out (by rw [HEA.out]; exact decide_eq_true he))
            have hbe : (la == tn) = true := beq_iff_eq.2 he
            clear HY HN HEA he
            obtain ⟨⟨a0, a1, a2, a3, a4, a5, a6, a7, a8, a9, a10⟩, ⟨x0, x1, x2, x3, x4, n0, nL⟩⟩ := MK.out v9 hy9
            go_upto_region 11 with (fail)
            refine wp_region_held_drew (S := (fun V => (V.cell? ⟨q, 0, none⟩ = some (.slice A g.nodes.length c) ∧ V.cell? ⟨q, 1, none⟩ = some (.slice B g.edges.length d) ∧ V.cell? ⟨q, 2, none⟩ = some (.int .i64 g.nn) ∧ V.cell? ⟨q, 3, none⟩ = some (.int .i64 g.ne) ∧ V.cell? ⟨q, 4, none⟩ = some (.int .i64 fr) ∧ V.cell? ⟨q, 5, none⟩ = some (.int .i64 tn) ∧ V.cell? ⟨q, 6, none⟩ = some (.int .i64 dir) ∧ V.cell? ⟨q, 7, none⟩ = some (.int .i64 mode) ∧ V.cell? ⟨q, 8, none⟩ = some (.int .i64 mn) ∧ V.cell? ⟨q, 9, none⟩ = some (.int .i64 mx) ∧ V.cell? ⟨q, 10, none⟩ = some (.slice T types.length e)) ∧ (V.cell? ⟨b, o + k * 5, none⟩ = some (.int .i64 xv.kind) ∧ V.cell? ⟨b, o + k * 5 + 1, none⟩ = some (.int .i64 xv.n) ∧ V.cell? ⟨b, o + k * 5 + 2, none⟩ = some (.int .i64 xv.d) ∧ V.cell? ⟨b, o + k * 5 + 3, none⟩ = some (.string xv.s) ∧ V.cell? ⟨b, o + k * 5 + 4, none⟩ = some (.slice (some ⟨b2, o2, none⟩) (m + 1) xc) ∧ V.cell? ⟨b2, o2 + 1, none⟩ = some (.int .i64 fr) ∧ V.cell? ⟨b2, o2 + m * 5 + 1, none⟩ = some (.int .i64 la)))) (by kernel_rfl) ?hs22001 (fun hHeld => ?go22001)
            case hs22001 => (exact MK.out _ (by solve_by_elim [X0, X1, X2, X3]))
            refine TK 0 (v := ?v22002) hHeld ?hy22002 ?_
            case hy22002 => (intro w _; go_simp <;> rfl)
            (try simp only [PU])
            refine TK 1 (v := ?v22003) hHeld ?hy22003 ?_
            case hy22003 => (intro w _; go_simp <;> rfl)
            (try simp only [PU])
            refine TK 2 (v := ?v22004) hHeld ?hy22004 ?_
            case hy22004 => (intro w _; go_simp <;> first | with_reducible rfl | rw [if_neg (by omega)] | rw [if_pos (by omega)])
            (try simp only [PU])
            refine TK 3 (v := ?v22005) hHeld ?hy22005 ?_
            case hy22005 => (intro w _; go_simp <;> rfl)
            (try simp only [PU])
            refine TK 4 (v := ?v22006) hHeld ?hy22006 ?_
            case hy22006 => (intro w hSw; (try dsimp only at hSw); go_simp <;> first | with_reducible rfl | rw [if_neg (by omega)] | rw [if_pos (by omega)])
            (try simp only [PU])
            refine TK 5 (v := ?v22007) hHeld ?hy22007 ?_
            case hy22007 => (intro w _; go_simp <;> rfl)
            (try simp only [PU])
            refine TK 6 (v := ?v22008) hHeld ?hy22008 ?_
            case hy22008 => (intro w _; go_simp <;> first | with_reducible rfl | rw [if_neg (by omega)] | rw [if_pos (by omega)])
            (try simp only [PU])
            refine TK 7 (v := ?v22009) hHeld ?hy22009 ?_
            case hy22009 => (intro w _; go_simp <;> first | with_reducible rfl | rw [if_neg (by omega)] | rw [if_pos (by omega)])
            (try simp only [PU])
            refine TK 8 (v := ?v22010) hHeld ?hy22010 ?_
            case hy22010 => (intro w _; go_simp <;> rfl)
            (try simp only [PU])
            refine TK 9 (v := ?v22011) hHeld ?hy22011 ?_
            case hy22011 => (intro w hSw; (try dsimp only at hSw); go_simp <;> first | with_reducible rfl | rw [if_neg (by omega)] | rw [if_pos (by omega)])
            (try simp only [PU])
            refine TK 10 (v := ?v22012) hHeld ?hy22012 ?_
            case hy22012 => (intro w _; go_simp <;> rfl)
            (try simp only [PU])
            refine TK 11 (v := ?v22013) hHeld ?hy22013 ?_
            case hy22013 => (intro w hSw; (try dsimp only at hSw); go_simp <;> first | with_reducible rfl | rw [if_neg (by omega)] | rw [if_pos (by omega)])
            (try simp only [PU])
            refine TK 12 (v := ?v22014) hHeld ?hy22014 ?_
            case hy22014 => (intro w _; go_simp <;> first | with_reducible rfl | rw [if_neg (by omega)] | rw [if_pos (by omega)])
            (try simp only [PU])
            refine wpAnyH_done (by kernel_rfl) ?_ _
            clear hHeld
            obtain ⟨⟨a0, a1, a2, a3, a4, a5, a6, a7, a8, a9, a10⟩, ⟨x0, x1, x2, x3, x4, n0, nL⟩⟩ := MK.out v9.drew (by solve_by_elim [X0, X1, X2, X3])
            go_wp2_with (at_builtin; go_loud (refine own_pushG (v := vO) (hs := hsO) T_hv rfl (.tmp 121) (.tmp 126) rfl v9.drew rfl (OwnG.ext HO.out (by solve_by_elim [X0, X1, X2, X3])) (Nat.le_trans hE.out.le (Ext.le (by solve_by_elim [X0, X1, X2, X3]))) ⟨some ⟨b2, o2, none⟩, xc, xv⟩ (HXL.out _ (by solve_by_elim [X0, X1, X2, X3])) (by show _ = v9.drew.alloc (.cells #[.int .i64 xv.kind, .int .i64 xv.n, .int .i64 xv.d, .string xv.s, .slice (some ⟨b2, o2, none⟩) xv.l.length xc] _); rw [HLM.out]; rfl) _ rfl rfl HOL.out (by decide) ?_); intro v6 w6 hO6 hg6 hd6)
            have hE6 : Ext w3 w6 := (hE.out.trans (show Ext wr v9.drew from (by solve_by_elim [X0, X1, X2, X3]))).grown hg6 (fun g2 h2 => HOB.out g2 h2)
            have HO6 := Lib.hid hO6
            clear hO6 hg6 hd6
            go_roundw
            case rel => exact ⟨_, k + 1, _, rfl, by go_num, by omega, Lib.hid hE6, HO6, HT⟩
            case measure => simp [intOf]; omega
          · have HT := Lib.hid (HN.out (by rw [HEA.out]; exact decide_eq_false he))
            have hbe : (la == tn) = false := beq_eq_false_iff_ne.2 he
            clear HY HN HEA he
            obtain ⟨⟨a0, a1, a2, a3, a4, a5, a6, a7, a8, a9, a10⟩, ⟨x0, x1, x2, x3, x4, n0, nL⟩⟩ := MK.out v9 hy9
            go_upto_region 11 with (fail)
            refine wp_region_held_drew (S := (fun V => (V.cell? ⟨q, 0, none⟩ = some (.slice A g.nodes.length c) ∧ V.cell? ⟨q, 1, none⟩ = some (.slice B g.edges.length d) ∧ V.cell? ⟨q, 2, none⟩ = some (.int .i64 g.nn) ∧ V.cell? ⟨q, 3, none⟩ = some (.int .i64 g.ne) ∧ V.cell? ⟨q, 4, none⟩ = some (.int .i64 fr) ∧ V.cell? ⟨q, 5, none⟩ = some (.int .i64 tn) ∧ V.cell? ⟨q, 6, none⟩ = some (.int .i64 dir) ∧ V.cell? ⟨q, 7, none⟩ = some (.int .i64 mode) ∧ V.cell? ⟨q, 8, none⟩ = some (.int .i64 mn) ∧ V.cell? ⟨q, 9, none⟩ = some (.int .i64 mx) ∧ V.cell? ⟨q, 10, none⟩ = some (.slice T types.length e)) ∧ (V.cell? ⟨b, o + k * 5, none⟩ = some (.int .i64 xv.kind) ∧ V.cell? ⟨b, o + k * 5 + 1, none⟩ = some (.int .i64 xv.n) ∧ V.cell? ⟨b, o + k * 5 + 2, none⟩ = some (.int .i64 xv.d) ∧ V.cell? ⟨b, o + k * 5 + 3, none⟩ = some (.string xv.s) ∧ V.cell? ⟨b, o + k * 5 + 4, none⟩ = some (.slice (some ⟨b2, o2, none⟩) (m + 1) xc) ∧ V.cell? ⟨b2, o2 + 1, none⟩ = some (.int .i64 fr) ∧ V.cell? ⟨b2, o2 + m * 5 + 1, none⟩ = some (.int .i64 la)))) (by kernel_rfl) ?hs22015 (fun hHeld => ?go22015)
            case hs22015 => (exact MK.out _ (by solve_by_elim [X0, X1, X2, X3]))
            refine TK 0 (v := ?v22016) hHeld ?hy22016 ?_
            case hy22016 => (intro w _; go_simp <;> rfl)
            (try simp only [PU])
            refine TK 1 (v := ?v22017) hHeld ?hy22017 ?_
            case hy22017 => (intro w _; go_simp <;> rfl)
            (try simp only [PU])
            refine TK 2 (v := ?v22018) hHeld ?hy22018 ?_
            case hy22018 => (intro w _; go_simp <;> first | with_reducible rfl | rw [if_neg (by omega)] | rw [if_pos (by omega)])
            (try simp only [PU])
            refine TK 3 (v := ?v22019) hHeld ?hy22019 ?_
            case hy22019 => (intro w _; go_simp <;> rfl)
            (try simp only [PU])
            refine TK 4 (v := ?v22020) hHeld ?hy22020 ?_
            case hy22020 => (intro w hSw; (try dsimp only at hSw); go_simp <;> first | with_reducible rfl | rw [if_neg (by omega)] | rw [if_pos (by omega)])
            (try simp only [PU])
            refine TK 5 (v := ?v22021) hHeld ?hy22021 ?_
            case hy22021 => (intro w _; go_simp <;> rfl)
            (try simp only [PU])
            refine TK 6 (v := ?v22022) hHeld ?hy22022 ?_
            case hy22022 => (intro w _; go_simp <;> first | with_reducible rfl | rw [if_neg (by omega)] | rw [if_pos (by omega)])
            (try simp only [PU])
            refine TK 7 (v := ?v22023) hHeld ?hy22023 ?_
            case hy22023 => (intro w _; go_simp <;> first | with_reducible rfl | rw [if_neg (by omega)] | rw [if_pos (by omega)])
            (try simp only [PU])
            refine TK 8 (v := ?v22024) hHeld ?hy22024 ?_
            case hy22024 => (intro w _; go_simp <;> rfl)
            (try simp only [PU])
            refine TK 9 (v := ?v22025) hHeld ?hy22025 ?_
            case hy22025 => (intro w hSw; (try dsimp only at hSw); go_simp <;> first | with_reducible rfl | rw [if_neg (by omega)] | rw [if_pos (by omega)])
            (try simp only [PU])
            refine TK 10 (v := ?v22026) hHeld ?hy22026 ?_
            case hy22026 => (intro w _; go_simp <;> rfl)
            (try simp only [PU])
            refine TK 11 (v := ?v22027) hHeld ?hy22027 ?_
            case hy22027 => (intro w hSw; (try dsimp only at hSw); go_simp <;> first | with_reducible rfl | rw [if_neg (by omega)] | rw [if_pos (by omega)])
            (try simp only [PU])
            refine TK 12 (v := ?v22028) hHeld ?hy22028 ?_
            case hy22028 => (intro w _; go_simp <;> first | with_reducible rfl | rw [if_neg (by omega)] | rw [if_pos (by omega)])
            (try simp only [PU])
            refine wpAnyH_done (by kernel_rfl) ?_ _
            clear hHeld
            go_wp2_with fail
            go_roundw
            case rel => exact ⟨_, k + 1, hsO, rfl, by go_num, by omega, Lib.hid (hE.out.trans (by solve_by_elim [X0, X1, X2, X3])), Lib.hid (OwnG.ext HO.out (by solve_by_elim [X0, X1, X2, X3])), HT⟩
            case measure => simp [intOf]; omega
        · obtain ⟨j, hj⟩ : ∃ j, k = j + 1 := ⟨k - 1, by omega⟩
          have g0 : decide (0 < (k : Int)) = true := decide_eq_true (by omega)
          have g0' : decide (0 < k) = true := decide_eq_true (by omega)
          have hjk : j < RR.length := by omega
          have wj : IntKind.i64.wrap ((k : Int) - 1) = (j : Int) := by rw [IntKind.wrap_i64]; omega
          obtain ⟨⟨yA, yc, yv⟩, hyv, hyl, y0, y1, y2, y3, y4⟩ := Vals.head HV3.out (i := j) hjk
          replace hyv : yv = RR[j]! := hyv
          have hrs := HRS.out k j hj hlt
          rw [← hxv, ← hyv] at hrs
          have HOY := Lib.hid (fun W (e' : Ext wr W) => (by have h := HOR.out yv xv _ _ yA (some ⟨b2, o2, none⟩) yc xc W (HX3.out.trans (hE.out.trans e')) (hyl.2.ext (hE.out.trans e')) (hxl.2.ext (hE.out.trans e')); exact h))
          unfold agV at HOY
          rw [HLM.out] at HOY
          generalize ordP yv xv = od at *
          have god : decide (0 ≤ od) = false := decide_eq_false (by omega)
          have MKY := Lib.hid (fun V (e' : Ext wr V) => (⟨(MK.out V e').1, (MK.out V e').2, (hE.out.trans e').cell y0, (hE.out.trans e').cell y1, (hE.out.trans e').cell y2, (hE.out.trans e').cell y3, (hE.out.trans e').cell y4⟩ : (V.cell? ⟨q, 0, none⟩ = some (.slice A g.nodes.length c) ∧ V.cell? ⟨q, 1, none⟩ = some (.slice B g.edges.length d) ∧ V.cell? ⟨q, 2, none⟩ = some (.int .i64 g.nn) ∧ V.cell? ⟨q, 3, none⟩ = some (.int .i64 g.ne) ∧ V.cell? ⟨q, 4, none⟩ = some (.int .i64 fr) ∧ V.cell? ⟨q, 5, none⟩ = some (.int .i64 tn) ∧ V.cell? ⟨q, 6, none⟩ = some (.int .i64 dir) ∧ V.cell? ⟨q, 7, none⟩ = some (.int .i64 mode) ∧ V.cell? ⟨q, 8, none⟩ = some (.int .i64 mn) ∧ V.cell? ⟨q, 9, none⟩ = some (.int .i64 mx) ∧ V.cell? ⟨q, 10, none⟩ = some (.slice T types.length e)) ∧ (V.cell? ⟨b, o + k * 5, none⟩ = some (.int .i64 xv.kind) ∧ V.cell? ⟨b, o + k * 5 + 1, none⟩ = some (.int .i64 xv.n) ∧ V.cell? ⟨b, o + k * 5 + 2, none⟩ = some (.int .i64 xv.d) ∧ V.cell? ⟨b, o + k * 5 + 3, none⟩ = some (.string xv.s) ∧ V.cell? ⟨b, o + k * 5 + 4, none⟩ = some (.slice (some ⟨b2, o2, none⟩) (m + 1) xc) ∧ V.cell? ⟨b2, o2 + 1, none⟩ = some (.int .i64 fr) ∧ V.cell? ⟨b2, o2 + m * 5 + 1, none⟩ = some (.int .i64 la)) ∧ (V.cell? ⟨b, o + j * 5, none⟩ = some (.int .i64 yv.kind) ∧ V.cell? ⟨b, o + j * 5 + 1, none⟩ = some (.int .i64 yv.n) ∧ V.cell? ⟨b, o + j * 5 + 2, none⟩ = some (.int .i64 yv.d) ∧ V.cell? ⟨b, o + j * 5 + 3, none⟩ = some (.string yv.s) ∧ V.cell? ⟨b, o + j * 5 + 4, none⟩ = some (.slice yA yv.l.length yc))))
          clear hxv hxl HOR HRS hyv hyl hrs y0 y1 y2 y3 y4 MK hj hk0
          obtain ⟨⟨a0, a1, a2, a3, a4, a5, a6, a7, a8, a9, a10⟩, ⟨x0, x1, x2, x3, x4, n0, nL⟩, y0, y1, y2, y3, y4⟩ := MKY.out wr (Ext.refl _)
          go_upto_region 9 with ((go_at_call 17; ((with_reducible refine (HH.out _ (Ext.refl _)).mono ?_); rintro r v7 ⟨rfl, hy7⟩)))
          obtain ⟨⟨a0, a1, a2, a3, a4, a5, a6, a7, a8, a9, a10⟩, ⟨x0, x1, x2, x3, x4, n0, nL⟩, y0, y1, y2, y3, y4⟩ := MKY.out v7 hy7
          refine wp_region_held_drew (S := (fun V => (V.cell? ⟨q, 0, none⟩ = some (.slice A g.nodes.length c) ∧ V.cell? ⟨q, 1, none⟩ = some (.slice B g.edges.length d) ∧ V.cell? ⟨q, 2, none⟩ = some (.int .i64 g.nn) ∧ V.cell? ⟨q, 3, none⟩ = some (.int .i64 g.ne) ∧ V.cell? ⟨q, 4, none⟩ = some (.int .i64 fr) ∧ V.cell? ⟨q, 5, none⟩ = some (.int .i64 tn) ∧ V.cell? ⟨q, 6, none⟩ = some (.int .i64 dir) ∧ V.cell? ⟨q, 7, none⟩ = some (.int .i64 mode) ∧ V.cell? ⟨q, 8, none⟩ = some (.int .i64 mn) ∧ V.cell? ⟨q, 9, none⟩ = some (.int .i64 mx) ∧ V.cell? ⟨q, 10, none⟩ = some (.slice T types.length e)) ∧ (V.cell? ⟨b, o + k * 5, none⟩ = some (.int .i64 xv.kind) ∧ V.cell? ⟨b, o + k * 5 + 1, none⟩ = some (.int .i64 xv.n) ∧ V.cell? ⟨b, o + k * 5 + 2, none⟩ = some (.int .i64 xv.d) ∧ V.cell? ⟨b, o + k * 5 + 3, none⟩ = some (.string xv.s) ∧ V.cell? ⟨b, o + k * 5 + 4, none⟩ = some (.slice (some ⟨b2, o2, none⟩) (m + 1) xc) ∧ V.cell? ⟨b2, o2 + 1, none⟩ = some (.int .i64 fr) ∧ V.cell? ⟨b2, o2 + m * 5 + 1, none⟩ = some (.int .i64 la)) ∧ (V.cell? ⟨b, o + j * 5, none⟩ = some (.int .i64 yv.kind) ∧ V.cell? ⟨b, o + j * 5 + 1, none⟩ = some (.int .i64 yv.n) ∧ V.cell? ⟨b, o + j * 5 + 2, none⟩ = some (.int .i64 yv.d) ∧ V.cell? ⟨b, o + j * 5 + 3, none⟩ = some (.string yv.s) ∧ V.cell? ⟨b, o + j * 5 + 4, none⟩ = some (.slice yA yv.l.length yc)))) (by kernel_rfl) ?hs22126 (fun hHeld => ?go22126)
          case hs22126 => (exact MKY.out _ (by solve_by_elim [X0, X1, X2, X3]))
          refine TK 0 (v := ?v22127) hHeld ?hy22127 ?_
          case hy22127 => (intro w _; go_simp <;> rfl)
          (try simp only [PU])
          refine TK 1 (v := ?v22128) hHeld ?hy22128 ?_
          case hy22128 => (intro w _; go_simp <;> rfl)
          (try simp only [PU])
          refine TK 2 (v := ?v22129) hHeld ?hy22129 ?_
          case hy22129 => (intro w _; go_simp <;> first | with_reducible rfl | rw [if_neg (by omega)] | rw [if_pos (by omega)])
          (try simp only [PU])
          refine TK 3 (v := ?v22130) hHeld ?hy22130 ?_
          case hy22130 => (intro w _; go_simp <;> rfl)
          (try simp only [PU])
          refine TK 4 (v := ?v22131) hHeld ?hy22131 ?_
          case hy22131 => (intro w hSw; (try dsimp only at hSw); go_simp <;> first | with_reducible rfl | rw [if_neg (by omega)] | rw [if_pos (by omega)])
          (try simp only [PU])
          refine TK 5 (v := ?v22132) hHeld ?hy22132 ?_
          case hy22132 => (intro w _; go_simp <;> first | with_reducible rfl | rw [if_neg (by omega)] | rw [if_pos (by omega)])
          (try simp only [PU])
          refine TK 6 (v := ?v22133) hHeld ?hy22133 ?_
          case hy22133 => (intro w _; go_simp <;> rfl)
          (try simp only [PU])
          refine TK 7 (v := ?v22134) hHeld ?hy22134 ?_
          case hy22134 => (intro w _; go_simp <;> first | with_reducible rfl | rw [if_neg (by omega)] | rw [if_pos (by omega)])
          (try simp only [PU])
          refine TK 8 (v := ?v22135) hHeld ?hy22135 ?_
          case hy22135 => (intro w _; go_simp <;> first | with_reducible rfl | rw [if_neg (by omega)] | rw [if_pos (by omega)])
          (try simp only [PU])
          refine TK 9 (v := ?v22136) hHeld ?hy22136 ?_
          case hy22136 => (intro w _; go_simp <;> first | with_reducible rfl | rw [if_neg (by omega)] | rw [if_pos (by omega)])
          (try simp only [PU])
          refine TK 10 (v := ?v22137) hHeld ?hy22137 ?_
          case hy22137 => (intro w _; go_simp <;> rfl)
          (try simp only [PU])
          refine TK 11 (v := ?v22138) hHeld ?hy22138 ?_
          case hy22138 => (intro w _; go_simp <;> rfl)
          (try simp only [PU])
          refine TK 12 (v := ?v22139) hHeld ?hy22139 ?_
          case hy22139 => (intro w _; go_simp <;> rfl)
          (try simp only [PU])
          refine TK 13 (v := ?v22140) hHeld ?hy22140 ?_
          case hy22140 => (intro w hSw; (try dsimp only at hSw); go_simp <;> first | with_reducible rfl | rw [if_neg (by omega)] | rw [if_pos (by omega)])
          (try simp only [PU])
          refine TK 14 (v := ?v22141) hHeld ?hy22141 ?_
          case hy22141 => (intro w _; go_simp <;> first | with_reducible rfl | rw [if_neg (by omega)] | rw [if_pos (by omega)])
          (try simp only [PU])
          refine TK 15 (v := ?v22142) hHeld ?hy22142 ?_
          case hy22142 => (intro w _; go_simp <;> rfl)
          (try simp only [PU])
          refine TK 16 (v := ?v22143) hHeld ?hy22143 ?_
          case hy22143 => (intro w _; go_simp <;> rfl)
          (try simp only [PU])
          refine TK 17 (v := ?v22144) hHeld ?hy22144 ?_
          case hy22144 => (intro w _; go_simp <;> rfl)
          (try simp only [PU])
          refine TK 18 (v := ?v22145) hHeld ?hy22145 ?_
          case hy22145 => (intro w _; go_simp <;> rfl)
          (try simp only [PU])
          refine TK 19 (v := ?v22146) hHeld ?hy22146 ?_
          case hy22146 => (intro w hSw; (try dsimp only at hSw); go_simp <;> first | with_reducible rfl | rw [if_neg (by omega)] | rw [if_pos (by omega)])
          (try simp only [PU])
          refine TK 20 (v := ?v22147) hHeld ?hy22147 ?_
          case hy22147 => (intro w _; go_simp <;> first | with_reducible rfl | rw [if_neg (by omega)] | rw [if_pos (by omega)])
          (try simp only [PU])
          refine TK 21 (v := ?v22148) hHeld ?hy22148 ?_
          case hy22148 => (intro w _; go_simp <;> rfl)
          (try simp only [PU])
          refine TK 22 (v := ?v22149) hHeld ?hy22149 ?_
          case hy22149 => (intro w _; go_simp <;> rfl)
          (try simp only [PU])
          refine TK 23 (v := ?v22150) hHeld ?hy22150 ?_
          case hy22150 => (intro w _; go_simp <;> rfl)
          (try simp only [PU])
          refine TK 24 (v := ?v22151) hHeld ?hy22151 ?_
          case hy22151 => (intro w hSw; (try dsimp only at hSw); go_simp <;> first | with_reducible rfl | rw [if_neg (by omega)] | rw [if_pos (by omega)])
          (try simp only [PU])
          refine TK 25 (v := ?v22152) hHeld ?hy22152 ?_
          case hy22152 => (intro w _; go_simp <;> rfl)
          (try simp only [PU])
          refine TK 26 (v := ?v22153) hHeld ?hy22153 ?_
          case hy22153 => (intro w _; go_simp <;> rfl)
          (try simp only [PU])
          refine TK 27 (v := ?v22154) hHeld ?hy22154 ?_
          case hy22154 => (intro w _; go_simp <;> first | with_reducible rfl | rw [if_neg (by omega)] | rw [if_pos (by omega)])
          (try simp only [PU])
          refine TK 28 (v := ?v22155) hHeld ?hy22155 ?_
          case hy22155 => (intro w hSw; (try dsimp only at hSw); go_simp <;> first | with_reducible rfl | rw [if_neg (by omega)] | rw [if_pos (by omega)])
          (try simp only [PU])
          refine TK 29 (v := ?v22156) hHeld ?hy22156 ?_
          case hy22156 => (intro w _; go_simp <;> rfl)
          (try simp only [PU])
          refine TK 30 (v := ?v22157) hHeld ?hy22157 ?_
          case hy22157 => (intro w hSw; (try dsimp only at hSw); go_simp <;> first | with_reducible rfl | rw [if_neg (by omega)] | rw [if_pos (by omega)])
          (try simp only [PU])
          refine TK 31 (v := ?v22158) hHeld ?hy22158 ?_
          case hy22158 => (intro w _; go_simp <;> rfl)
          (try simp only [PU])
          refine TK 32 (v := ?v22159) hHeld ?hy22159 ?_
          case hy22159 => (intro w hSw; (try dsimp only at hSw); go_simp <;> first | with_reducible rfl | rw [if_neg (by omega)] | rw [if_pos (by omega)])
          (try simp only [PU])
          refine TK 33 (v := ?v22160) hHeld ?hy22160 ?_
          case hy22160 => (intro w _; go_simp <;> rfl)
          (try simp only [PU])
          refine TK 34 (v := ?v22161) hHeld ?hy22161 ?_
          case hy22161 => (intro w hSw; (try dsimp only at hSw); go_simp <;> first | with_reducible rfl | rw [if_neg (by omega)] | rw [if_pos (by omega)])
          (try simp only [PU])
          refine wpAnyH_ready (rs := [35]) (by kernel_rfl) (by simp) ?_
          refine AllReadyH.cons (o := ⟨_, _, _, _, _, _⟩) rfl (fun K hK => ?step22162x0) ?more22162x0
          case more22162x0 => exact AllReadyH.nil
          go_simp
          (with_reducible refine (HI.out _ (by solve_by_elim [X0, X1, X2, X3])).mono ?_; rintro r v9 ⟨rfl, hy9⟩; replace hy9 : Ext wr v9 := Ext.trans (by solve_by_elim [X0, X1, X2, X3]) hy9)
          refine hK.out _ _ ?hS22162x0 (fun H22162 => ?_)
          case hS22162x0 => first | (exact MKY.out _ (by solve_by_elim [X0, X1, X2, X3])) | ((try dsimp only); (exact MKY.out _ (by solve_by_elim [X0, X1, X2, X3])))
          clear hK K
          clear hHeld
          (try simp only [PU])
          refine TK 36 (v := ?v22163) H22162 ?hy22163 ?_
          case hy22163 => (intro w _; go_simp <;> first | with_reducible rfl | rw [if_neg (by omega)] | rw [if_pos (by omega)])
          (try simp only [PU])
          refine TK 37 (v := ?v22164) H22162 ?hy22164 ?_
          case hy22164 => (intro w _; go_simp <;> rfl)
          (try simp only [PU])
          refine TK 38 (v := ?v22165) H22162 ?hy22165 ?_
          case hy22165 => (intro w _; go_simp <;> rfl)
          (try simp only [PU])
          refine TK 39 (v := ?v22166) H22162 ?hy22166 ?_
          case hy22166 => (intro w _; go_simp <;> rfl)
          (try simp only [PU])
          refine TK 40 (v := ?v22167) H22162 ?hy22167 ?_
          case hy22167 => (intro w _; go_simp <;> rfl)
          (try simp only [PU])
          refine TK 41 (v := ?v22168) H22162 ?hy22168 ?_
          case hy22168 => (intro w _; go_simp <;> first | with_reducible rfl | rw [if_neg (by omega)] | rw [if_pos (by omega)])
          (try simp only [PU])
          refine TK 42 (v := ?v22169) H22162 ?hy22169 ?_
          case hy22169 => (intro w _; go_simp <;> rfl)
          (try simp only [PU])
          refine TK 43 (v := ?v22170) H22162 ?hy22170 ?_
          case hy22170 => (intro w hSw; (try dsimp only at hSw); go_simp <;> first | with_reducible rfl | rw [if_neg (by omega)] | rw [if_pos (by omega)])
          (try simp only [PU])
          refine TK 44 (v := ?v22171) H22162 ?hy22171 ?_
          case hy22171 => (intro w _; go_simp <;> first | with_reducible rfl | rw [if_neg (by omega)] | rw [if_pos (by omega)])
          (try simp only [PU])
          refine TK 45 (v := ?v22172) H22162 ?hy22172 ?_
          case hy22172 => (intro w _; go_simp <;> rfl)
          (try simp only [PU])
          refine TK 46 (v := ?v22173) H22162 ?hy22173 ?_
          case hy22173 => (intro w hSw; (try dsimp only at hSw); go_simp <;> first | with_reducible rfl | rw [if_neg (by omega)] | rw [if_pos (by omega)])
          (try simp only [PU])
          refine TK 47 (v := ?v22174) H22162 ?hy22174 ?_
          case hy22174 => (intro w _; go_simp <;> rfl)
          (try simp only [PU])
          refine TK 48 (v := ?v22175) H22162 ?hy22175 ?_
          case hy22175 => (intro w hSw; (try dsimp only at hSw); go_simp <;> first | with_reducible rfl | rw [if_neg (by omega)] | rw [if_pos (by omega)])
          (try simp only [PU])
          refine TK 49 (v := ?v22176) H22162 ?hy22176 ?_
          case hy22176 => (intro w _; go_simp <;> first | with_reducible rfl | rw [if_neg (by omega)] | rw [if_pos (by omega)])
          (try simp only [PU])
          refine TK 50 (v := ?v22177) H22162 ?hy22177 ?_
          case hy22177 => (intro w _; go_simp <;> rfl)
          (try simp only [PU])
          refine TK 51 (v := ?v22178) H22162 ?hy22178 ?_
          case hy22178 => (intro w _; go_simp <;> rfl)
          (try simp only [PU])
          refine TK 52 (v := ?v22179) H22162 ?hy22179 ?_
          case hy22179 => (intro w _; go_simp <;> rfl)
          (try simp only [PU])
          refine TK 53 (v := ?v22180) H22162 ?hy22180 ?_
          case hy22180 => (intro w _; go_simp <;> first | with_reducible rfl | rw [if_neg (by omega)] | rw [if_pos (by omega)])
          (try simp only [PU])
          refine TK 54 (v := ?v22181) H22162 ?hy22181 ?_
          case hy22181 => (intro w _; go_simp <;> rfl)
          (try simp only [PU])
          refine TK 55 (v := ?v22182) H22162 ?hy22182 ?_
          case hy22182 => (intro w _; go_simp <;> rfl)
          (try simp only [PU])
          refine TK 56 (v := ?v22183) H22162 ?hy22183 ?_
          case hy22183 => (intro w _; go_simp <;> rfl)
          (try simp only [PU])
          refine TK 57 (v := ?v22184) H22162 ?hy22184 ?_
          case hy22184 => (intro w _; go_simp <;> first | with_reducible rfl | rw [if_neg (by omega)] | rw [if_pos (by omega)])
          (try simp only [PU])
          refine TK 58 (v := ?v22185) H22162 ?hy22185 ?_
          case hy22185 => (intro w _; go_simp <;> first | with_reducible rfl | rw [if_neg (by omega)] | rw [if_pos (by omega)])
          (try simp only [PU])
          refine TK 59 (v := ?v22186) H22162 ?hy22186 ?_
          case hy22186 => (intro w hSw; (try dsimp only at hSw); go_simp <;> first | with_reducible rfl | rw [if_neg (by omega)] | rw [if_pos (by omega)])
          (try simp only [PU])
          refine TK 60 (v := ?v22187) H22162 ?hy22187 ?_
          case hy22187 => (intro w _; go_simp <;> rfl)
          (try simp only [PU])
          refine TK 61 (v := ?v22188) H22162 ?hy22188 ?_
          case hy22188 => (intro w _; go_simp <;> rfl)
          (try simp only [PU])
          refine TK 62 (v := ?v22189) H22162 ?hy22189 ?_
          case hy22189 => (intro w _; go_simp <;> first | with_reducible rfl | rw [if_neg (by omega)] | rw [if_pos (by omega)])
          (try simp only [PU])
          refine TK 63 (v := ?v22190) H22162 ?hy22190 ?_
          case hy22190 => (intro w hSw; (try dsimp only at hSw); go_simp <;> first | with_reducible rfl | rw [if_neg (by omega)] | rw [if_pos (by omega)])
          (try simp only [PU])
          refine wpAnyH_ready (rs := [64]) (by kernel_rfl) (by simp) ?_
          refine AllReadyH.cons (o := ⟨_, _, _, _, _, _⟩) rfl (fun K hK => ?step22191x0) ?more22191x0
          case more22191x0 => exact AllReadyH.nil
          go_simp
          (with_reducible refine (HOY.out _ (by solve_by_elim [X0, X1, X2, X3])).mono ?_; rintro r v10 ⟨rfl, hy10⟩; replace hy10 : Ext wr v10 := Ext.trans (by solve_by_elim [X0, X1, X2, X3]) hy10)
          refine hK.out _ _ ?hS22191x0 (fun H22191 => ?_)
          case hS22191x0 => first | (exact MKY.out _ (by solve_by_elim [X0, X1, X2, X3])) | ((try dsimp only); (exact MKY.out _ (by solve_by_elim [X0, X1, X2, X3])))
          clear hK K
          clear H22162
          (try simp only [PU])
          refine TK 65 (v := ?v22192) H22191 ?hy22192 ?_
          case hy22192 => (intro w _; go_simp <;> first | with_reducible rfl | rw [if_neg (by omega)] | rw [if_pos (by omega)])
          (try simp only [PU])
          refine TK 66 (v := ?v22193) H22191 ?hy22193 ?_
          case hy22193 => (intro w _; go_simp <;> rfl)
          (try simp only [PU])
          refine TK 67 (v := ?v22194) H22191 ?hy22194 ?_
          case hy22194 => (intro w _; go_simp <;> rfl)
          (try simp only [PU])
          refine wpAnyH_done (by kernel_rfl) ?_ _
          clear H22191
          by_cases he : la = tn
          · have HT := Lib.hid (HY.out (by rw [HEA.out]; exact decide_eq_true he))
            have hbe : (la == tn) = true := beq_iff_eq.2 he
            clear HY HN HEA he
            obtain ⟨⟨a0, a1, a2, a3, a4, a5, a6, a7, a8, a9, a10⟩, ⟨x0, x1, x2, x3, x4, n0, nL⟩, y0, y1, y2, y3, y4⟩ := MKY.out v10 hy10
            go_upto_region 11 with (fail)
            refine wp_region_held_drew (S := (fun V => (V.cell? ⟨q, 0, none⟩ = some (.slice A g.nodes.length c) ∧ V.cell? ⟨q, 1, none⟩ = some (.slice B g.edges.length d) ∧ V.cell? ⟨q, 2, none⟩ = some (.int .i64 g.nn) ∧ V.cell? ⟨q, 3, none⟩ = some (.int .i64 g.ne) ∧ V.cell? ⟨q, 4, none⟩ = some (.int .i64 fr) ∧ V.cell? ⟨q, 5, none⟩ = some (.int .i64 tn) ∧ V.cell? ⟨q, 6, none⟩ = some (.int .i64 dir) ∧ V.cell? ⟨q, 7, none⟩ = some (.int .i64 mode) ∧ V.cell? ⟨q, 8, none⟩ = some (.int .i64 mn) ∧ V.cell? ⟨q, 9, none⟩ = some (.int .i64 mx) ∧ V.cell? ⟨q, 10, none⟩ = some (.slice T types.length e)) ∧ (V.cell? ⟨b, o + k * 5, none⟩ = some (.int .i64 xv.kind) ∧ V.cell? ⟨b, o + k * 5 + 1, none⟩ = some (.int .i64 xv.n) ∧ V.cell? ⟨b, o + k * 5 + 2, none⟩ = some (.int .i64 xv.d) ∧ V.cell? ⟨b, o + k * 5 + 3, none⟩ = some (.string xv.s) ∧ V.cell? ⟨b, o + k * 5 + 4, none⟩ = some (.slice (some ⟨b2, o2, none⟩) (m + 1) xc) ∧ V.cell? ⟨b2, o2 + 1, none⟩ = some (.int .i64 fr) ∧ V.cell? ⟨b2, o2 + m * 5 + 1, none⟩ = some (.int .i64 la)) ∧ (V.cell? ⟨b, o + j * 5, none⟩ = some (.int .i64 yv.kind) ∧ V.cell? ⟨b, o + j * 5 + 1, none⟩ = some (.int .i64 yv.n) ∧ V.cell? ⟨b, o + j * 5 + 2, none⟩ = some (.int .i64 yv.d) ∧ V.cell? ⟨b, o + j * 5 + 3, none⟩ = some (.string yv.s) ∧ V.cell? ⟨b, o + j * 5 + 4, none⟩ = some (.slice yA yv.l.length yc)))) (by kernel_rfl) ?hs22098 (fun hHeld => ?go22098)
            case hs22098 => (exact MKY.out _ (by solve_by_elim [X0, X1, X2, X3]))
            refine TK 0 (v := ?v22099) hHeld ?hy22099 ?_
            case hy22099 => (intro w _; go_simp <;> rfl)
            (try simp only [PU])
            refine TK 1 (v := ?v22100) hHeld ?hy22100 ?_
            case hy22100 => (intro w _; go_simp <;> rfl)
            (try simp only [PU])
            refine TK 2 (v := ?v22101) hHeld ?hy22101 ?_
            case hy22101 => (intro w _; go_simp <;> first | with_reducible rfl | rw [if_neg (by omega)] | rw [if_pos (by omega)])
            (try simp only [PU])
            refine TK 3 (v := ?v22102) hHeld ?hy22102 ?_
            case hy22102 => (intro w _; go_simp <;> rfl)
            (try simp only [PU])
            refine TK 4 (v := ?v22103) hHeld ?hy22103 ?_
            case hy22103 => (intro w hSw; (try dsimp only at hSw); go_simp <;> first | with_reducible rfl | rw [if_neg (by omega)] | rw [if_pos (by omega)])
            (try simp only [PU])
            refine TK 5 (v := ?v22104) hHeld ?hy22104 ?_
            case hy22104 => (intro w _; go_simp <;> rfl)
            (try simp only [PU])
            refine TK 6 (v := ?v22105) hHeld ?hy22105 ?_
            case hy22105 => (intro w _; go_simp <;> first | with_reducible rfl | rw [if_neg (by omega)] | rw [if_pos (by omega)])
            (try simp only [PU])
            refine TK 7 (v := ?v22106) hHeld ?hy22106 ?_
            case hy22106 => (intro w _; go_simp <;> first | with_reducible rfl | rw [if_neg (by omega)] | rw [if_pos (by omega)])
            (try simp only [PU])
            refine TK 8 (v := ?v22107) hHeld ?hy22107 ?_
            case hy22107 => (intro w _; go_simp <;> rfl)
            (try simp only [PU])
            refine TK 9 (v := ?v22108) hHeld ?hy22108 ?_
            case hy22108 => (intro w hSw; (try dsimp only at hSw); go_simp <;> first | with_reducible rfl | rw [if_neg (by omega)] | rw [if_pos (by omega)])
            (try simp only [PU])
            refine TK 10 (v := ?v22109) hHeld ?hy22109 ?_
            case hy22109 => (intro w _; go_simp <;> rfl)
            (try simp only [PU])
            refine TK 11 (v := ?v22110) hHeld ?hy22110 ?_
            case hy22110 => (intro w hSw; (try dsimp only at hSw); go_simp <;> first | with_reducible rfl | rw [if_neg (by omega)] | rw [if_pos (by omega)])
            (try simp only [PU])
            refine TK 12 (v := ?v22111) hHeld ?hy22111 ?_
            case hy22111 => (intro w _; go_simp <;> first | with_reducible rfl | rw [if_neg (by omega)] | rw [if_pos (by omega)])
            (try simp only [PU])
            refine wpAnyH_done (by kernel_rfl) ?_ _
            clear hHeld
            obtain ⟨⟨a0, a1, a2, a3, a4, a5, a6, a7, a8, a9, a10⟩, ⟨x0, x1, x2, x3, x4, n0, nL⟩, y0, y1, y2, y3, y4⟩ := MKY.out v10.drew (by solve_by_elim [X0, X1, X2, X3])
            go_wp2_with (at_builtin; go_loud (refine own_pushG (v := vO) (hs := hsO) T_hv rfl (.tmp 121) (.tmp 126) rfl v10.drew rfl (OwnG.ext HO.out (by solve_by_elim [X0, X1, X2, X3])) (Nat.le_trans hE.out.le (Ext.le (by solve_by_elim [X0, X1, X2, X3]))) ⟨some ⟨b2, o2, none⟩, xc, xv⟩ (HXL.out _ (by solve_by_elim [X0, X1, X2, X3])) (by show _ = v10.drew.alloc (.cells #[.int .i64 xv.kind, .int .i64 xv.n, .int .i64 xv.d, .string xv.s, .slice (some ⟨b2, o2, none⟩) xv.l.length xc] _); rw [HLM.out]; rfl) _ rfl rfl HOL.out (by decide) ?_); intro v6 w6 hO6 hg6 hd6)
            have hE6 : Ext w3 w6 := (hE.out.trans (show Ext wr v10.drew from (by solve_by_elim [X0, X1, X2, X3]))).grown hg6 (fun g2 h2 => HOB.out g2 h2)
            have HO6 := Lib.hid hO6
            clear hO6 hg6 hd6
            go_roundw
            case rel => exact ⟨_, k + 1, _, rfl, by go_num, by omega, Lib.hid hE6, HO6, HT⟩
            case measure => simp [intOf]; omega
          · have HT := Lib.hid (HN.out (by rw [HEA.out]; exact decide_eq_false he))
            have hbe : (la == tn) = false := beq_eq_false_iff_ne.2 he
            clear HY HN HEA he
            obtain ⟨⟨a0, a1, a2, a3, a4, a5, a6, a7, a8, a9, a10⟩, ⟨x0, x1, x2, x3, x4, n0, nL⟩, y0, y1, y2, y3, y4⟩ := MKY.out v10 hy10
            go_upto_region 11 with (fail)
            refine wp_region_held_drew (S := (fun V => (V.cell? ⟨q, 0, none⟩ = some (.slice A g.nodes.length c) ∧ V.cell? ⟨q, 1, none⟩ = some (.slice B g.edges.length d) ∧ V.cell? ⟨q, 2, none⟩ = some (.int .i64 g.nn) ∧ V.cell? ⟨q, 3, none⟩ = some (.int .i64 g.ne) ∧ V.cell? ⟨q, 4, none⟩ = some (.int .i64 fr) ∧ V.cell? ⟨q, 5, none⟩ = some (.int .i64 tn) ∧ V.cell? ⟨q, 6, none⟩ = some (.int .i64 dir) ∧ V.cell? ⟨q, 7, none⟩ = some (.int .i64 mode) ∧ V.cell? ⟨q, 8, none⟩ = some (.int .i64 mn) ∧ V.cell? ⟨q, 9, none⟩ = some (.int .i64 mx) ∧ V.cell? ⟨q, 10, none⟩ = some (.slice T types.length e)) ∧ (V.cell? ⟨b, o + k * 5, none⟩ = some (.int .i64 xv.kind) ∧ V.cell? ⟨b, o + k * 5 + 1, none⟩ = some (.int .i64 xv.n) ∧ V.cell? ⟨b, o + k * 5 + 2, none⟩ = some (.int .i64 xv.d) ∧ V.cell? ⟨b, o + k * 5 + 3, none⟩ = some (.string xv.s) ∧ V.cell? ⟨b, o + k * 5 + 4, none⟩ = some (.slice (some ⟨b2, o2, none⟩) (m + 1) xc) ∧ V.cell? ⟨b2, o2 + 1, none⟩ = some (.int .i64 fr) ∧ V.cell? ⟨b2, o2 + m * 5 + 1, none⟩ = some (.int .i64 la)) ∧ (V.cell? ⟨b, o + j * 5, none⟩ = some (.int .i64 yv.kind) ∧ V.cell? ⟨b, o + j * 5 + 1, none⟩ = some (.int .i64 yv.n) ∧ V.cell? ⟨b, o + j * 5 + 2, none⟩ = some (.int .i64 yv.d) ∧ V.cell? ⟨b, o + j * 5 + 3, none⟩ = some (.string yv.s) ∧ V.cell? ⟨b, o + j * 5 + 4, none⟩ = some (.slice yA yv.l.length yc)))) (by kernel_rfl) ?hs22112 (fun hHeld => ?go22112)
            case hs22112 => (exact MKY.out _ (by solve_by_elim [X0, X1, X2, X3]))
            refine TK 0 (v := ?v22113) hHeld ?hy22113 ?_
            case hy22113 => (intro w _; go_simp <;> rfl)
            (try simp only [PU])
            refine TK 1 (v := ?v22114) hHeld ?hy22114 ?_
            case hy22114 => (intro w _; go_simp <;> rfl)
            (try simp only [PU])
            refine TK 2 (v := ?v22115) hHeld ?hy22115 ?_
            case hy22115 => (intro w _; go_simp <;> first | with_reducible rfl | rw [if_neg (by omega)] | rw [if_pos (by omega)])
            (try simp only [PU])
            refine TK 3 (v := ?v22116) hHeld ?hy22116 ?_
            case hy22116 => (intro w _; go_simp <;> rfl)
            (try simp only [PU])
            refine TK 4 (v := ?v22117) hHeld ?hy22117 ?_
            case hy22117 => (intro w hSw; (try dsimp only at hSw); go_simp <;> first | with_reducible rfl | rw [if_neg (by omega)] | rw [if_pos (by omega)])
            (try simp only [PU])
            refine TK 5 (v := ?v22118) hHeld ?hy22118 ?_
            case hy22118 => (intro w _; go_simp <;> rfl)
            (try simp only [PU])
            refine TK 6 (v := ?v22119) hHeld ?hy22119 ?_
            case hy22119 => (intro w _; go_simp <;> first | with_reducible rfl | rw [if_neg (by omega)] | rw [if_pos (by omega)])
            (try simp only [PU])
            refine TK 7 (v := ?v22120) hHeld ?hy22120 ?_
            case hy22120 => (intro w _; go_simp <;> first | with_reducible rfl | rw [if_neg (by omega)] | rw [if_pos (by omega)])
            (try simp only [PU])
            refine TK 8 (v := ?v22121) hHeld ?hy22121 ?_
            case hy22121 => (intro w _; go_simp <;> rfl)
            (try simp only [PU])
            refine TK 9 (v := ?v22122) hHeld ?hy22122 ?_
            case hy22122 => (intro w hSw; (try dsimp only at hSw); go_simp <;> first | with_reducible rfl | rw [if_neg (by omega)] | rw [if_pos (by omega)])
            (try simp only [PU])
            refine TK 10 (v := ?v22123) hHeld ?hy22123 ?_
            case hy22123 => (intro w _; go_simp <;> rfl)
            (try simp only [PU])
            refine TK 11 (v := ?v22124) hHeld ?hy22124 ?_
            case hy22124 => (intro w hSw; (try dsimp only at hSw); go_simp <;> first | with_reducible rfl | rw [if_neg (by omega)] | rw [if_pos (by omega)])
            (try simp only [PU])
            refine TK 12 (v := ?v22125) hHeld ?hy22125 ?_
            case hy22125 => (intro w _; go_simp <;> first | with_reducible rfl | rw [if_neg (by omega)] | rw [if_pos (by omega)])
            (try simp only [PU])
            refine wpAnyH_done (by kernel_rfl) ?_ _
            clear hHeld
            go_wp2_with fail
            go_roundw
            case rel => exact ⟨_, k + 1, hsO, rfl, by go_num, by omega, Lib.hid (hE.out.trans (by solve_by_elim [X0, X1, X2, X3])), Lib.hid (OwnG.ext HO.out (by solve_by_elim [X0, X1, X2, X3])), HT⟩
            case measure => simp [intOf]; omega
      · have hke : k = RR.length := by omega
        have hmm := HM.out
        rw [hke, List.take_length] at hmm
        obtain ⟨A9, c9, e9, h9, hV9⟩ := OwnV.vals HO.out (by have := congrArg List.length hmm; rw [List.length_map] at this; have h2 := List.length_filter_le (endsP tn) RR; omega)
        rw [hmm] at hV9
        have hlf : hsO.length = (RR.filter (endsP tn)).length := by rw [← hmm, List.length_map]
        subst e9
        rw [hlf] at h9 ⊢
        have HV9 := Lib.hid hV9
        obtain ⟨a0, a1, a2, a3, a4, a5, a6, a7, a8, a9, a10⟩ := MKA.out wr (HX3.out.trans hE.out)
        clear HO HM hmm hV9 hlf hke HMO HRS HIS HOR
        go_wp2_with (first | (go_at_call 13; ((with_reducible refine (HPB.out _ (HX3.out.trans hE.out)).mono ?_); rintro r w7 ⟨A7, c7, rfl, hc7, hV7, hx7⟩)) | (go_at_call 10; ((with_reducible refine (HS2.out _ _ _ _ _ _ _ hV7 (HV9.out.ext hx7)).mono ?_); rintro r w8 ⟨rfl, hx8⟩)) | (go_at_call 9; ((with_reducible refine (HLV.out _ (HX3.out.trans (hE.out.trans (hx7.trans hx8)))).mono ?_); rintro r w9 ⟨rfl, hx9⟩)))
        go_ret
        exact ⟨rfl, HX.out.trans ((HX3.out.trans hE.out).trans (hx7.trans (hx8.trans hx9)))⟩
end Go.Proofs.YtigmdddeplnciaaGreatDoor
