/- PARTS OF THE WALKS, joined: PtV, PtY. -/
import Derived.Test.YtigmdddeplnciaaGreatDoorV00
import Derived.Test.YtigmdddeplnciaaGreatDoorV01
import Derived.Test.YtigmdddeplnciaaGreatDoorV02
import Derived.Test.YtigmdddeplnciaaGreatDoorV03
import Derived.Test.YtigmdddeplnciaaGreatDoorV04
import Derived.Test.YtigmdddeplnciaaGreatDoorV05
import Derived.Test.YtigmdddeplnciaaGreatDoorV06
import Derived.Test.YtigmdddeplnciaaGreatDoorV07
import Derived.Test.YtigmdddeplnciaaGreatDoorV08
import Derived.Test.YtigmdddeplnciaaGreatDoorV09
import Derived.Test.YtigmdddeplnciaaGreatDoorV10
import Derived.Test.YtigmdddeplnciaaGreatDoorV11
import Derived.Test.YtigmdddeplnciaaGreatDoorV12
import Derived.Test.YtigmdddeplnciaaGreatDoorV13
import Derived.Test.YtigmdddeplnciaaGreatDoorV14
import Derived.Test.YtigmdddeplnciaaGreatDoorV15
import Derived.Test.YtigmdddeplnciaaGreatDoorV16
import Derived.Test.YtigmdddeplnciaaGreatDoorV17
import Derived.Test.YtigmdddeplnciaaGreatDoorV18
import Derived.Test.YtigmdddeplnciaaGreatDoorV19
import Derived.Test.YtigmdddeplnciaaGreatDoorV20
import Derived.Deep.RegionHeld3
import Derived.Deep.CutBlock
import Derived.Deep.DeepCutAuto
import Derived.Lib.BitFns
import Derived.Test.YtigmdddeplnciaaGreatDoorShelf
import Derived.Shelf.Spec.BitsCarry
import Derived.Deep.Cut
import Derived.Lib.ItoaNum
import Derived.Lib.AtoiAll
import Derived.Deep.QuietTactic
import Derived.BigQuiet
import Derived.Test.YtigmdddeplnciaaGreatDoorProg
import Derived.WalkKit
import Derived.WalkSpells
import Derived.WalkLawsBesides
import Derived.Lib.Hide
import Derived.Sort.Walk0
import Derived.Lib.Small
import Derived.Laws.CopyRow
import Derived.Lib.AppendZerosOnto
import Derived.Lib.SlFresh
import Derived.Laws.AppendOwn
import Derived.Laws.OwnMore
import Derived.OwnWalk
import Derived.Deep.AppendLies
import Derived.Deep.MidRow
import Derived.Below
import Derived.Laws.Rows
import Derived.Deep.Draws
import Derived.OrdersHeld
import Derived.Maps.AppendAt
import Derived.Test.YtigmdddeplnciaaGreatDoorShelfG
import Derived.Shelf.SlSortCmp.NoneTotal
import Derived.Shelf.SlSortCmp.WholeK
import Derived.Calls
import Derived.Laws.BitsAllLaws
import Derived.Deep.RegionHeld
import Derived.Deep.CutRange
import Derived.Maps.OwnSet
import Derived.Maps.OwnOps
import Derived.BigRegion
import Derived.Sort.LotA
/- THE LAW PathsFrom. -/
namespace Go.Proofs.YtigmdddeplnciaaGreatDoor
open Go.RowKit
theorem few_cnt {g : GraphG} {mx : Int} (h : fewB g mx = true) : 0 ≤ mx → mx ≤ 6 → (g.edges.length + 1) ^ mx.toNat ≤ 4000 := by
  intro h0 h6
  have h1 := (few_iff.1 h).2.2
  rwa [show min mx 6 = mx by omega] at h1
theorem box_ask (w : World) (g : GraphG) (types : List ByteArray) (fr tn dir mode mn mx : Int) (A B T : Option Addr) (c d e : Nat) : ∃ (q : Nat) (w1 : World), q = w.heap.size ∧ w1 = w.alloc (.cells #[.slice A g.nodes.length c, .slice B g.edges.length d, .int .i64 g.nn, .int .i64 g.ne, .int .i64 fr, .int .i64 tn, .int .i64 dir, .int .i64 mode, .int .i64 mn, .int .i64 mx, .slice T types.length e] 28) ∧ (w1.cell? ⟨q, 0, none⟩ = some (.slice A g.nodes.length c) ∧ w1.cell? ⟨q, 1, none⟩ = some (.slice B g.edges.length d) ∧ w1.cell? ⟨q, 2, none⟩ = some (.int .i64 g.nn) ∧ w1.cell? ⟨q, 3, none⟩ = some (.int .i64 g.ne) ∧ w1.cell? ⟨q, 4, none⟩ = some (.int .i64 fr) ∧ w1.cell? ⟨q, 5, none⟩ = some (.int .i64 tn) ∧ w1.cell? ⟨q, 6, none⟩ = some (.int .i64 dir) ∧ w1.cell? ⟨q, 7, none⟩ = some (.int .i64 mode) ∧ w1.cell? ⟨q, 8, none⟩ = some (.int .i64 mn) ∧ w1.cell? ⟨q, 9, none⟩ = some (.int .i64 mx) ∧ w1.cell? ⟨q, 10, none⟩ = some (.slice T types.length e)) ∧ Ext w w1 :=
  ⟨_, _, rfl, rfl, ⟨by go_simp, by go_simp, by go_simp, by go_simp, by go_simp, by go_simp, by go_simp, by go_simp, by go_simp, by go_simp, by go_simp⟩, (Ext.refl _).alloc _⟩
end Go.Proofs.YtigmdddeplnciaaGreatDoor

/- THE LAW PathsModes. -/
namespace Go.Proofs.YtigmdddeplnciaaGreatDoor
open Go.RowKit
/-- what is told of each result -/
theorem modes_of {g : GraphG} {s : Int} {types : List ByteArray} {dir mode mn mx : Int} {v : Val} (hv : v ∈ fromP g s types dir mode mn mx) : isP g types dir 1 v = true ∧ (mode = 3 → dir ≠ 3 → isP g types dir 2 v = true) ∧ (2 < v.l.length → isP g types dir mode (pathV (v.l.take (v.l.length - 2))) = true) ∧ v.l.length ≤ 25 := by
  obtain ⟨hok, h, rfl, ho, h1, h2⟩ := mem_from hv
  have h6 := hok.2.2.2.2.2.2
  have h12 : h.length ≤ 12 := by omega
  refine ⟨is_on hok.1 hok.2.1 ho h12 (allow_walk s h), fun hm hd => ?_, fun hl => ?_, ?_⟩
  · subst hm
    exact is_on hok.1 hok.2.1 ho h12 (simple_trail (good_of hok.1) ho hd)
  · have h0 : h ≠ [] := by
      rintro rfl
      have : (pathV (elsP s [])).l.length = 1 := rfl
      omega
    obtain ⟨k1, k2⟩ := on_short ho h0
    have k3 := is_on hok.1 hok.2.1 k1 (by rw [List.length_dropLast]; omega) k1.allow
    rw [k2] at k3
    exact k3
  · show (elsP s h).length ≤ 25
    rw [elsP_len]; omega
set_option maxRecDepth 100000 in
set_option maxHeartbeats 6400000 in
theorem l_PathsModes (g : GraphG) (types : List ByteArray) (fr tn dir mode mn mx : Int) (ok ok' : Nat → Prop) (A B T : Option Addr) (c d e : Nat) (w : World) (hz : ZeroAt w) (hg : GraphAt w ok A B g) (hcap : ∀ x ∈ g.nodes, capN x) (ht : Strs w ok' T types) :
    Calls Tryz.prog 7 #[.agg #[.slice A g.nodes.length c, .slice B g.edges.length d, .int .i64 g.nn, .int .i64 g.ne, .int .i64 fr, .int .i64 tn, .int .i64 dir, .int .i64 mode, .int .i64 mn, .int .i64 mx, .slice T types.length e]] w fun r w' => r = .returned (.bool true) ∧ Ext w w' := by
  obtain ⟨q, w1, hq, hw1, hac, hx⟩ := box_ask w g types fr tn dir mode mn mx A B T c d e
  have HW1 := Lib.hid hw1
  have HQ := Lib.hid hq
  have HX := Lib.hid hx
  have HFW := Lib.hid (fun W (_ : Ext w1 W) => r24_Few g mx A B c d W hg.nodes.len hg.edges.len)
  have HLV := Lib.hid (fun W (e' : Ext w1 W) => l_lives W (hz.ext (hx.trans e')))
  have HPF := Lib.hid (fun (hf : fewB g mx = true) W (e' : Ext w1 W) => p_From g types fr dir mode mn mx ok ok' A B T c d e W (hz.ext (hx.trans e')) (hg.ext (hx.trans e')) hcap (ht.ext (hx.trans e')) (few_cnt hf))
  have HIS := Lib.hid (fun p m (okx : Nat → Prop) Qx qx W (e' : Ext w1 W) (hv : Vals W okx Qx p.l) => p_Is g p types dir m ok ok' okx A B T Qx c d e qx W (hg.ext (hx.trans e')) hcap (ht.ext (hx.trans e')) hv)
  have HMO := Lib.hid (fun v (hv : v ∈ fromP g fr types dir mode mn mx) => modes_of hv)
  have MKA := Lib.hid (fun V (e' : Ext w1 V) => (⟨e'.cell hac.1, e'.cell hac.2.1, e'.cell hac.2.2.1, e'.cell hac.2.2.2.1, e'.cell hac.2.2.2.2.1, e'.cell hac.2.2.2.2.2.1, e'.cell hac.2.2.2.2.2.2.1, e'.cell hac.2.2.2.2.2.2.2.1, e'.cell hac.2.2.2.2.2.2.2.2.1, e'.cell hac.2.2.2.2.2.2.2.2.2.1, e'.cell hac.2.2.2.2.2.2.2.2.2.2⟩ : (V.cell? ⟨q, 0, none⟩ = some (.slice A g.nodes.length c) ∧ V.cell? ⟨q, 1, none⟩ = some (.slice B g.edges.length d) ∧ V.cell? ⟨q, 2, none⟩ = some (.int .i64 g.nn) ∧ V.cell? ⟨q, 3, none⟩ = some (.int .i64 g.ne) ∧ V.cell? ⟨q, 4, none⟩ = some (.int .i64 fr) ∧ V.cell? ⟨q, 5, none⟩ = some (.int .i64 tn) ∧ V.cell? ⟨q, 6, none⟩ = some (.int .i64 dir) ∧ V.cell? ⟨q, 7, none⟩ = some (.int .i64 mode) ∧ V.cell? ⟨q, 8, none⟩ = some (.int .i64 mn) ∧ V.cell? ⟨q, 9, none⟩ = some (.int .i64 mx) ∧ V.cell? ⟨q, 10, none⟩ = some (.slice T types.length e))))
  have HLN := Lib.hid (fun (hf : fewB g mx = true) => from_len (g := g) (types := types) (dir := dir) (mode := mode) (s := fr) (mn := mn) (mx := mx) (few_cnt hf))
  obtain ⟨a0, a1, a2, a3, a4, a5, a6, a7, a8, a9, a10⟩ := hac
  clear hw1 hq hz hg hcap ht hx
  go_enter Tryz.func7, Tryz.ntmps7
  go_upto_region 1 with (fail)
  rw [← HW1.out, ← HQ.out]
  clear HW1 HQ
  cases hf : fewB g mx
  · rw [hf] at HFW
    clear hf HPF
    go_wp2_with (first | (go_at_call 8; ((with_reducible refine (HFW.out _ (Ext.refl _)).mono ?_); rintro r w2 ⟨rfl, hx2⟩)) | (go_at_call 9; ((with_reducible refine (HLV.out _ hx2).mono ?_); rintro r w3 ⟨rfl, hx3⟩)))
    go_ret
    exact ⟨rfl, HX.out.trans (hx2.trans hx3)⟩
  · rw [hf] at HFW
    replace HPF := Lib.hid (HPF.out hf)
    have hln := HLN.out hf
    clear hf HLN
    generalize fromP g fr types dir mode mn mx = RR at *
    go_upto_region 4 with (first | (go_at_call 8; ((with_reducible refine (HFW.out _ (Ext.refl _)).mono ?_); rintro r w2 ⟨rfl, hx2⟩; obtain ⟨a0, a1, a2, a3, a4, a5, a6, a7, a8, a9, a10⟩ := MKA.out _ hx2)) | (go_at_call 11; ((with_reducible refine (HPF.out _ hx2).mono ?_); rintro r w3 ⟨A3, c3, rfl, hc3, hV3, hx3⟩)))
    have HV3 := Lib.hid hV3
    have HX3 := Lib.hid (hx2.trans hx3)
    clear hV3 hx2 hx3 a0 a1 a2 a3 a4 a5 a6 a7 a8 a9 a10 HFW HPF
    go_wp2_with fail
    go_loopw [4] (fun u W => ∃ k : Nat, u = .int .i64 k ∧ k ≤ RR.length ∧ Hid (Ext w3 W)) (fun u _ => RR.length - (intOf u).toNat)
    case atStart => exact ⟨0, rfl, Nat.zero_le _, Lib.hid (Ext.refl _)⟩
    case round =>
      obtain ⟨k, rfl, hk, hE⟩ := hrel
      by_cases hlt : k < RR.length
      · obtain ⟨b, o, rfl, -⟩ := HV3.out.atB (i := k) hlt
        obtain ⟨⟨xA, xc, xv⟩, hxv, hxl, x0, x1, x2, x3, x4⟩ := Vals.head HV3.out (i := k) hlt
        replace hxv : xv = RR[k]! := hxv
        obtain ⟨m1, m2, m3, m25⟩ := HMO.out xv (by rw [hxv, getElem!_pos RR k hlt]; exact List.getElem_mem hlt)
        have hcp : xv.l.length ≤ xc := hxl.1
        have HI1 := Lib.hid (fun W (e' : Ext wr W) => (by have h := HIS.out xv 1 _ xA xc W (HX3.out.trans (hE.out.trans e')) (hxl.2.ext (hE.out.trans e')); rw [m1] at h; exact h : Calls Tryz.prog 15 #[.agg #[.slice A g.nodes.length c, .slice B g.edges.length d, .int .i64 g.nn, .int .i64 g.ne], .agg #[.int .i64 xv.kind, .int .i64 xv.n, .int .i64 xv.d, .string xv.s, .slice xA xv.l.length xc], .slice T types.length e, .int .i64 dir, .int .i64 1] W fun r w' => r = .returned (.bool true) ∧ Ext W w'))
        have HI2 := Lib.hid (fun (h3 : mode = 3) (hd : dir ≠ 3) W (e' : Ext wr W) => (by have h := HIS.out xv 2 _ xA xc W (HX3.out.trans (hE.out.trans e')) (hxl.2.ext (hE.out.trans e')); rw [m2 h3 hd] at h; exact h : Calls Tryz.prog 15 #[.agg #[.slice A g.nodes.length c, .slice B g.edges.length d, .int .i64 g.nn, .int .i64 g.ne], .agg #[.int .i64 xv.kind, .int .i64 xv.n, .int .i64 xv.d, .string xv.s, .slice xA xv.l.length xc], .slice T types.length e, .int .i64 dir, .int .i64 2] W fun r w' => r = .returned (.bool true) ∧ Ext W w'))
        have HI3 := Lib.hid (fun (h2 : 2 < xv.l.length) n2 (hn2 : n2 = xv.l.length - 2) W (e' : Ext wr W) => (by
          have h := HIS.out (pathV (xv.l.take (xv.l.length - 2))) mode _ xA xc W (HX3.out.trans (hE.out.trans e')) ((hxl.2.ext (hE.out.trans e')).takeN _)
          rw [m3 h2] at h
          rw [hn2]
          have hl : (xv.l.take (xv.l.length - 2)).length = xv.l.length - 2 := by rw [List.length_take]; omega
          unfold agV at h
          rw [show (pathV (xv.l.take (xv.l.length - 2))).l.length = xv.l.length - 2 from hl] at h
          exact h : Calls Tryz.prog 15 #[.agg #[.slice A g.nodes.length c, .slice B g.edges.length d, .int .i64 g.nn, .int .i64 g.ne], .agg #[.int .i64 7, .int .i64 0, .int .i64 0, .string ⟨#[]⟩, .slice xA n2 xc], .slice T types.length e, .int .i64 dir, .int .i64 mode] W fun r w' => r = .returned (.bool true) ∧ Ext W w'))
        have MK := Lib.hid (fun V (e' : Ext wr V) => (⟨MKA.out V (HX3.out.trans (hE.out.trans e')), (hE.out.trans e').cell x0, (hE.out.trans e').cell x1, (hE.out.trans e').cell x2, (hE.out.trans e').cell x3, (hE.out.trans e').cell x4⟩ : (V.cell? ⟨q, 0, none⟩ = some (.slice A g.nodes.length c) ∧ V.cell? ⟨q, 1, none⟩ = some (.slice B g.edges.length d) ∧ V.cell? ⟨q, 2, none⟩ = some (.int .i64 g.nn) ∧ V.cell? ⟨q, 3, none⟩ = some (.int .i64 g.ne) ∧ V.cell? ⟨q, 4, none⟩ = some (.int .i64 fr) ∧ V.cell? ⟨q, 5, none⟩ = some (.int .i64 tn) ∧ V.cell? ⟨q, 6, none⟩ = some (.int .i64 dir) ∧ V.cell? ⟨q, 7, none⟩ = some (.int .i64 mode) ∧ V.cell? ⟨q, 8, none⟩ = some (.int .i64 mn) ∧ V.cell? ⟨q, 9, none⟩ = some (.int .i64 mx) ∧ V.cell? ⟨q, 10, none⟩ = some (.slice T types.length e)) ∧ (V.cell? ⟨b, o + k * 5, none⟩ = some (.int .i64 xv.kind) ∧ V.cell? ⟨b, o + k * 5 + 1, none⟩ = some (.int .i64 xv.n) ∧ V.cell? ⟨b, o + k * 5 + 2, none⟩ = some (.int .i64 xv.d) ∧ V.cell? ⟨b, o + k * 5 + 3, none⟩ = some (.string xv.s) ∧ V.cell? ⟨b, o + k * 5 + 4, none⟩ = some (.slice xA xv.l.length xc))))
        clear hxv hxl m1 m2 m3 x0 x1 x2 x3 x4 HMO
        go_upto_region 7 with (fail)
        refine wp_region_held_drew (S := (fun V => (V.cell? ⟨q, 0, none⟩ = some (.slice A g.nodes.length c) ∧ V.cell? ⟨q, 1, none⟩ = some (.slice B g.edges.length d) ∧ V.cell? ⟨q, 2, none⟩ = some (.int .i64 g.nn) ∧ V.cell? ⟨q, 3, none⟩ = some (.int .i64 g.ne) ∧ V.cell? ⟨q, 4, none⟩ = some (.int .i64 fr) ∧ V.cell? ⟨q, 5, none⟩ = some (.int .i64 tn) ∧ V.cell? ⟨q, 6, none⟩ = some (.int .i64 dir) ∧ V.cell? ⟨q, 7, none⟩ = some (.int .i64 mode) ∧ V.cell? ⟨q, 8, none⟩ = some (.int .i64 mn) ∧ V.cell? ⟨q, 9, none⟩ = some (.int .i64 mx) ∧ V.cell? ⟨q, 10, none⟩ = some (.slice T types.length e)) ∧ (V.cell? ⟨b, o + k * 5, none⟩ = some (.int .i64 xv.kind) ∧ V.cell? ⟨b, o + k * 5 + 1, none⟩ = some (.int .i64 xv.n) ∧ V.cell? ⟨b, o + k * 5 + 2, none⟩ = some (.int .i64 xv.d) ∧ V.cell? ⟨b, o + k * 5 + 3, none⟩ = some (.string xv.s) ∧ V.cell? ⟨b, o + k * 5 + 4, none⟩ = some (.slice xA xv.l.length xc)))) (by kernel_rfl) ?hs20070 (fun hHeld => ?go20070)
        case hs20070 => (exact MK.out _ (by solve_by_elim [X0, X1, X2, X3]))
        refine TK 0 (v := ?v20071) hHeld ?hy20071 ?_
        case hy20071 => (intro w _; go_simp <;> rfl)
        (try simp only [PU])
        refine TK 1 (v := ?v20072) hHeld ?hy20072 ?_
        case hy20072 => (intro w hSw; (try dsimp only at hSw); go_simp <;> first | with_reducible rfl | rw [if_neg (by omega)] | rw [if_pos (by omega)])
        (try simp only [PU])
        refine TK 2 (v := ?v20073) hHeld ?hy20073 ?_
        case hy20073 => (intro w _; go_simp <;> rfl)
        (try simp only [PU])
        refine TK 3 (v := ?v20074) hHeld ?hy20074 ?_
        case hy20074 => (intro w _; go_simp <;> rfl)
        (try simp only [PU])
        refine TK 4 (v := ?v20075) hHeld ?hy20075 ?_
        case hy20075 => (intro w _; go_simp <;> first | with_reducible rfl | rw [if_neg (by omega)] | rw [if_pos (by omega)])
        (try simp only [PU])
        refine TK 5 (v := ?v20076) hHeld ?hy20076 ?_
        case hy20076 => (intro w hSw; (try dsimp only at hSw); go_simp <;> first | with_reducible rfl | rw [if_neg (by omega)] | rw [if_pos (by omega)])
        (try simp only [PU])
        refine TK 6 (v := ?v20077) hHeld ?hy20077 ?_
        case hy20077 => (intro w _; go_simp <;> rfl)
        (try simp only [PU])
        refine TK 7 (v := ?v20078) hHeld ?hy20078 ?_
        case hy20078 => (intro w hSw; (try dsimp only at hSw); go_simp <;> first | with_reducible rfl | rw [if_neg (by omega)] | rw [if_pos (by omega)])
        (try simp only [PU])
        refine TK 8 (v := ?v20079) hHeld ?hy20079 ?_
        case hy20079 => (intro w _; go_simp <;> rfl)
        (try simp only [PU])
        refine TK 9 (v := ?v20080) hHeld ?hy20080 ?_
        case hy20080 => (intro w hSw; (try dsimp only at hSw); go_simp <;> first | with_reducible rfl | rw [if_neg (by omega)] | rw [if_pos (by omega)])
        (try simp only [PU])
        refine wpAnyH_ready (rs := [10]) (by kernel_rfl) (by simp) ?_
        refine AllReadyH.cons (o := ⟨_, _, _, _, _, _⟩) rfl (fun K hK => ?step20081x0) ?more20081x0
        case more20081x0 => exact AllReadyH.nil
        go_simp
        (with_reducible refine (HI1.out _ (by solve_by_elim [X0, X1, X2, X3])).mono ?_; rintro r v7 ⟨rfl, hy7⟩; replace hy7 : Ext wr v7 := Ext.trans (by solve_by_elim [X0, X1, X2, X3]) hy7)
        refine hK.out _ _ ?hS20081x0 (fun H20081 => ?_)
        case hS20081x0 => first | (exact MK.out _ (by solve_by_elim [X0, X1, X2, X3])) | ((try dsimp only); (exact MK.out _ (by solve_by_elim [X0, X1, X2, X3])))
        clear hK K
        clear hHeld
        (try simp only [PU])
        refine TK 11 (v := ?v20082) H20081 ?hy20082 ?_
        case hy20082 => (intro w _; go_simp <;> first | with_reducible rfl | rw [if_neg (by omega)] | rw [if_pos (by omega)])
        (try simp only [PU])
        refine wpAnyH_done (by kernel_rfl) ?_ _
        clear H20081
        go_upto_region 9 with (fail)
        by_cases hm3 : mode = 3
        · have hb3 : (mode == 3) = true := beq_iff_eq.2 hm3
          by_cases hd3 : dir = 3
          · have hbd : (dir != 3) = false := by rw [hd3]; rfl
            clear hm3 hd3 HI2
            refine wp_region_held_drew (S := (fun V => (V.cell? ⟨q, 0, none⟩ = some (.slice A g.nodes.length c) ∧ V.cell? ⟨q, 1, none⟩ = some (.slice B g.edges.length d) ∧ V.cell? ⟨q, 2, none⟩ = some (.int .i64 g.nn) ∧ V.cell? ⟨q, 3, none⟩ = some (.int .i64 g.ne) ∧ V.cell? ⟨q, 4, none⟩ = some (.int .i64 fr) ∧ V.cell? ⟨q, 5, none⟩ = some (.int .i64 tn) ∧ V.cell? ⟨q, 6, none⟩ = some (.int .i64 dir) ∧ V.cell? ⟨q, 7, none⟩ = some (.int .i64 mode) ∧ V.cell? ⟨q, 8, none⟩ = some (.int .i64 mn) ∧ V.cell? ⟨q, 9, none⟩ = some (.int .i64 mx) ∧ V.cell? ⟨q, 10, none⟩ = some (.slice T types.length e)) ∧ (V.cell? ⟨b, o + k * 5, none⟩ = some (.int .i64 xv.kind) ∧ V.cell? ⟨b, o + k * 5 + 1, none⟩ = some (.int .i64 xv.n) ∧ V.cell? ⟨b, o + k * 5 + 2, none⟩ = some (.int .i64 xv.d) ∧ V.cell? ⟨b, o + k * 5 + 3, none⟩ = some (.string xv.s) ∧ V.cell? ⟨b, o + k * 5 + 4, none⟩ = some (.slice xA xv.l.length xc)))) (by kernel_rfl) ?hs20001 (fun hHeld => ?go20001)
            case hs20001 => (exact MK.out _ (by solve_by_elim [X0, X1, X2, X3]))
            refine TK 0 (v := ?v20002) hHeld ?hy20002 ?_
            case hy20002 => (intro w _; go_simp <;> rfl)
            (try simp only [PU])
            refine TK 1 (v := ?v20003) hHeld ?hy20003 ?_
            case hy20003 => (intro w hSw; (try dsimp only at hSw); go_simp <;> first | with_reducible rfl | rw [if_neg (by omega)] | rw [if_pos (by omega)])
            (try simp only [PU])
            refine TK 2 (v := ?v20004) hHeld ?hy20004 ?_
            case hy20004 => (intro w _; go_simp <;> first | with_reducible rfl | rw [if_neg (by omega)] | rw [if_pos (by omega)])
            (try simp only [PU])
            refine TK 3 (v := ?v20005) hHeld ?hy20005 ?_
            case hy20005 => (intro w _; go_simp <;> rfl)
            (try simp only [PU])
            refine TK 4 (v := ?v20006) hHeld ?hy20006 ?_
            case hy20006 => (intro w _; go_simp <;> rfl)
            (try simp only [PU])
            refine TK 5 (v := ?v20007) hHeld ?hy20007 ?_
            case hy20007 => (intro w hSw; (try dsimp only at hSw); go_simp <;> first | with_reducible rfl | rw [if_neg (by omega)] | rw [if_pos (by omega)])
            (try simp only [PU])
            refine TK 6 (v := ?v20008) hHeld ?hy20008 ?_
            case hy20008 => (intro w _; go_simp <;> first | with_reducible rfl | rw [if_neg (by omega)] | rw [if_pos (by omega)])
            (try simp only [PU])
            refine TK 7 (v := ?v20009) hHeld ?hy20009 ?_
            case hy20009 => (intro w _; go_simp <;> rfl)
            (try simp only [PU])
            refine TK 8 (v := ?v20010) hHeld ?hy20010 ?_
            case hy20010 => (intro w _; go_simp <;> rfl)
            (try simp only [PU])
            refine TN 9 hHeld ?_
            (try simp only [PU])
            refine TN 10 hHeld ?_
            (try simp only [PU])
            refine TN 11 hHeld ?_
            (try simp only [PU])
            refine TN 12 hHeld ?_
            (try simp only [PU])
            refine TN 13 hHeld ?_
            (try simp only [PU])
            refine TN 14 hHeld ?_
            (try simp only [PU])
            refine TN 15 hHeld ?_
            (try simp only [PU])
            refine TN 16 hHeld ?_
            (try simp only [PU])
            refine TN 17 hHeld ?_
            (try simp only [PU])
            refine TN 18 hHeld ?_
            (try simp only [PU])
            refine TN 19 hHeld ?_
            (try simp only [PU])
            refine TN 20 hHeld ?_
            (try simp only [PU])
            refine TK 21 (v := ?v20023) hHeld ?hy20023 ?_
            case hy20023 => (intro w _; go_simp <;> rfl)
            (try simp only [PU])
            refine wpAnyH_done (by kernel_rfl) ?_ _
            clear hHeld
            obtain ⟨⟨a0, a1, a2, a3, a4, a5, a6, a7, a8, a9, a10⟩, x0, x1, x2, x3, x4⟩ := MK.out v7 hy7
            by_cases hn2 : 2 < xv.l.length
            · obtain ⟨n2, hn2'⟩ : ∃ n2, n2 = xv.l.length - 2 := ⟨_, rfl⟩
              have HI3' := Lib.hid (HI3.out hn2 n2 hn2')
              have wm2 : IntKind.i64.wrap ((xv.l.length : Int) - 2) = (n2 : Int) := by rw [IntKind.wrap_i64]; omega
              have hle2 : n2 ≤ xc := by omega
              clear hn2' HI3
              go_upto_region 14 with (fail)
              obtain ⟨⟨a0, a1, a2, a3, a4, a5, a6, a7, a8, a9, a10⟩, x0, x1, x2, x3, x4⟩ := MK.out ((v7.alloc (.cells #[.int .i64 7, .int .i64 0, .int .i64 0, .string ⟨#[]⟩, .slice xA n2 xc] 37)).drew) (by solve_by_elim [X0, X1, X2, X3])
              go_wp2_with (go_at_call 15; ((with_reducible refine (HI3'.out _ (by solve_by_elim [X0, X1, X2, X3])).mono ?_); rintro r v99 ⟨rfl, hy99⟩))
              go_roundw
              case rel => exact ⟨k + 1, by go_num, by omega, Lib.hid (hE.out.trans (Ext.trans (show Ext wr ((v7.alloc (.cells #[.int .i64 7, .int .i64 0, .int .i64 0, .string ⟨#[]⟩, .slice xA n2 xc] 37)).drew) from (by solve_by_elim [X0, X1, X2, X3])) hy99))⟩
              case measure => simp [intOf]; omega
            · go_wp2_with fail
              go_roundw
              case rel => exact ⟨k + 1, by go_num, by omega, Lib.hid (hE.out.trans (by solve_by_elim [X0, X1, X2, X3]))⟩
              case measure => simp [intOf]; omega
          · have hbd : (dir != 3) = true := bne_iff_ne.2 hd3
            have HI2' := Lib.hid (HI2.out hm3 hd3)
            clear hm3 hd3 HI2
            refine wp_region_held_drew (S := (fun V => (V.cell? ⟨q, 0, none⟩ = some (.slice A g.nodes.length c) ∧ V.cell? ⟨q, 1, none⟩ = some (.slice B g.edges.length d) ∧ V.cell? ⟨q, 2, none⟩ = some (.int .i64 g.nn) ∧ V.cell? ⟨q, 3, none⟩ = some (.int .i64 g.ne) ∧ V.cell? ⟨q, 4, none⟩ = some (.int .i64 fr) ∧ V.cell? ⟨q, 5, none⟩ = some (.int .i64 tn) ∧ V.cell? ⟨q, 6, none⟩ = some (.int .i64 dir) ∧ V.cell? ⟨q, 7, none⟩ = some (.int .i64 mode) ∧ V.cell? ⟨q, 8, none⟩ = some (.int .i64 mn) ∧ V.cell? ⟨q, 9, none⟩ = some (.int .i64 mx) ∧ V.cell? ⟨q, 10, none⟩ = some (.slice T types.length e)) ∧ (V.cell? ⟨b, o + k * 5, none⟩ = some (.int .i64 xv.kind) ∧ V.cell? ⟨b, o + k * 5 + 1, none⟩ = some (.int .i64 xv.n) ∧ V.cell? ⟨b, o + k * 5 + 2, none⟩ = some (.int .i64 xv.d) ∧ V.cell? ⟨b, o + k * 5 + 3, none⟩ = some (.string xv.s) ∧ V.cell? ⟨b, o + k * 5 + 4, none⟩ = some (.slice xA xv.l.length xc)))) (by kernel_rfl) ?hs20024 (fun hHeld => ?go20024)
            case hs20024 => (exact MK.out _ (by solve_by_elim [X0, X1, X2, X3]))
            refine TK 0 (v := ?v20025) hHeld ?hy20025 ?_
            case hy20025 => (intro w _; go_simp <;> rfl)
            (try simp only [PU])
            refine TK 1 (v := ?v20026) hHeld ?hy20026 ?_
            case hy20026 => (intro w hSw; (try dsimp only at hSw); go_simp <;> first | with_reducible rfl | rw [if_neg (by omega)] | rw [if_pos (by omega)])
            (try simp only [PU])
            refine TK 2 (v := ?v20027) hHeld ?hy20027 ?_
            case hy20027 => (intro w _; go_simp <;> first | with_reducible rfl | rw [if_neg (by omega)] | rw [if_pos (by omega)])
            (try simp only [PU])
            refine TK 3 (v := ?v20028) hHeld ?hy20028 ?_
            case hy20028 => (intro w _; go_simp <;> rfl)
            (try simp only [PU])
            refine TK 4 (v := ?v20029) hHeld ?hy20029 ?_
            case hy20029 => (intro w _; go_simp <;> rfl)
            (try simp only [PU])
            refine TK 5 (v := ?v20030) hHeld ?hy20030 ?_
            case hy20030 => (intro w hSw; (try dsimp only at hSw); go_simp <;> first | with_reducible rfl | rw [if_neg (by omega)] | rw [if_pos (by omega)])
            (try simp only [PU])
            refine TK 6 (v := ?v20031) hHeld ?hy20031 ?_
            case hy20031 => (intro w _; go_simp <;> first | with_reducible rfl | rw [if_neg (by omega)] | rw [if_pos (by omega)])
            (try simp only [PU])
            refine TK 7 (v := ?v20032) hHeld ?hy20032 ?_
            case hy20032 => (intro w _; go_simp <;> rfl)
            (try simp only [PU])
            refine TK 8 (v := ?v20033) hHeld ?hy20033 ?_
            case hy20033 => (intro w _; go_simp <;> rfl)
            (try simp only [PU])
            refine TK 9 (v := ?v20034) hHeld ?hy20034 ?_
            case hy20034 => (intro w _; go_simp <;> rfl)
            (try simp only [PU])
            refine TK 10 (v := ?v20035) hHeld ?hy20035 ?_
            case hy20035 => (intro w hSw; (try dsimp only at hSw); go_simp <;> first | with_reducible rfl | rw [if_neg (by omega)] | rw [if_pos (by omega)])
            (try simp only [PU])
            refine TK 11 (v := ?v20036) hHeld ?hy20036 ?_
            case hy20036 => (intro w _; go_simp <;> rfl)
            (try simp only [PU])
            refine TK 12 (v := ?v20037) hHeld ?hy20037 ?_
            case hy20037 => (intro w _; go_simp <;> rfl)
            (try simp only [PU])
            refine TK 13 (v := ?v20038) hHeld ?hy20038 ?_
            case hy20038 => (intro w _; go_simp <;> first | with_reducible rfl | rw [if_neg (by omega)] | rw [if_pos (by omega)])
            (try simp only [PU])
            refine TK 14 (v := ?v20039) hHeld ?hy20039 ?_
            case hy20039 => (intro w hSw; (try dsimp only at hSw); go_simp <;> first | with_reducible rfl | rw [if_neg (by omega)] | rw [if_pos (by omega)])
            (try simp only [PU])
            refine TK 15 (v := ?v20040) hHeld ?hy20040 ?_
            case hy20040 => (intro w _; go_simp <;> rfl)
            (try simp only [PU])
            refine TK 16 (v := ?v20041) hHeld ?hy20041 ?_
            case hy20041 => (intro w hSw; (try dsimp only at hSw); go_simp <;> first | with_reducible rfl | rw [if_neg (by omega)] | rw [if_pos (by omega)])
            (try simp only [PU])
            refine TK 17 (v := ?v20042) hHeld ?hy20042 ?_
            case hy20042 => (intro w _; go_simp <;> rfl)
            (try simp only [PU])
            refine TK 18 (v := ?v20043) hHeld ?hy20043 ?_
            case hy20043 => (intro w hSw; (try dsimp only at hSw); go_simp <;> first | with_reducible rfl | rw [if_neg (by omega)] | rw [if_pos (by omega)])
            (try simp only [PU])
            refine wpAnyH_ready (rs := [19]) (by kernel_rfl) (by simp) ?_
            refine AllReadyH.cons (o := ⟨_, _, _, _, _, _⟩) rfl (fun K hK => ?step20044x0) ?more20044x0
            case more20044x0 => exact AllReadyH.nil
            go_simp
            (with_reducible refine (HI2'.out _ (by solve_by_elim [X0, X1, X2, X3])).mono ?_; rintro r v9 ⟨rfl, hy9⟩; replace hy9 : Ext wr v9 := Ext.trans (by solve_by_elim [X0, X1, X2, X3]) hy9)
            refine hK.out _ _ ?hS20044x0 (fun H20044 => ?_)
            case hS20044x0 => first | (exact MK.out _ (by solve_by_elim [X0, X1, X2, X3])) | ((try dsimp only); (exact MK.out _ (by solve_by_elim [X0, X1, X2, X3])))
            clear hK K
            clear hHeld
            (try simp only [PU])
            refine TK 20 (v := ?v20045) H20044 ?hy20045 ?_
            case hy20045 => (intro w _; go_simp <;> first | with_reducible rfl | rw [if_neg (by omega)] | rw [if_pos (by omega)])
            (try simp only [PU])
            refine TK 21 (v := ?v20046) H20044 ?hy20046 ?_
            case hy20046 => (intro w _; go_simp <;> rfl)
            (try simp only [PU])
            refine wpAnyH_done (by kernel_rfl) ?_ _
            clear H20044
            obtain ⟨⟨a0, a1, a2, a3, a4, a5, a6, a7, a8, a9, a10⟩, x0, x1, x2, x3, x4⟩ := MK.out v9 hy9
            by_cases hn2 : 2 < xv.l.length
            · obtain ⟨n2, hn2'⟩ : ∃ n2, n2 = xv.l.length - 2 := ⟨_, rfl⟩
              have HI3' := Lib.hid (HI3.out hn2 n2 hn2')
              have wm2 : IntKind.i64.wrap ((xv.l.length : Int) - 2) = (n2 : Int) := by rw [IntKind.wrap_i64]; omega
              have hle2 : n2 ≤ xc := by omega
              clear hn2' HI3
              go_upto_region 14 with (fail)
              obtain ⟨⟨a0, a1, a2, a3, a4, a5, a6, a7, a8, a9, a10⟩, x0, x1, x2, x3, x4⟩ := MK.out ((v9.alloc (.cells #[.int .i64 7, .int .i64 0, .int .i64 0, .string ⟨#[]⟩, .slice xA n2 xc] 37))) (by solve_by_elim [X0, X1, X2, X3])
              go_wp2_with (go_at_call 15; ((with_reducible refine (HI3'.out _ (by solve_by_elim [X0, X1, X2, X3])).mono ?_); rintro r v99 ⟨rfl, hy99⟩))
              go_roundw
              case rel => exact ⟨k + 1, by go_num, by omega, Lib.hid (hE.out.trans (Ext.trans (show Ext wr ((v9.alloc (.cells #[.int .i64 7, .int .i64 0, .int .i64 0, .string ⟨#[]⟩, .slice xA n2 xc] 37))) from (by solve_by_elim [X0, X1, X2, X3])) hy99))⟩
              case measure => simp [intOf]; omega
            · go_wp2_with fail
              go_roundw
              case rel => exact ⟨k + 1, by go_num, by omega, Lib.hid (hE.out.trans (by solve_by_elim [X0, X1, X2, X3]))⟩
              case measure => simp [intOf]; omega
        · have hb3 : (mode == 3) = false := beq_eq_false_iff_ne.2 hm3
          clear hm3 HI2
          refine wp_region_held_drew (S := (fun V => (V.cell? ⟨q, 0, none⟩ = some (.slice A g.nodes.length c) ∧ V.cell? ⟨q, 1, none⟩ = some (.slice B g.edges.length d) ∧ V.cell? ⟨q, 2, none⟩ = some (.int .i64 g.nn) ∧ V.cell? ⟨q, 3, none⟩ = some (.int .i64 g.ne) ∧ V.cell? ⟨q, 4, none⟩ = some (.int .i64 fr) ∧ V.cell? ⟨q, 5, none⟩ = some (.int .i64 tn) ∧ V.cell? ⟨q, 6, none⟩ = some (.int .i64 dir) ∧ V.cell? ⟨q, 7, none⟩ = some (.int .i64 mode) ∧ V.cell? ⟨q, 8, none⟩ = some (.int .i64 mn) ∧ V.cell? ⟨q, 9, none⟩ = some (.int .i64 mx) ∧ V.cell? ⟨q, 10, none⟩ = some (.slice T types.length e)) ∧ (V.cell? ⟨b, o + k * 5, none⟩ = some (.int .i64 xv.kind) ∧ V.cell? ⟨b, o + k * 5 + 1, none⟩ = some (.int .i64 xv.n) ∧ V.cell? ⟨b, o + k * 5 + 2, none⟩ = some (.int .i64 xv.d) ∧ V.cell? ⟨b, o + k * 5 + 3, none⟩ = some (.string xv.s) ∧ V.cell? ⟨b, o + k * 5 + 4, none⟩ = some (.slice xA xv.l.length xc)))) (by kernel_rfl) ?hs20047 (fun hHeld => ?go20047)
          case hs20047 => (exact MK.out _ (by solve_by_elim [X0, X1, X2, X3]))
          refine TK 0 (v := ?v20048) hHeld ?hy20048 ?_
          case hy20048 => (intro w _; go_simp <;> rfl)
          (try simp only [PU])
          refine TK 1 (v := ?v20049) hHeld ?hy20049 ?_
          case hy20049 => (intro w hSw; (try dsimp only at hSw); go_simp <;> first | with_reducible rfl | rw [if_neg (by omega)] | rw [if_pos (by omega)])
          (try simp only [PU])
          refine TK 2 (v := ?v20050) hHeld ?hy20050 ?_
          case hy20050 => (intro w _; go_simp <;> first | with_reducible rfl | rw [if_neg (by omega)] | rw [if_pos (by omega)])
          (try simp only [PU])
          refine TK 3 (v := ?v20051) hHeld ?hy20051 ?_
          case hy20051 => (intro w _; go_simp <;> rfl)
          (try simp only [PU])
          refine TN 4 hHeld ?_
          (try simp only [PU])
          refine TN 5 hHeld ?_
          (try simp only [PU])
          refine TN 6 hHeld ?_
          (try simp only [PU])
          refine TK 7 (v := ?v20055) hHeld ?hy20055 ?_
          case hy20055 => (intro w _; go_simp <;> rfl)
          (try simp only [PU])
          refine TK 8 (v := ?v20056) hHeld ?hy20056 ?_
          case hy20056 => (intro w _; go_simp <;> rfl)
          (try simp only [PU])
          refine TN 9 hHeld ?_
          (try simp only [PU])
          refine TN 10 hHeld ?_
          (try simp only [PU])
          refine TN 11 hHeld ?_
          (try simp only [PU])
          refine TN 12 hHeld ?_
          (try simp only [PU])
          refine TN 13 hHeld ?_
          (try simp only [PU])
          refine TN 14 hHeld ?_
          (try simp only [PU])
          refine TN 15 hHeld ?_
          (try simp only [PU])
          refine TN 16 hHeld ?_
          (try simp only [PU])
          refine TN 17 hHeld ?_
          (try simp only [PU])
          refine TN 18 hHeld ?_
          (try simp only [PU])
          refine TN 19 hHeld ?_
          (try simp only [PU])
          refine TN 20 hHeld ?_
          (try simp only [PU])
          refine TK 21 (v := ?v20069) hHeld ?hy20069 ?_
          case hy20069 => (intro w _; go_simp <;> rfl)
          (try simp only [PU])
          refine wpAnyH_done (by kernel_rfl) ?_ _
          clear hHeld
          obtain ⟨⟨a0, a1, a2, a3, a4, a5, a6, a7, a8, a9, a10⟩, x0, x1, x2, x3, x4⟩ := MK.out v7 hy7
          by_cases hn2 : 2 < xv.l.length
          · obtain ⟨n2, hn2'⟩ : ∃ n2, n2 = xv.l.length - 2 := ⟨_, rfl⟩
            have HI3' := Lib.hid (HI3.out hn2 n2 hn2')
            have wm2 : IntKind.i64.wrap ((xv.l.length : Int) - 2) = (n2 : Int) := by rw [IntKind.wrap_i64]; omega
            have hle2 : n2 ≤ xc := by omega
            clear hn2' HI3
            go_upto_region 14 with (fail)
            obtain ⟨⟨a0, a1, a2, a3, a4, a5, a6, a7, a8, a9, a10⟩, x0, x1, x2, x3, x4⟩ := MK.out ((v7.alloc (.cells #[.int .i64 7, .int .i64 0, .int .i64 0, .string ⟨#[]⟩, .slice xA n2 xc] 37)).drew) (by solve_by_elim [X0, X1, X2, X3])
            go_wp2_with (go_at_call 15; ((with_reducible refine (HI3'.out _ (by solve_by_elim [X0, X1, X2, X3])).mono ?_); rintro r v99 ⟨rfl, hy99⟩))
            go_roundw
            case rel => exact ⟨k + 1, by go_num, by omega, Lib.hid (hE.out.trans (Ext.trans (show Ext wr ((v7.alloc (.cells #[.int .i64 7, .int .i64 0, .int .i64 0, .string ⟨#[]⟩, .slice xA n2 xc] 37)).drew) from (by solve_by_elim [X0, X1, X2, X3])) hy99))⟩
            case measure => simp [intOf]; omega
          · go_wp2_with fail
            go_roundw
            case rel => exact ⟨k + 1, by go_num, by omega, Lib.hid (hE.out.trans (by solve_by_elim [X0, X1, X2, X3]))⟩
            case measure => simp [intOf]; omega
      · go_wp2_with (go_at_call 9; ((with_reducible refine (HLV.out _ (HX3.out.trans hE.out)).mono ?_); rintro r w9 ⟨rfl, hx9⟩))
        go_ret
        exact ⟨rfl, HX.out.trans ((HX3.out.trans hE.out).trans hx9)⟩
end Go.Proofs.YtigmdddeplnciaaGreatDoor
