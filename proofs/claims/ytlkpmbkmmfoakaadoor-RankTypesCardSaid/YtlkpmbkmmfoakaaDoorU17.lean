/- PARTS OF THE WALKS, joined: RkTa, RkTb. -/
import Derived.Test.YtlkpmbkmmfoakaaDoorU15
import Derived.Test.YtlkpmbkmmfoakaaDoorU16
/- THE WALK over the law RankEven (chapter 51). -/
namespace Go.Proofs.YtlkpmbkmmfoakaaDoor
open Go.RowKit Go.Sort
theorem lessG_no (g : GraphG) : lessG g (fun _ => false) = { g with edges := [] } := by
  unfold lessG
  rw [List.filter_eq_nil_iff.2 (fun _ _ h => Bool.noConfusion h)]
theorem graph_no {w : World} {ok : Nat → Prop} {A B : Option Addr} {g : GraphG} (h : GraphAt w ok A B g) : GraphAt w ok A none { g with edges := [] } := ⟨h.nodes, SliceR.nil _ _ _⟩
set_option maxRecDepth 100000 in
set_option maxHeartbeats 3200000 in
theorem l_RankEven (g : GraphG) (types : List ByteArray) (damp : Fr) (ok ok' : Nat → Prop) (A B T : Option Addr) (c d e : Nat) (w : World) (hz : ZeroAt w) (hg : GraphAt w ok A B g) (hs : SzG g) (ht : Strs w ok' T types) :
    Calls Tryd.prog 5 #[.agg #[.slice A g.nodes.length c, .slice B g.edges.length d, .int .i64 g.nn, .int .i64 g.ne], .slice T types.length e, .agg #[.int .i64 damp.1, .int .i64 damp.2]] w fun e' w' => e' = .returned (.bool true) ∧ Ext w w' := by
  obtain ⟨q, w2, hq, hw2, g0, g1, g2, g3, d0, d1, hx2⟩ := box_gf w A B c d g damp 34 25
  have HW := Lib.hid hw2
  have HG := Lib.hid hq
  have HM := Lib.hid (And.intro hg.nodes.len (And.intro hg.edges.len ht.len))
  have HFW := Lib.hid (fun W => l_few g types.length A B T c d e W HM.out)
  have HAL := Lib.hid (fun W (x : Ext w W) => l_alive W (hz.ext x))
  have hm1 : g.nodes.length ≤ 140737488355328 := hg.nodes.len
  have hm3 : types.length ≤ 140737488355328 := ht.len
  cases hfw : fewB g types.length
  · rw [hfw] at HFW
    clear hfw hw2 hq hg ht hs
    go_enter Tryd.func5, Tryd.ntmps5
    go_upto_region 1 with (fail)
    rw [← HW.out, ← HG.out]
    clear HW HG
    go_wp2_with (first | (go_at_call 12; ((with_reducible refine (HFW.out _).mono ?_); rintro e w3 ⟨rfl, hx3⟩; have k0 := hx3.cell g0; have k1 := hx3.cell g1; have k2 := hx3.cell g2; have k3 := hx3.cell g3; have p0 := hx3.cell d0; have p1 := hx3.cell d1)) | (go_at_call 7; ((with_reducible refine (HAL.out _ (hx2.trans hx3)).mono ?_); rintro e w9 ⟨rfl, hx9⟩; skip)))
    go_ret
    exact ⟨rfl, (hx2.trans hx3).trans hx9⟩
  · rw [hfw] at HFW
    by_cases hn0 : g.nodes.length = 0
    · have hnz : ((g.nodes.length : Int) == 0) = true := by rw [hn0]; rfl
      clear hfw hw2 hq hg ht hs hn0
      go_enter Tryd.func5, Tryd.ntmps5
      go_upto_region 1 with (fail)
      rw [← HW.out, ← HG.out]
      clear HW HG
      go_wp2_with (first | (go_at_call 12; ((with_reducible refine (HFW.out _).mono ?_); rintro e w3 ⟨rfl, hx3⟩; have k0 := hx3.cell g0; have k1 := hx3.cell g1; have k2 := hx3.cell g2; have k3 := hx3.cell g3; have p0 := hx3.cell d0; have p1 := hx3.cell d1)) | (go_at_call 7; ((with_reducible refine (HAL.out _ (hx2.trans hx3)).mono ?_); rintro e w9 ⟨rfl, hx9⟩; skip)))
      go_ret
      exact ⟨rfl, (hx2.trans hx3).trans hx9⟩
    · have hnz : ((g.nodes.length : Int) == 0) = false := beq_eq_false_iff_ne.2 (by omega)
      have HCK := Lib.hid (fun W (x : Ext w W) => r7_Check g ok A B c d W (hg.ext x) hs)
      by_cases hc0 : chkG g = 0
      · rw [hc0] at HCK
        have HVL := Lib.hid (fun W => r3_Valid damp.1 damp.2 W)
        cases hvb : validB damp.1 damp.2
        · rw [hvb] at HVL
          clear hfw hw2 hq hg ht hs hn0 hvb
          go_enter Tryd.func5, Tryd.ntmps5
          go_upto_region 1 with (fail)
          rw [← HW.out, ← HG.out]
          clear HW HG
          go_wp2_with (first | (go_at_call 12; ((with_reducible refine (HFW.out _).mono ?_); rintro e w3 ⟨rfl, hx3⟩; have k0 := hx3.cell g0; have k1 := hx3.cell g1; have k2 := hx3.cell g2; have k3 := hx3.cell g3; have p0 := hx3.cell d0; have p1 := hx3.cell d1)) | (go_at_call 17; ((with_reducible refine (HCK.out _ (hx2.trans hx3)).mono ?_); rintro e w4 ⟨rfl, hx4⟩; replace k0 := hx4.cell k0; replace k1 := hx4.cell k1; replace k2 := hx4.cell k2; replace k3 := hx4.cell k3; replace p0 := hx4.cell p0; replace p1 := hx4.cell p1)) | (go_at_call 18; ((with_reducible refine (HVL.out _).mono ?_); rintro e w5 ⟨rfl, hx5⟩; replace hx5 := of_below hx5; replace k0 := hx5.cell k0; replace k1 := hx5.cell k1; replace k2 := hx5.cell k2; replace k3 := hx5.cell k3; replace p0 := hx5.cell p0; replace p1 := hx5.cell p1)) | (go_at_call 7; ((with_reducible refine (HAL.out _ (hx2.trans (hx3.trans (hx4.trans hx5)))).mono ?_); rintro e w9 ⟨rfl, hx9⟩; skip)))
          go_ret
          exact ⟨rfl, (hx2.trans (hx3.trans (hx4.trans hx5))).trans hx9⟩
        · rw [hvb] at HVL
          by_cases hd1 : damp.1 < 0
          · have q1 : decide (damp.1 < 0) = true := decide_eq_true hd1
            clear hfw hw2 hq hg ht hs hn0 hvb hd1
            go_enter Tryd.func5, Tryd.ntmps5
            go_upto_region 1 with (fail)
            rw [← HW.out, ← HG.out]
            clear HW HG
            go_wp2_with (first | (go_at_call 12; ((with_reducible refine (HFW.out _).mono ?_); rintro e w3 ⟨rfl, hx3⟩; have k0 := hx3.cell g0; have k1 := hx3.cell g1; have k2 := hx3.cell g2; have k3 := hx3.cell g3; have p0 := hx3.cell d0; have p1 := hx3.cell d1)) | (go_at_call 17; ((with_reducible refine (HCK.out _ (hx2.trans hx3)).mono ?_); rintro e w4 ⟨rfl, hx4⟩; replace k0 := hx4.cell k0; replace k1 := hx4.cell k1; replace k2 := hx4.cell k2; replace k3 := hx4.cell k3; replace p0 := hx4.cell p0; replace p1 := hx4.cell p1)) | (go_at_call 18; ((with_reducible refine (HVL.out _).mono ?_); rintro e w5 ⟨rfl, hx5⟩; replace hx5 := of_below hx5; replace k0 := hx5.cell k0; replace k1 := hx5.cell k1; replace k2 := hx5.cell k2; replace k3 := hx5.cell k3; replace p0 := hx5.cell p0; replace p1 := hx5.cell p1)) | (go_at_call 7; ((with_reducible refine (HAL.out _ (hx2.trans (hx3.trans (hx4.trans hx5)))).mono ?_); rintro e w9 ⟨rfl, hx9⟩; skip)))
            go_ret
            exact ⟨rfl, (hx2.trans (hx3.trans (hx4.trans hx5))).trans hx9⟩
          · have q1 : decide (damp.1 < 0) = false := decide_eq_false hd1
            by_cases hd2 : damp.2 < damp.1
            · have q2 : decide (damp.2 < damp.1) = true := decide_eq_true hd2
              clear hfw hw2 hq hg ht hs hn0 hvb hd1 hd2
              go_enter Tryd.func5, Tryd.ntmps5
              go_upto_region 1 with (fail)
              rw [← HW.out, ← HG.out]
              clear HW HG
              go_wp2_with (first | (go_at_call 12; ((with_reducible refine (HFW.out _).mono ?_); rintro e w3 ⟨rfl, hx3⟩; have k0 := hx3.cell g0; have k1 := hx3.cell g1; have k2 := hx3.cell g2; have k3 := hx3.cell g3; have p0 := hx3.cell d0; have p1 := hx3.cell d1)) | (go_at_call 17; ((with_reducible refine (HCK.out _ (hx2.trans hx3)).mono ?_); rintro e w4 ⟨rfl, hx4⟩; replace k0 := hx4.cell k0; replace k1 := hx4.cell k1; replace k2 := hx4.cell k2; replace k3 := hx4.cell k3; replace p0 := hx4.cell p0; replace p1 := hx4.cell p1)) | (go_at_call 18; ((with_reducible refine (HVL.out _).mono ?_); rintro e w5 ⟨rfl, hx5⟩; replace hx5 := of_below hx5; replace k0 := hx5.cell k0; replace k1 := hx5.cell k1; replace k2 := hx5.cell k2; replace k3 := hx5.cell k3; replace p0 := hx5.cell p0; replace p1 := hx5.cell p1)) | (go_at_call 7; ((with_reducible refine (HAL.out _ (hx2.trans (hx3.trans (hx4.trans hx5)))).mono ?_); rintro e w9 ⟨rfl, hx9⟩; skip)))
              go_ret
              exact ⟨rfl, (hx2.trans (hx3.trans (hx4.trans hx5))).trans hx9⟩
            · have q2 : decide (damp.2 < damp.1) = false := decide_eq_false hd2
              have hdb : dampB damp = true := by unfold dampB; rw [hvb, decide_eq_true (by omega : 0 ≤ damp.1), decide_eq_true (by omega : damp.1 ≤ damp.2)]; rfl
              have hfp : g.nodes.length ≤ 30 ∧ g.edges.length ≤ 60 := by
                have h := hfw
                unfold fewB at h
                rw [Bool.and_eq_true, Bool.and_eq_true] at h
                exact ⟨of_decide_eq_true h.1.1, of_decide_eq_true h.1.2⟩
              have hR := even_run (types := types) hc0 (by omega) hfp.1 hfp.2
              have hF := even_free (types := types) hc0 hdb (by omega) hfp.1
              rw [lessG_no] at hF
              have HST := Lib.hid (fun W (x : Ext w W) => rk_Start g ok A B c d W (hg.ext x))
              have HRN := Lib.hid (fun W (x : Ext w W) => rk_Run g types (0, 1) 2 ok ok' A B T c d e W (hz.ext x) (hg.ext x) (ht.ext x))
              have HSP := Lib.hid (fun W S f ok2 (x : Ext w W) (hl : Shares W ok2 S (startR g)) => rk_Step { g with edges := [] } types damp (startR g) ok ok' ok2 A none T S c 0 e f W (hz.ext x) (graph_no (hg.ext x)) (ht.ext x) hl)
              rw [hR] at HRN
              have HRP := Lib.hid (fun W (x : Ext w W) => (HRN.out W x).mono (fun _ _ h => shErr_parts h))
              clear HRN hR hfp hdb hd1 hd2 hvb hfw hg hs ht hn0 hw2 hq
              generalize startR g = s0 at *
              generalize hP : stepP { g with edges := [] } types damp s0 = P at *
              clear hP
              obtain ⟨M, z⟩ := P
              have HSQ := Lib.hid (fun W S f ok2 (x : Ext w W) (hl : Shares W ok2 S s0) => (HSP.out W S f ok2 x hl).mono (fun _ _ h => shErr_parts h))
              clear HSP
              dsimp only [List.length_nil] at HSQ
              rcases hF with hF | hF
              · injection hF with hF1 hF2
                subst hF1 hF2
                try simp only [List.length_nil] at HSQ
                go_enter Tryd.func5, Tryd.ntmps5
                go_upto_region 1 with (fail)
                rw [← HW.out, ← HG.out]
                clear HW HG
                go_upto_region 4 with (first | (go_at_call 12; ((with_reducible refine (HFW.out _).mono ?_); rintro e w3 ⟨rfl, hx3⟩; have k0 := hx3.cell g0; have k1 := hx3.cell g1; have k2 := hx3.cell g2; have k3 := hx3.cell g3; have p0 := hx3.cell d0; have p1 := hx3.cell d1)) | (go_at_call 17; ((with_reducible refine (HCK.out _ (hx2.trans hx3)).mono ?_); rintro e w4 ⟨rfl, hx4⟩; replace k0 := hx4.cell k0; replace k1 := hx4.cell k1; replace k2 := hx4.cell k2; replace k3 := hx4.cell k3; replace p0 := hx4.cell p0; replace p1 := hx4.cell p1)) | (go_at_call 18; ((with_reducible refine (HVL.out _).mono ?_); rintro e w5 ⟨rfl, hx5⟩; replace hx5 := of_below hx5; replace k0 := hx5.cell k0; replace k1 := hx5.cell k1; replace k2 := hx5.cell k2; replace k3 := hx5.cell k3; replace p0 := hx5.cell p0; replace p1 := hx5.cell p1)) | (go_at_call 19; ((with_reducible refine (HST.out _ (hx2.trans (hx3.trans (hx4.trans hx5)))).mono ?_); rintro e w6 ⟨A6, c6, rfl, hc6, hS6, hx6⟩; replace k0 := hx6.cell k0; replace k1 := hx6.cell k1; replace k2 := hx6.cell k2; replace k3 := hx6.cell k3; replace p0 := hx6.cell p0; replace p1 := hx6.cell p1)))
                go_upto_region 5 with ((go_at_call 13; ((with_reducible refine (HRP.out _ ((hx2.trans (hx3.trans (hx4.trans hx5))).trans hx6)).mono ?_); rintro e w7 ⟨⟨A7, c7, rfl, hc7, hS7⟩, hx7⟩; replace k0 := hx7.cell k0; replace k1 := hx7.cell k1; replace k2 := hx7.cell k2; replace k3 := hx7.cell k3; replace p0 := hx7.cell p0; replace p1 := hx7.cell p1)))
                have hE7 := (hx2.trans (hx3.trans (hx4.trans hx5))).trans (hx6.trans hx7)
                have HS6 := Lib.hid (hS6.ext hx7)
                have HS7 := Lib.hid hS7
                clear hS6 hS7 HRP HST HCK HVL HFW hx2 hx3 hx4 hx5 hx6 hx7
                go_upto_region 7 with (fail)
                obtain ⟨y10, w8, hy10, hw8, h0, h1, h2, h3, -, hx8, -⟩ := box_less w7 A c g 34
                rw [← hw8, ← hy10]
                replace k0 := hx8.cell k0
                replace k1 := hx8.cell k1
                replace k2 := hx8.cell k2
                replace k3 := hx8.cell k3
                replace p0 := hx8.cell p0
                replace p1 := hx8.cell p1
                clear hy10 hw8
                go_upto_region 8 with ((go_at_call 20; ((with_reducible refine (HSQ.out _ A6 c6 _ (hE7.trans hx8) (HS6.out.ext hx8)).mono ?_); rintro e w9 ⟨⟨A9, c9, rfl, hc9, hS9⟩, hx9⟩; skip)))
                have hE9 := hE7.trans (hx8.trans hx9)
                have HSA := Lib.hid (fun W (x : Ext w9 W) => same_self _ _ _ A7 A6 c7 c6 W (HS7.out.ext ((hx8.trans hx9).trans x)) (HS6.out.ext ((hx8.trans hx9).trans x)))
                have HSB := Lib.hid (fun W (x : Ext w9 W) => same_self _ _ _ A9 A6 c9 c6 W (hS9.ext x) (HS6.out.ext ((hx8.trans hx9).trans x)))
                clear hS9 HS6 HS7 HSQ hx8 hx9 hE7
                go_wp2_with (first | (go_at_call 21; ((with_reducible refine (HSA.out _ (by with_reducible repeat (first | exact Ext.refl _ | assumption | refine Ext.drew ?_ | refine Ext.drewN ?_ _ | refine Ext.alloc ?_ _))).mono ?_); rintro e w10 ⟨rfl, hx10⟩; replace hx10 : Ext w9 w10 := Ext.trans (by with_reducible repeat (first | exact Ext.refl _ | assumption | refine Ext.drew ?_ | refine Ext.drewN ?_ _ | refine Ext.alloc ?_ _)) hx10)) | (go_at_call 21; ((with_reducible refine (HSB.out _ (by with_reducible repeat (first | exact Ext.refl _ | assumption | refine Ext.drew ?_ | refine Ext.drewN ?_ _ | refine Ext.alloc ?_ _))).mono ?_); rintro e w11 ⟨rfl, hx11⟩; replace hx11 : Ext w9 w11 := Ext.trans (by with_reducible repeat (first | exact Ext.refl _ | assumption | refine Ext.drew ?_ | refine Ext.drewN ?_ _ | refine Ext.alloc ?_ _)) hx11)) | (go_at_call 7; ((with_reducible refine (HAL.out _ (hE9.trans (by with_reducible repeat (first | exact Ext.refl _ | assumption | refine Ext.drew ?_ | refine Ext.drewN ?_ _ | refine Ext.alloc ?_ _)))).mono ?_); rintro e w12 ⟨rfl, hx12⟩; replace hx12 : Ext w9 w12 := Ext.trans (by with_reducible repeat (first | exact Ext.refl _ | assumption | refine Ext.drew ?_ | refine Ext.drewN ?_ _ | refine Ext.alloc ?_ _)) hx12)))
                go_ret
                exact ⟨rfl, hE9.trans hx12⟩
              · injection hF with hF1 hF2
                subst hF1 hF2
                try simp only [List.length_nil] at HSQ
                go_enter Tryd.func5, Tryd.ntmps5
                go_upto_region 1 with (fail)
                rw [← HW.out, ← HG.out]
                clear HW HG
                go_upto_region 4 with (first | (go_at_call 12; ((with_reducible refine (HFW.out _).mono ?_); rintro e w3 ⟨rfl, hx3⟩; have k0 := hx3.cell g0; have k1 := hx3.cell g1; have k2 := hx3.cell g2; have k3 := hx3.cell g3; have p0 := hx3.cell d0; have p1 := hx3.cell d1)) | (go_at_call 17; ((with_reducible refine (HCK.out _ (hx2.trans hx3)).mono ?_); rintro e w4 ⟨rfl, hx4⟩; replace k0 := hx4.cell k0; replace k1 := hx4.cell k1; replace k2 := hx4.cell k2; replace k3 := hx4.cell k3; replace p0 := hx4.cell p0; replace p1 := hx4.cell p1)) | (go_at_call 18; ((with_reducible refine (HVL.out _).mono ?_); rintro e w5 ⟨rfl, hx5⟩; replace hx5 := of_below hx5; replace k0 := hx5.cell k0; replace k1 := hx5.cell k1; replace k2 := hx5.cell k2; replace k3 := hx5.cell k3; replace p0 := hx5.cell p0; replace p1 := hx5.cell p1)) | (go_at_call 19; ((with_reducible refine (HST.out _ (hx2.trans (hx3.trans (hx4.trans hx5)))).mono ?_); rintro e w6 ⟨A6, c6, rfl, hc6, hS6, hx6⟩; replace k0 := hx6.cell k0; replace k1 := hx6.cell k1; replace k2 := hx6.cell k2; replace k3 := hx6.cell k3; replace p0 := hx6.cell p0; replace p1 := hx6.cell p1)))
                go_upto_region 5 with ((go_at_call 13; ((with_reducible refine (HRP.out _ ((hx2.trans (hx3.trans (hx4.trans hx5))).trans hx6)).mono ?_); rintro e w7 ⟨⟨A7, c7, rfl, hc7, hS7⟩, hx7⟩; replace k0 := hx7.cell k0; replace k1 := hx7.cell k1; replace k2 := hx7.cell k2; replace k3 := hx7.cell k3; replace p0 := hx7.cell p0; replace p1 := hx7.cell p1)))
                have hE7 := (hx2.trans (hx3.trans (hx4.trans hx5))).trans (hx6.trans hx7)
                have HS6 := Lib.hid (hS6.ext hx7)
                have HS7 := Lib.hid hS7
                clear hS6 hS7 HRP HST HCK HVL HFW hx2 hx3 hx4 hx5 hx6 hx7
                go_upto_region 7 with (fail)
                obtain ⟨y10, w8, hy10, hw8, h0, h1, h2, h3, -, hx8, -⟩ := box_less w7 A c g 34
                rw [← hw8, ← hy10]
                replace k0 := hx8.cell k0
                replace k1 := hx8.cell k1
                replace k2 := hx8.cell k2
                replace k3 := hx8.cell k3
                replace p0 := hx8.cell p0
                replace p1 := hx8.cell p1
                clear hy10 hw8
                go_upto_region 8 with ((go_at_call 20; ((with_reducible refine (HSQ.out _ A6 c6 _ (hE7.trans hx8) (HS6.out.ext hx8)).mono ?_); rintro e w9 ⟨⟨A9, c9, rfl, hc9, hS9⟩, hx9⟩; skip)))
                have hE9 := hE7.trans (hx8.trans hx9)
                have HSA := Lib.hid (fun W (x : Ext w9 W) => same_self _ _ _ A7 A6 c7 c6 W (HS7.out.ext ((hx8.trans hx9).trans x)) (HS6.out.ext ((hx8.trans hx9).trans x)))
                clear hS9 HS6 HS7 HSQ hx8 hx9 hE7
                go_wp2_with (first | (go_at_call 21; ((with_reducible refine (HSA.out _ (by with_reducible repeat (first | exact Ext.refl _ | assumption | refine Ext.drew ?_ | refine Ext.drewN ?_ _ | refine Ext.alloc ?_ _))).mono ?_); rintro e w10 ⟨rfl, hx10⟩; replace hx10 : Ext w9 w10 := Ext.trans (by with_reducible repeat (first | exact Ext.refl _ | assumption | refine Ext.drew ?_ | refine Ext.drewN ?_ _ | refine Ext.alloc ?_ _)) hx10)) | (go_at_call 7; ((with_reducible refine (HAL.out _ (hE9.trans (by with_reducible repeat (first | exact Ext.refl _ | assumption | refine Ext.drew ?_ | refine Ext.drewN ?_ _ | refine Ext.alloc ?_ _)))).mono ?_); rintro e w12 ⟨rfl, hx12⟩; replace hx12 : Ext w9 w12 := Ext.trans (by with_reducible repeat (first | exact Ext.refl _ | assumption | refine Ext.drew ?_ | refine Ext.drewN ?_ _ | refine Ext.alloc ?_ _)) hx12)))
                go_ret
                exact ⟨rfl, hE9.trans hx12⟩
      · have hcz : (chkG g != 0) = true := bne_iff_ne.2 hc0
        generalize chkG g = zc at *
        clear hfw hw2 hq hg ht hs hn0 hc0
        go_enter Tryd.func5, Tryd.ntmps5
        go_upto_region 1 with (fail)
        rw [← HW.out, ← HG.out]
        clear HW HG
        go_wp2_with (first | (go_at_call 12; ((with_reducible refine (HFW.out _).mono ?_); rintro e w3 ⟨rfl, hx3⟩; have k0 := hx3.cell g0; have k1 := hx3.cell g1; have k2 := hx3.cell g2; have k3 := hx3.cell g3; have p0 := hx3.cell d0; have p1 := hx3.cell d1)) | (go_at_call 17; ((with_reducible refine (HCK.out _ (hx2.trans hx3)).mono ?_); rintro e w4 ⟨rfl, hx4⟩; replace k0 := hx4.cell k0; replace k1 := hx4.cell k1; replace k2 := hx4.cell k2; replace k3 := hx4.cell k3; replace p0 := hx4.cell p0; replace p1 := hx4.cell p1)) | (go_at_call 7; ((with_reducible refine (HAL.out _ (hx2.trans (hx3.trans hx4))).mono ?_); rintro e w9 ⟨rfl, hx9⟩; skip)))
        go_ret
        exact ⟨rfl, (hx2.trans (hx3.trans hx4)).trans hx9⟩
end Go.Proofs.YtlkpmbkmmfoakaaDoor

/- THE WALK over the law RankTypes (chapter 51). -/
namespace Go.Proofs.YtlkpmbkmmfoakaaDoor
open Go.RowKit Go.Sort
theorem ofT_iff {typ : ByteArray} {e : EdgeG} : ofT typ e = decide (e.typ = typ) := by
  unfold ofT typB memB
  simp
set_option maxRecDepth 100000 in
set_option maxHeartbeats 3200000 in
theorem l_RankTypes (g : GraphG) (typ : ByteArray) (damp : Fr) (k : Int) (ok : Nat → Prop) (A B : Option Addr) (c d : Nat) (w : World) (hz : ZeroAt w) (hg : GraphAt w ok A B g) (hs : SzG g) :
    Calls Tryd.prog 6 #[.agg #[.slice A g.nodes.length c, .slice B g.edges.length d, .int .i64 g.nn, .int .i64 g.ne], .string typ, .agg #[.int .i64 damp.1, .int .i64 damp.2], .int .i64 k] w fun e' w' => e' = .returned (.bool true) ∧ Ext w w' := by
  obtain ⟨q, w2, hq, hw2, g0, g1, g2, g3, d0, d1, hx2⟩ := box_gf w A B c d g damp 34 25
  have HW := Lib.hid hw2
  have HG := Lib.hid hq
  have HM := Lib.hid (And.intro hg.nodes.len hg.edges.len)
  have HFW := Lib.hid (fun W => l_few g 0 A B none c d 0 W ⟨HM.out.1, HM.out.2, by omega⟩)
  have HAL := Lib.hid (fun W (x : Ext w W) => l_alive W (hz.ext x))
  have hm1 : g.nodes.length ≤ 140737488355328 := hg.nodes.len
  have hm2 : g.edges.length ≤ 140737488355328 := hg.edges.len
  cases hfw : fewB g 0
  · rw [hfw] at HFW
    clear hfw hw2 hq hg hs
    go_enter Tryd.func6, Tryd.ntmps6
    go_upto_region 1 with (fail)
    rw [← HW.out, ← HG.out]
    clear HW HG
    go_wp2_with (first | (go_at_call 12; ((with_reducible refine (HFW.out _).mono ?_); rintro e w3 ⟨rfl, hx3⟩; have k0 := hx3.cell g0; have k1 := hx3.cell g1; have k2 := hx3.cell g2; have k3 := hx3.cell g3; have p0 := hx3.cell d0; have p1 := hx3.cell d1)) | (go_at_call 7; ((with_reducible refine (HAL.out _ (hx2.trans hx3)).mono ?_); rintro e w9 ⟨rfl, hx9⟩; skip)))
    go_ret
    exact ⟨rfl, (hx2.trans hx3).trans hx9⟩
  · rw [hfw] at HFW
    have HCK := Lib.hid (fun W (x : Ext w W) => r7_Check g ok A B c d W (hg.ext x) hs)
    by_cases hc0 : chkG g = 0
    · rw [hc0] at HCK
      have hfp : g.edges.length ≤ 60 := by
        have h := hfw
        unfold fewB at h
        rw [Bool.and_eq_true, Bool.and_eq_true] at h
        exact of_decide_eq_true h.1.2
      have hRL : runP { g with edges := g.edges.filter (ofT typ) } [] damp k = runP g [typ] damp k := runP_less (typ := typ) (damp := damp) hc0 k
      have HGA := Lib.hid hg
      have HN0 := Lib.hid (fun W (x : Ext w W) => hg.nodes.ext x)
      have HE0 := Lib.hid (fun W (x : Ext w W) => hg.edges.ext x)
      have hZ := Lib.hid hz
      clear hfw hw2 hq hs
      go_enter Tryd.func6, Tryd.ntmps6
      go_upto_region 1 with (fail)
      rw [← HW.out, ← HG.out]
      clear HW HG
      go_upto_region 3 with (first | (go_at_call 12; ((with_reducible refine (HFW.out _).mono ?_); rintro e w3 ⟨rfl, hx3⟩; have k0 := hx3.cell g0; have k1 := hx3.cell g1; have k2 := hx3.cell g2; have k3 := hx3.cell g3; have p0 := hx3.cell d0; have p1 := hx3.cell d1)) | (go_at_call 17; ((with_reducible refine (HCK.out _ (hx2.trans hx3)).mono ?_); rintro e w4 ⟨rfl, hx4⟩; replace k0 := hx4.cell k0; replace k1 := hx4.cell k1; replace k2 := hx4.cell k2; replace k3 := hx4.cell k3; replace p0 := hx4.cell p0; replace p1 := hx4.cell p1)))
      have hE4 := hx2.trans (hx3.trans hx4)
      clear hx2 hx3 hx4 HFW HCK g0 g1 g2 g3 d0 d1
      go_wp2_with fail
      obtain ⟨y9, w5, hy9, hw5, h0, h1, h2, h3, hf1, hx5, hq9⟩ := box_less w4 A c g 34
      rw [← hw5, ← hy9]
      have HLW0 := Lib.hid (LessW.start (wB := w4) h0 h1 h2 h3 hf1 hx5 hq9)
      clear hy9 hw5 h0 h1 h2 h3 hf1 hx5 hq9
      go_loopw [10] (fun u W => ∃ (i : Nat) (H : List EH) (v : Value), u = .int .i64 i ∧ i ≤ g.edges.length ∧ H.map EH.e = (g.edges.take i).filter (ofT typ) ∧ LessW w4 y9 A c g H v W) (fun u _ => g.edges.length - (intOf u).toNat)
      case atStart => exact ⟨0, [], _, rfl, Nat.zero_le _, rfl, HLW0.out⟩
      case round =>
        obtain ⟨i, H, v, rfl, hi, hH, hLW⟩ := hrel
        have HL := Lib.hid hLW
        clear hLW HLW0
        have e1 := HL.out.ext.cell k1
        by_cases hlt : i < g.edges.length
        · have hil : (i : Int) < (g.edges.length : Int) := by omega
          obtain ⟨be, oe, rfl, hce⟩ := (HE0.out w4 hE4).at_ hlt
          obtain ⟨-, a0, a1, a2, a3, Bp, dp, a4, hdp, hPp⟩ := hce i hlt
          have HPP := Lib.hid (And.intro hdp (Props.keep (ok' := fun _ => True) (fun _ _ _ _ h => h) (fun _ _ => trivial) hPp))
          have HTK := Lib.hid (take_less (p := ofT typ) hlt)
          have HBL := Lib.hid (And.intro (block_lt_of_cell k1) (block_lt_of_cell a0))
          have c1 := HL.out.c1
          replace a0 := HL.out.ext.cell a0
          replace a1 := HL.out.ext.cell a1
          replace a2 := HL.out.ext.cell a2
          replace a3 := HL.out.ext.cell a3
          replace a4 := HL.out.ext.cell a4
          have hHl : H.length ≤ 60 := by
            have h := congrArg List.length hH
            rw [List.length_map] at h
            have h2 := List.length_filter_le (ofT typ) (g.edges.take i)
            rw [List.length_take] at h2
            omega
          clear hce hdp hPp
          generalize g.edges[i]! = x at *
          cases hty : decide (x.typ = typ)
          · have hty2 := str_ne (of_decide_eq_false hty)
            have HNX := Lib.hid (show H.map EH.e = (g.edges.take (i + 1)).filter (ofT typ) by rw [HTK.out, hH, ofT_iff, hty, if_neg Bool.false_ne_true, List.append_nil])
            go_wp2_with fail
            go_roundw
            case rel => exact ⟨i + 1, H, v, by go_num, by omega, HNX.out, HL.out.to (by with_reducible repeat (first | exact Ext.refl _ | assumption | refine Ext.drew ?_ | refine Ext.drewN ?_ _ | refine Ext.alloc ?_ _))⟩
            case measure => simp [intOf]; omega
          · have hty2 := str_eq (of_decide_eq_true hty)
            have HNX := Lib.hid (show (H ++ [(⟨x, Bp, dp⟩ : EH)]).map EH.e = (g.edges.take (i + 1)).filter (ofT typ) by rw [HTK.out, hH.symm, List.map_append, ofT_iff, hty, if_pos rfl]; rfl)
            have hbl : y9 + 1 ≤ wr.heap.size := block_lt_of_cell c1
            have HOL := Lib.hid (fun b (h : some b = v.ownBlock) => (World.ownsRow.lt HL.out.own b h.symm).1)
            have HQY := HL.out.hq
            have MKC := Lib.hid (fun V (e : Ext wr V) => (⟨e.cell c1, e.cell e1, e.cell a0, e.cell a1, e.cell a2, e.cell a3, e.cell a4⟩ : V.cell? ⟨y9, 1, none⟩ = some v ∧ V.cell? ⟨q, 1, none⟩ = some (.slice (some ⟨be, oe, none⟩) g.edges.length d) ∧ V.cell? ⟨be, oe + i * 5, none⟩ = some (.int .i64 x.id) ∧ V.cell? ⟨be, oe + i * 5 + 1, none⟩ = some (.int .i64 x.frm) ∧ V.cell? ⟨be, oe + i * 5 + 2, none⟩ = some (.int .i64 x.to_) ∧ V.cell? ⟨be, oe + i * 5 + 3, none⟩ = some (.string x.typ) ∧ V.cell? ⟨be, oe + i * 5 + 4, none⟩ = some (.slice Bp x.props.length dp)))
            have MKD := Lib.hid (fun V' V (e : Ext wr V') (hg : V'.grownBy V v.ownBlock) => (⟨hg.cell (e.cell c1) (fun h => by have : y9 + 1 ≤ y9 := HOL.out _ h; omega), hg.cell (e.cell e1) (fun h => by have : y9 + 1 ≤ q := HOL.out _ h; have : q < w4.heap.size := HBL.out.1; omega), hg.cell (e.cell a0) (fun h => by have : y9 + 1 ≤ be := HOL.out _ h; have : be < w4.heap.size := HBL.out.2; omega), hg.cell (e.cell a1) (fun h => by have : y9 + 1 ≤ be := HOL.out _ h; have : be < w4.heap.size := HBL.out.2; omega), hg.cell (e.cell a2) (fun h => by have : y9 + 1 ≤ be := HOL.out _ h; have : be < w4.heap.size := HBL.out.2; omega), hg.cell (e.cell a3) (fun h => by have : y9 + 1 ≤ be := HOL.out _ h; have : be < w4.heap.size := HBL.out.2; omega), hg.cell (e.cell a4) (fun h => by have : y9 + 1 ≤ be := HOL.out _ h; have : be < w4.heap.size := HBL.out.2; omega)⟩ : V.cell? ⟨y9, 1, none⟩ = some v ∧ V.cell? ⟨q, 1, none⟩ = some (.slice (some ⟨be, oe, none⟩) g.edges.length d) ∧ V.cell? ⟨be, oe + i * 5, none⟩ = some (.int .i64 x.id) ∧ V.cell? ⟨be, oe + i * 5 + 1, none⟩ = some (.int .i64 x.frm) ∧ V.cell? ⟨be, oe + i * 5 + 2, none⟩ = some (.int .i64 x.to_) ∧ V.cell? ⟨be, oe + i * 5 + 3, none⟩ = some (.string x.typ) ∧ V.cell? ⟨be, oe + i * 5 + 4, none⟩ = some (.slice Bp x.props.length dp)))
            have HFZ := Lib.hid (fun V' V (e : Ext wr V') (hg : V'.grownBy V v.ownBlock) => frozen_grown hg (e.cell c1) ((HL.out.to e).fz) (fun h => by have : y9 + 1 ≤ y9 := HOL.out _ h; omega))
            go_upto_region 9 with (fail)
            refine AnyE.start (S := (fun V => V.cell? ⟨y9, 1, none⟩ = some v ∧ V.cell? ⟨q, 1, none⟩ = some (.slice (some ⟨be, oe, none⟩) g.edges.length d) ∧ V.cell? ⟨be, oe + i * 5, none⟩ = some (.int .i64 x.id) ∧ V.cell? ⟨be, oe + i * 5 + 1, none⟩ = some (.int .i64 x.frm) ∧ V.cell? ⟨be, oe + i * 5 + 2, none⟩ = some (.int .i64 x.to_) ∧ V.cell? ⟨be, oe + i * 5 + 3, none⟩ = some (.string x.typ) ∧ V.cell? ⟨be, oe + i * 5 + 4, none⟩ = some (.slice Bp x.props.length dp))) (E := 10) (by kernel_rfl) ?hs1 (fun hHeld => ?go1)
            case hs1 => (first | exact MK9.out | exact MKC.out _ (by with_reducible repeat (first | exact Ext.refl _ | assumption | refine Ext.drew ?_ | refine Ext.drewN ?_ _ | refine Ext.alloc ?_ _)))
            refine AnyE.takeP (i := 0) (oi := ⟨(some 41), (.fieldAddr 34 (.tmp 9) 1), 0, "law.go:123", #[], none⟩) (v := ?v2) rfl (by kernel_rfl) (by kernel_rfl) (by kernel_rfl) (fun _ _ _ h => h) rfl (Or.inl ⟨rfl, ?hy2⟩) (fun _ => hHeld) ?rest2
            case hy2 => (intro w _; go_simp <;> rfl)
            (try simp only [PU])
            refine AnyE.take (i := 1) (oi := ⟨(some 42), (.load 32 (.tmp 41)), 32, "law.go:123", #[⟨0, .data⟩], none⟩) (v := ?v3) rfl (by kernel_rfl) (by kernel_rfl) (by kernel_rfl) (fun _ _ _ h => h) (by kernel_rfl) rfl (by kernel_rfl) (Or.inl ⟨rfl, ?hy3⟩) hHeld ?rest3
            case hy3 => (intro w hSw; (try dsimp only at hSw); go_simp <;> first | with_reducible rfl | rw [if_neg (by omega)] | rw [if_pos (by omega)])
            (try simp only [PU])
            refine AnyE.takeP (i := 2) (oi := ⟨(some 43), (.fieldAddr 34 (.tmp 4) 1), 0, "law.go:123", #[], none⟩) (v := ?v4) rfl (by kernel_rfl) (by kernel_rfl) (by kernel_rfl) (fun _ _ _ h => h) rfl (Or.inl ⟨rfl, ?hy4⟩) (fun _ => hHeld) ?rest4
            case hy4 => (intro w _; go_simp <;> rfl)
            (try simp only [PU])
            refine AnyE.take (i := 3) (oi := ⟨(some 44), (.load 32 (.tmp 43)), 32, "law.go:123", #[⟨2, .data⟩], none⟩) (v := ?v5) rfl (by kernel_rfl) (by kernel_rfl) (by kernel_rfl) (fun _ _ _ h => h) (by kernel_rfl) rfl (by kernel_rfl) (Or.inl ⟨rfl, ?hy5⟩) hHeld ?rest5
            case hy5 => (intro w hSw; (try dsimp only at hSw); go_simp <;> first | with_reducible rfl | rw [if_neg (by omega)] | rw [if_pos (by omega)])
            (try simp only [PU])
            refine AnyE.takeP (i := 4) (oi := ⟨(some 45), (.move (.tmp 10)), 3, "law.go:123", #[], none⟩) (v := ?v6) rfl (by kernel_rfl) (by kernel_rfl) (by kernel_rfl) (fun _ _ _ h => h) rfl (Or.inl ⟨rfl, ?hy6⟩) (fun _ => hHeld) ?rest6
            case hy6 => (intro w _; go_simp <;> rfl)
            (try simp only [PU])
            refine AnyE.takeP (i := 5) (oi := ⟨(some 46), (.indexAddr 32 (.tmp 44) (.tmp 45)), 0, "law.go:123", #[⟨3, .data⟩, ⟨4, .data⟩], none⟩) (v := ?v7) rfl (by kernel_rfl) (by kernel_rfl) (by kernel_rfl) (fun _ _ _ h => h) rfl (Or.inl ⟨rfl, ?hy7⟩) (fun _ => hHeld) ?rest7
            case hy7 => (intro w _; go_simp <;> first | with_reducible rfl | rw [if_neg (by omega)] | rw [if_pos (by omega)])
            (try simp only [PU])
            refine AnyE.take (i := 6) (oi := ⟨(some 47), (.load 55 (.tmp 46)), 55, "law.go:123", #[⟨5, .data⟩], none⟩) (v := ?v8) rfl (by kernel_rfl) (by kernel_rfl) (by kernel_rfl) (fun _ _ _ h => h) (by kernel_rfl) rfl (by kernel_rfl) (Or.inl ⟨rfl, ?hy8⟩) hHeld ?rest8
            case hy8 => (intro w hSw; (try dsimp only at hSw); go_simp <;> first | with_reducible rfl | rw [if_neg (by omega)] | rw [if_pos (by omega)])
            (try simp only [PU])
            refine AnyE.ready (rs := [7]) (by kernel_rfl) (by simp) ?_
            refine AllE.cons (o := ⟨(some 48), (.buildSlice 32 1 #[(0, (.tmp 47))]), 32, "law.go:123", #[⟨6, .data⟩], none⟩) rfl (fun K hK => ?step9x0) ?more9x0
            case more9x0 => exact AllE.nil
            go_simp
            refine hK.out _ _ ?hS9x0 (fun hHeld9 => ?rest9x0)
            case hS9x0 => intro _; first | (first | exact MK9.out | exact MKC.out _ (by with_reducible repeat (first | exact Ext.refl _ | assumption | refine Ext.drew ?_ | refine Ext.drewN ?_ _ | refine Ext.alloc ?_ _))) | ((try dsimp only); (first | exact MK9.out | exact MKC.out _ (by with_reducible repeat (first | exact Ext.refl _ | assumption | refine Ext.drew ?_ | refine Ext.drewN ?_ _ | refine Ext.alloc ?_ _))))
            clear hK K
            clear hHeld
            (try simp only [PU])
            refine AnyE.ready (rs := [8]) (by kernel_rfl) (by simp) ?_
            refine AllE.cons (o := ⟨(some 49), (.call { callee := (.builtin .append), args := #[(.tmp 42), (.tmp 48)], argTypes := #[32, 32] }), 32, "law.go:123", #[⟨1, .data⟩, ⟨7, .data⟩], none⟩) rfl (fun K hK => ?step10x0) ?more10x0
            case more10x0 => exact AllE.nil
            (refine step_pushK El_edge rfl (.tmp 42) (.tmp 48) rfl (y9 + 1) wr.drew v H.length _ [.int .i64 x.id, .int .i64 x.frm, .int .i64 x.to_, .string x.typ, .slice Bp x.props.length dp] rfl (own_ext HL.out.own (by with_reducible repeat (first | exact Ext.refl _ | assumption | refine Ext.drew ?_ | refine Ext.drewN ?_ _ | refine Ext.alloc ?_ _))) hbl rfl _ rfl rfl rfl (by simp [Value.oneCell']) (by omega) (by decide) ?_; intro v2 w9 hown2 hg9; have MK9 := Lib.hid (MKD.out wr.drew w9 (by with_reducible repeat (first | exact Ext.refl _ | assumption | refine Ext.drew ?_ | refine Ext.drewN ?_ _ | refine Ext.alloc ?_ _)) hg9); have c9 := MK9.out.1; have f9 := HFZ.out wr.drew w9 (by with_reducible repeat (first | exact Ext.refl _ | assumption | refine Ext.drew ?_ | refine Ext.drewN ?_ _ | refine Ext.alloc ?_ _)) hg9; obtain ⟨A9, d9, rfl⟩ := own_form hown2)
            refine hK.out _ _ ?hS10x0 (fun hHeld10 => ?rest10x0)
            case hS10x0 => intro _; first | (first | exact MK9.out | exact MKC.out _ (by with_reducible repeat (first | exact Ext.refl _ | assumption | refine Ext.drew ?_ | refine Ext.drewN ?_ _ | refine Ext.alloc ?_ _))) | ((try dsimp only); (first | exact MK9.out | exact MKC.out _ (by with_reducible repeat (first | exact Ext.refl _ | assumption | refine Ext.drew ?_ | refine Ext.drewN ?_ _ | refine Ext.alloc ?_ _))))
            clear hK K
            clear hHeld9
            (try simp only [PU])
            refine AnyE.takeP (i := 9) (oi := ⟨(some 50), (.fieldAddr 34 (.tmp 9) 1), 0, "law.go:123", #[⟨0, .phase⟩, ⟨1, .phase⟩, ⟨2, .phase⟩, ⟨3, .phase⟩, ⟨4, .phase⟩, ⟨5, .phase⟩, ⟨6, .phase⟩, ⟨7, .phase⟩, ⟨8, .phase⟩], none⟩) (v := ?v11) rfl (by kernel_rfl) (by kernel_rfl) (by kernel_rfl) (fun _ _ _ h => h) rfl (Or.inl ⟨rfl, ?hy11⟩) (fun _ => (hHeld10 (by kernel_rfl))) ?rest11
            case hy11 => (intro w _; go_simp <;> rfl)
            (try simp only [PU])
            refine AnyE.ready (rs := [10]) (by kernel_rfl) (by simp) ?_
            refine AllE.cons (o := ⟨none, (.store 32 (.tmp 50) (.tmp 49)), 0, "law.go:123", #[⟨9, .data⟩, ⟨8, .data⟩, ⟨8, .chain⟩, ⟨0, .phase⟩, ⟨1, .phase⟩, ⟨2, .phase⟩, ⟨3, .phase⟩, ⟨4, .phase⟩, ⟨5, .phase⟩, ⟨6, .phase⟩, ⟨7, .phase⟩, ⟨8, .phase⟩], none⟩) rfl (fun K hK => ?step12x0) ?more12x0
            case more12x0 => exact AllE.nil
            go_simp
            refine hK.out _ _ ?hS12x0 (fun hHeld12 => ?rest12x0)
            case hS12x0 => first | (intro h; exact absurd h (by decide)) | (intro h; simp at h)
            clear hK K
            clear hHeld10
            refine AnyE.done (by kernel_rfl) ?_ _
            clear hHeld12
            have HS := Lib.hid ((HL.out.to (W' := wr.drew) (by with_reducible repeat (first | exact Ext.refl _ | assumption | refine Ext.drew ?_ | refine Ext.drewN ?_ _ | refine Ext.alloc ?_ _))).push hg9 ⟨x, Bp, dp⟩ HPP.out hown2)
            go_wp2_with fail
            go_roundw
            case rel => exact ⟨i + 1, _, _, by go_num, by omega, HNX.out, HS.out⟩
            case measure => simp [intOf]; omega
        · have HF := Lib.hid (show H.map EH.e = g.edges.filter (ofT typ) by rw [hH, List.take_of_length_le (by omega)])
          have hfl : (g.edges.filter (ofT typ)).length ≤ 140737488355328 := Nat.le_trans (List.length_filter_le _ _) (by omega)
          obtain ⟨B9, d9, hv9, hd9, hG9⟩ := HL.out.graph (SliceR.mono (HN0.out w4 hE4) (fun _ _ _ _ hx => NodeC.keep (fun _ _ _ _ h => h) (fun _ _ => trivial) hx)) HF.out hfl
          subst hv9
          have m0 := HL.out.c0
          have m1 := HL.out.c1
          have m2 := HL.out.c2
          have m3 := HL.out.c3
          have hEr := hE4.trans HL.out.ext
          replace k0 := HL.out.ext.cell k0
          replace k1 := e1
          replace k2 := HL.out.ext.cell k2
          replace k3 := HL.out.ext.cell k3
          replace p0 := HL.out.ext.cell p0
          replace p1 := HL.out.ext.cell p1
          have HG9 := Lib.hid hG9
          clear hG9 HF hH HL HN0 HE0 e1 hE4
          generalize g.edges.filter (ofT typ) = E' at *
          have HR1 := Lib.hid (fun W T e' (x : Ext w W) (ht : Strs W (fun _ => True) T [typ]) => rk_Run g [typ] damp k ok (fun _ => True) A B T c d e' W (hZ.out.ext x) (HGA.out.ext x) ht)
          have HR2 := Lib.hid (fun W (x : Ext w W) (y : Ext wr W) => rk_Run { g with edges := E' } [] damp k (fun _ => True) (fun _ => True) A B9 none c d9 0 W (hZ.out.ext x) (HG9.out.ext y) (SliceR.nil _ _ _))
          rw [hRL] at HR2
          clear hRL HGA HG9
          generalize runP g [typ] damp k = P at *
          simp only [List.length_singleton, List.length_nil] at HR1 HR2
          have z0 := ((Ext.refl wr).alloc (.cells #[.string typ] 9)).cell p0
          have z1 := ((Ext.refl wr).alloc (.cells #[.string typ] 9)).cell p1
          go_upto_region 11 with ((go_at_call 13; ((with_reducible refine (HR1.out _ (some ⟨wr.heap.size, 0, none⟩) 1 (hEr.trans (by with_reducible repeat (first | exact Ext.refl _ | assumption | refine Ext.drew ?_ | refine Ext.drewN ?_ _ | refine Ext.alloc ?_ _))) (strs_one wr typ _)).mono ?_); rintro e w6 ⟨⟨A6, c6, rfl, hc6, hS6⟩, hx6⟩; replace hx6 : Ext wr w6 := Ext.trans (by with_reducible repeat (first | exact Ext.refl _ | assumption | refine Ext.drew ?_ | refine Ext.drewN ?_ _ | refine Ext.alloc ?_ _)) hx6; replace m0 := hx6.cell m0; replace m1 := hx6.cell m1; replace m2 := hx6.cell m2; replace m3 := hx6.cell m3; replace p0 := hx6.cell p0; replace p1 := hx6.cell p1)))
          clear k0 k1 k2 k3 z0 z1
          go_upto_region 12 with ((go_at_call 13; ((with_reducible refine (HR2.out _ (hEr.trans hx6) hx6).mono ?_); rintro e w7 ⟨⟨A7, c7, rfl, hc7, hS7⟩, hx7⟩; skip)))
          have hE7 := hEr.trans (hx6.trans hx7)
          have HSM := Lib.hid (same_self P.1 _ _ A6 A7 c6 c7 w7 (hS6.ext hx7) hS7)
          clear hS6 hS7 HR1 HR2 hx6 hx7 m0 m1 m2 m3 p0 p1
          go_wp2_with (first | (go_at_call 21; ((with_reducible refine (HSM.out).mono ?_); rintro e w8 ⟨rfl, hx8⟩; skip)) | (go_at_call 7; ((with_reducible refine (HAL.out _ (hE7.trans (by with_reducible repeat (first | exact Ext.refl _ | assumption | refine Ext.drew ?_ | refine Ext.drewN ?_ _ | refine Ext.alloc ?_ _)))).mono ?_); rintro e w9 ⟨rfl, hx9⟩; skip)))
          go_ret
          exact ⟨rfl, hE7.trans (hx8.trans hx9)⟩
    · have hcz : (chkG g != 0) = true := bne_iff_ne.2 hc0
      generalize chkG g = zc at *
      clear hfw hw2 hq hg hs hc0
      go_enter Tryd.func6, Tryd.ntmps6
      go_upto_region 1 with (fail)
      rw [← HW.out, ← HG.out]
      clear HW HG
      go_wp2_with (first | (go_at_call 12; ((with_reducible refine (HFW.out _).mono ?_); rintro e w3 ⟨rfl, hx3⟩; have k0 := hx3.cell g0; have k1 := hx3.cell g1; have k2 := hx3.cell g2; have k3 := hx3.cell g3; have p0 := hx3.cell d0; have p1 := hx3.cell d1)) | (go_at_call 17; ((with_reducible refine (HCK.out _ (hx2.trans hx3)).mono ?_); rintro e w4 ⟨rfl, hx4⟩; replace k0 := hx4.cell k0; replace k1 := hx4.cell k1; replace k2 := hx4.cell k2; replace k3 := hx4.cell k3; replace p0 := hx4.cell p0; replace p1 := hx4.cell p1)) | (go_at_call 7; ((with_reducible refine (HAL.out _ (hx2.trans (hx3.trans hx4))).mono ?_); rintro e w9 ⟨rfl, hx9⟩; skip)))
      go_ret
      exact ⟨rfl, (hx2.trans (hx3.trans hx4)).trans hx9⟩
end Go.Proofs.YtlkpmbkmmfoakaaDoor
