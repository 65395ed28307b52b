/- PARTS OF THE WALKS, joined: PtW. -/
import Derived.Test.YtigmdddeplnciaaGreatDoorWIs00
/- THE LAW PathsIs. -/
namespace Go.Proofs.YtigmdddeplnciaaGreatDoor
open Go.RowKit
set_option maxRecDepth 100000 in
set_option maxHeartbeats 6400000 in
theorem l_PathsIs (g : GraphG) (types : List ByteArray) (fr tn dir mode mn mx : Int) (ok ok' : Nat → Prop) (A B T : Option Addr) (c d e : Nat) (p : Val) (ok2 : Nat → Prop) (Q : Option Addr) (qc : Nat) (w : World) (hz : ZeroAt w) (hg : GraphAt w ok A B g) (hcap : ∀ x ∈ g.nodes, capN x) (hsz : SzG g) (ht : Strs w ok' T types) (hv : Vals w ok2 Q p.l) (hsv : szV p) :
  Calls Tryz.prog 4 #[.agg #[.slice A g.nodes.length c, .slice B g.edges.length d, .int .i64 g.nn, .int .i64 g.ne, .int .i64 fr, .int .i64 tn, .int .i64 dir, .int .i64 mode, .int .i64 mn, .int .i64 mx, .slice T types.length e], .agg #[.int .i64 p.kind, .int .i64 p.n, .int .i64 p.d, .string p.s, .slice Q p.l.length qc]] w fun r w' => r = .returned (.bool true) ∧ Ext w w' := by
 obtain ⟨q, w1, hq, hw1, hac, hvc, hx⟩ : ∃ (q : Nat) (w1 : World), q = w.heap.size ∧ w1 = (w.alloc (.cells #[.slice A g.nodes.length c, .slice B g.edges.length d, .int .i64 g.nn, .int .i64 g.ne, .int .i64 fr, .int .i64 tn, .int .i64 dir, .int .i64 mode, .int .i64 mn, .int .i64 mx, .slice T types.length e] 28)).alloc (.cells #[.int .i64 p.kind, .int .i64 p.n, .int .i64 p.d, .string p.s, .slice Q p.l.length qc] 37) ∧ (w1.cell? ⟨q, 0, none⟩ = some (.slice A g.nodes.length c) ∧ w1.cell? ⟨q, 1, none⟩ = some (.slice B g.edges.length d) ∧ w1.cell? ⟨q, 2, none⟩ = some (.int .i64 g.nn) ∧ w1.cell? ⟨q, 3, none⟩ = some (.int .i64 g.ne) ∧ w1.cell? ⟨q, 4, none⟩ = some (.int .i64 fr) ∧ w1.cell? ⟨q, 5, none⟩ = some (.int .i64 tn) ∧ w1.cell? ⟨q, 6, none⟩ = some (.int .i64 dir) ∧ w1.cell? ⟨q, 7, none⟩ = some (.int .i64 mode) ∧ w1.cell? ⟨q, 8, none⟩ = some (.int .i64 mn) ∧ w1.cell? ⟨q, 9, none⟩ = some (.int .i64 mx) ∧ w1.cell? ⟨q, 10, none⟩ = some (.slice T types.length e)) ∧ (w1.cell? ⟨q + 1, 0, none⟩ = some (.int .i64 p.kind) ∧ w1.cell? ⟨q + 1, 1, none⟩ = some (.int .i64 p.n) ∧ w1.cell? ⟨q + 1, 2, none⟩ = some (.int .i64 p.d) ∧ w1.cell? ⟨q + 1, 3, none⟩ = some (.string p.s) ∧ w1.cell? ⟨q + 1, 4, none⟩ = some (.slice Q p.l.length qc)) ∧ Ext w w1 :=
  ⟨_, _, rfl, rfl, ⟨by go_simp, by go_simp, by go_simp, by go_simp, by go_simp, by go_simp, by go_simp, by go_simp, by go_simp, by go_simp, by go_simp⟩, ⟨by go_simp, by go_simp, by go_simp, by go_simp, by go_simp⟩, (by solve_by_elim [X0, X1, X2, X3])⟩
 have HW1 := Lib.hid hw1
 have HQ := Lib.hid hq
 have HX := Lib.hid hx
 have HLV := Lib.hid (fun W (e' : Ext w1 W) => l_lives W (hz.ext (hx.trans e')))
 have HI1 := Lib.hid (fun W (e' : Ext w1 W) => p_Is g p types dir mode ok ok' ok2 A B T Q c d e qc W (hg.ext (hx.trans e')) hcap (ht.ext (hx.trans e')) (hv.ext (hx.trans e')))
 have HI2 := Lib.hid (fun W (e' : Ext w1 W) => r24_Is g p types dir mode ok ok' ok2 A B T Q c d e qc W (hg.ext (hx.trans e')) hsz (ht.ext (hx.trans e')) (hv.ext (hx.trans e')) hsv)
 have HH1 := Lib.hid (fun W (e' : Ext w1 W) => p_Hops p ok2 Q qc W (hv.ext (hx.trans e')))
 have HH2 := Lib.hid (fun W (e' : Ext w1 W) => r24_Hops p ok2 Q qc W (hv.ext (hx.trans e')) hsv)
 unfold agV at HI1 HI2 HH1 HH2
 have MK := Lib.hid (fun V (e' : Ext w1 V) => (⟨⟨e'.cell hac.1, e'.cell hac.2.1, e'.cell hac.2.2.1, e'.cell hac.2.2.2.1, e'.cell hac.2.2.2.2.1, e'.cell hac.2.2.2.2.2.1, e'.cell hac.2.2.2.2.2.2.1, e'.cell hac.2.2.2.2.2.2.2.1, e'.cell hac.2.2.2.2.2.2.2.2.1, e'.cell hac.2.2.2.2.2.2.2.2.2.1, e'.cell hac.2.2.2.2.2.2.2.2.2.2⟩, e'.cell hvc.1, e'.cell hvc.2.1, e'.cell hvc.2.2.1, e'.cell hvc.2.2.2.1, e'.cell hvc.2.2.2.2⟩ : (V.cell? ⟨q, 0, none⟩ = some (.slice A g.nodes.length c) ∧ V.cell? ⟨q, 1, none⟩ = some (.slice B g.edges.length d) ∧ V.cell? ⟨q, 2, none⟩ = some (.int .i64 g.nn) ∧ V.cell? ⟨q, 3, none⟩ = some (.int .i64 g.ne) ∧ V.cell? ⟨q, 4, none⟩ = some (.int .i64 fr) ∧ V.cell? ⟨q, 5, none⟩ = some (.int .i64 tn) ∧ V.cell? ⟨q, 6, none⟩ = some (.int .i64 dir) ∧ V.cell? ⟨q, 7, none⟩ = some (.int .i64 mode) ∧ V.cell? ⟨q, 8, none⟩ = some (.int .i64 mn) ∧ V.cell? ⟨q, 9, none⟩ = some (.int .i64 mx) ∧ V.cell? ⟨q, 10, none⟩ = some (.slice T types.length e)) ∧ (V.cell? ⟨q + 1, 0, none⟩ = some (.int .i64 p.kind) ∧ V.cell? ⟨q + 1, 1, none⟩ = some (.int .i64 p.n) ∧ V.cell? ⟨q + 1, 2, none⟩ = some (.int .i64 p.d) ∧ V.cell? ⟨q + 1, 3, none⟩ = some (.string p.s) ∧ V.cell? ⟨q + 1, 4, none⟩ = some (.slice Q p.l.length qc))))
 have hnl := hg.nodes.len
 have hel := hg.edges.len
 obtain ⟨a0, a1, -⟩ := hac
 clear hw1 hq hz hg hcap hsz ht hx hv hsv hvc
 generalize isP g types dir mode p = IP at *
 generalize hopsV p = HP at *
 go_enter Tryz.func4, Tryz.ntmps4
 go_upto_region 1 with (fail)
 rw [← HW1.out, ← HQ.out]
 clear HW1 HQ
 by_cases h1 : 40 < g.nodes.length
 ·clear HI1 HI2 HH1 HH2
  go_wp2_with (go_at_call 9; ((with_reducible refine (HLV.out _ (Ext.refl _)).mono ?_); rintro r w3 ⟨rfl, hx3⟩))
  go_ret
  exact ⟨rfl, HX.out.trans hx3⟩
 by_cases h2 : 40 < g.edges.length
 ·clear HI1 HI2 HH1 HH2
  go_wp2_with (go_at_call 9; ((with_reducible refine (HLV.out _ (Ext.refl _)).mono ?_); rintro r w3 ⟨rfl, hx3⟩))
  go_ret
  exact ⟨rfl, HX.out.trans hx3⟩
 go_upto_region 3 with (fail)
 clear a0 a1 h1 h2
 refine wp_region_held_drew (S := (fun V => (V.cell? ⟨q, 0, none⟩ = some (.slice A g.nodes.length c) ∧ V.cell? ⟨q, 1, none⟩ = some (.slice B g.edges.length d) ∧ V.cell? ⟨q, 2, none⟩ = some (.int .i64 g.nn) ∧ V.cell? ⟨q, 3, none⟩ = some (.int .i64 g.ne) ∧ V.cell? ⟨q, 4, none⟩ = some (.int .i64 fr) ∧ V.cell? ⟨q, 5, none⟩ = some (.int .i64 tn) ∧ V.cell? ⟨q, 6, none⟩ = some (.int .i64 dir) ∧ V.cell? ⟨q, 7, none⟩ = some (.int .i64 mode) ∧ V.cell? ⟨q, 8, none⟩ = some (.int .i64 mn) ∧ V.cell? ⟨q, 9, none⟩ = some (.int .i64 mx) ∧ V.cell? ⟨q, 10, none⟩ = some (.slice T types.length e)) ∧ (V.cell? ⟨q + 1, 0, none⟩ = some (.int .i64 p.kind) ∧ V.cell? ⟨q + 1, 1, none⟩ = some (.int .i64 p.n) ∧ V.cell? ⟨q + 1, 2, none⟩ = some (.int .i64 p.d) ∧ V.cell? ⟨q + 1, 3, none⟩ = some (.string p.s) ∧ V.cell? ⟨q + 1, 4, none⟩ = some (.slice Q p.l.length qc)))) (by kernel_rfl) ?hs18001 (fun hHeld => ?go18001)
 case hs18001 => (exact MK.out _ (by solve_by_elim [X0, X1, X2, X3]))
 refine TK 0 (v := ?v18002) hHeld ?hy18002 ?_
 case hy18002 => (intro w _; go_simp <;> rfl)
 (try simp only [PU])
 refine TK 1 (v := ?v18003) hHeld ?hy18003 ?_
 case hy18003 => (intro w hSw; (try dsimp only at hSw); go_simp <;> first | with_reducible rfl | rw [if_neg (by omega)] | rw [if_pos (by omega)])
 (try simp only [PU])
 refine TK 2 (v := ?v18004) hHeld ?hy18004 ?_
 case hy18004 => (intro w hSw; (try dsimp only at hSw); go_simp <;> first | with_reducible rfl | rw [if_neg (by omega)] | rw [if_pos (by omega)])
 (try simp only [PU])
 refine TK 3 (v := ?v18005) hHeld ?hy18005 ?_
 case hy18005 => (intro w _; go_simp <;> rfl)
 (try simp only [PU])
 refine TK 4 (v := ?v18006) hHeld ?hy18006 ?_
 case hy18006 => (intro w hSw; (try dsimp only at hSw); go_simp <;> first | with_reducible rfl | rw [if_neg (by omega)] | rw [if_pos (by omega)])
 (try simp only [PU])
 refine TK 5 (v := ?v18007) hHeld ?hy18007 ?_
 case hy18007 => (intro w _; go_simp <;> rfl)
 (try simp only [PU])
 refine TK 6 (v := ?v18008) hHeld ?hy18008 ?_
 case hy18008 => (intro w hSw; (try dsimp only at hSw); go_simp <;> first | with_reducible rfl | rw [if_neg (by omega)] | rw [if_pos (by omega)])
 (try simp only [PU])
 refine TK 7 (v := ?v18009) hHeld ?hy18009 ?_
 case hy18009 => (intro w _; go_simp <;> rfl)
 (try simp only [PU])
 refine TK 8 (v := ?v18010) hHeld ?hy18010 ?_
 case hy18010 => (intro w hSw; (try dsimp only at hSw); go_simp <;> first | with_reducible rfl | rw [if_neg (by omega)] | rw [if_pos (by omega)])
 (try simp only [PU])
 refine TK 10 (v := ?v18011) hHeld ?hy18011 ?_
 case hy18011 => (intro w _; go_simp <;> rfl)
 (try simp only [PU])
 refine TK 11 (v := ?v18012) hHeld ?hy18012 ?_
 case hy18012 => (intro w hSw; (try dsimp only at hSw); go_simp <;> first | with_reducible rfl | rw [if_neg (by omega)] | rw [if_pos (by omega)])
 (try simp only [PU])
 refine TK 12 (v := ?v18013) hHeld ?hy18013 ?_
 case hy18013 => (intro w hSw; (try dsimp only at hSw); go_simp <;> first | with_reducible rfl | rw [if_neg (by omega)] | rw [if_pos (by omega)])
 (try simp only [PU])
 refine TK 13 (v := ?v18014) hHeld ?hy18014 ?_
 case hy18014 => (intro w _; go_simp <;> rfl)
 (try simp only [PU])
 refine TK 14 (v := ?v18015) hHeld ?hy18015 ?_
 case hy18015 => (intro w hSw; (try dsimp only at hSw); go_simp <;> first | with_reducible rfl | rw [if_neg (by omega)] | rw [if_pos (by omega)])
 (try simp only [PU])
 refine TK 15 (v := ?v18016) hHeld ?hy18016 ?_
 case hy18016 => (intro w _; go_simp <;> rfl)
 (try simp only [PU])
 refine TK 16 (v := ?v18017) hHeld ?hy18017 ?_
 case hy18017 => (intro w hSw; (try dsimp only at hSw); go_simp <;> first | with_reducible rfl | rw [if_neg (by omega)] | rw [if_pos (by omega)])
 (try simp only [PU])
 refine TK 17 (v := ?v18018) hHeld ?hy18018 ?_
 case hy18018 => (intro w _; go_simp <;> rfl)
 (try simp only [PU])
 refine TK 18 (v := ?v18019) hHeld ?hy18019 ?_
 case hy18019 => (intro w hSw; (try dsimp only at hSw); go_simp <;> first | with_reducible rfl | rw [if_neg (by omega)] | rw [if_pos (by omega)])
 (try simp only [PU])
 refine wpAnyH_ready (rs := [9]) (by kernel_rfl) (by simp) ?_
 refine AllReadyH.cons (o := ⟨_, _, _, _, _, _⟩) rfl (fun K hK => ?step18020x0) ?more18020x0
 case more18020x0 => exact AllReadyH.nil
 go_simp
 (with_reducible refine (HI1.out _ (by solve_by_elim [X0, X1, X2, X3])).mono ?_; rintro r v9 ⟨rfl, hy9⟩; replace hy9 : Ext w1 v9 := Ext.trans (by solve_by_elim [X0, X1, X2, X3]) hy9)
 refine hK.out _ _ ?hS18020x0 (fun H18020 => ?_)
 case hS18020x0 => first | (exact MK.out _ (by solve_by_elim [X0, X1, X2, X3])) | ((try dsimp only); (exact MK.out _ (by solve_by_elim [X0, X1, X2, X3])))
 clear hK K
 clear hHeld
 (try simp only [PU])
 refine wpAnyH_ready (rs := [19]) (by kernel_rfl) (by simp) ?_
 refine AllReadyH.cons (o := ⟨_, _, _, _, _, _⟩) rfl (fun K hK => ?step18021x0) ?more18021x0
 case more18021x0 => exact AllReadyH.nil
 go_simp
 (with_reducible refine (HI2.out _ (by solve_by_elim [X0, X1, X2, X3])).mono ?_; rintro r v19 ⟨rfl, hy19⟩; replace hy19 : Ext w1 v19 := Ext.trans (by solve_by_elim [X0, X1, X2, X3]) hy19)
 refine hK.out _ _ ?hS18021x0 (fun H18021 => ?_)
 case hS18021x0 => first | (exact MK.out _ (by solve_by_elim [X0, X1, X2, X3])) | ((try dsimp only); (exact MK.out _ (by solve_by_elim [X0, X1, X2, X3])))
 clear hK K
 clear H18020
 (try simp only [PU])
 refine TK 20 (v := ?v18022) H18021 ?hy18022 ?_
 case hy18022 => (intro w _; go_simp <;> first | with_reducible rfl | rw [if_neg (by omega)] | rw [if_pos (by omega)])
 (try simp only [PU])
 refine TK 21 (v := ?v18023) H18021 ?hy18023 ?_
 case hy18023 => (intro w _; go_simp <;> rfl)
 (try simp only [PU])
 refine TK 22 (v := ?v18024) H18021 ?hy18024 ?_
 case hy18024 => (intro w hSw; (try dsimp only at hSw); go_simp <;> first | with_reducible rfl | rw [if_neg (by omega)] | rw [if_pos (by omega)])
 (try simp only [PU])
 refine TK 24 (v := ?v18025) H18021 ?hy18025 ?_
 case hy18025 => (intro w hSw; (try dsimp only at hSw); go_simp <;> first | with_reducible rfl | rw [if_neg (by omega)] | rw [if_pos (by omega)])
 (try simp only [PU])
 refine wpAnyH_ready (rs := [23]) (by kernel_rfl) (by simp) ?_
 refine AllReadyH.cons (o := ⟨_, _, _, _, _, _⟩) rfl (fun K hK => ?step18026x0) ?more18026x0
 case more18026x0 => exact AllReadyH.nil
 go_simp
 (with_reducible refine (HH1.out _ (by solve_by_elim [X0, X1, X2, X3])).mono ?_; rintro r v23 ⟨rfl, hy23⟩; replace hy23 : Ext w1 v23 := Ext.trans (by solve_by_elim [X0, X1, X2, X3]) hy23)
 refine hK.out _ _ ?hS18026x0 (fun H18026 => ?_)
 case hS18026x0 => first | (exact MK.out _ (by solve_by_elim [X0, X1, X2, X3])) | ((try dsimp only); (exact MK.out _ (by solve_by_elim [X0, X1, X2, X3])))
 clear hK K
 clear H18021
 (try simp only [PU])
 refine wpAnyH_ready (rs := [25]) (by kernel_rfl) (by simp) ?_
 refine AllReadyH.cons (o := ⟨_, _, _, _, _, _⟩) rfl (fun K hK => ?step18027x0) ?more18027x0
 case more18027x0 => exact AllReadyH.nil
 go_simp
 (with_reducible refine (HH2.out _ (by solve_by_elim [X0, X1, X2, X3])).mono ?_; rintro r v25 ⟨rfl, hy25⟩; replace hy25 : Ext w1 v25 := Ext.trans (by solve_by_elim [X0, X1, X2, X3]) hy25)
 refine hK.out _ _ ?hS18027x0 (fun H18027 => ?_)
 case hS18027x0 => first | (exact MK.out _ (by solve_by_elim [X0, X1, X2, X3])) | ((try dsimp only); (exact MK.out _ (by solve_by_elim [X0, X1, X2, X3])))
 clear hK K
 clear H18026
 (try simp only [PU])
 refine TK 26 (v := ?v18028) H18027 ?hy18028 ?_
 case hy18028 => (intro w _; go_simp <;> first | with_reducible rfl | rw [if_neg (by omega)] | rw [if_pos (by omega)])
 (try simp only [PU])
 refine TK 27 (v := ?v18029) H18027 ?hy18029 ?_
 case hy18029 => (intro w _; go_simp <;> rfl)
 (try simp only [PU])
 refine TK 28 (v := ?v18030) H18027 ?hy18030 ?_
 case hy18030 => (intro w _; go_simp <;> rfl)
 (try simp only [PU])
 refine wpAnyH_ready (rs := [29]) (by kernel_rfl) (by simp) ?_
 refine AllReadyH.cons (o := ⟨_, _, _, _, _, _⟩) rfl (fun K hK => ?step18031x0) ?more18031x0
 case more18031x0 => exact AllReadyH.nil
 go_simp
 (with_reducible refine (HLV.out _ (by solve_by_elim [X0, X1, X2, X3])).mono ?_; rintro r v29 ⟨rfl, hy29⟩; replace hy29 : Ext w1 v29 := Ext.trans (by solve_by_elim [X0, X1, X2, X3]) hy29)
 refine hK.out _ _ ?hS18031x0 (fun H18031 => ?_)
 case hS18031x0 => first | (exact MK.out _ (by solve_by_elim [X0, X1, X2, X3])) | ((try dsimp only); (exact MK.out _ (by solve_by_elim [X0, X1, X2, X3])))
 clear hK K
 clear H18027
 (try simp only [PU])
 refine TK 30 (v := ?v18032) H18031 ?hy18032 ?_
 case hy18032 => (intro w _; go_simp <;> rfl)
 (try simp only [PU])
 refine TK 31 (v := ?v18033) H18031 ?hy18033 ?_
 case hy18033 => (intro w _; go_simp <;> first | with_reducible rfl | rw [if_neg (by omega)] | rw [if_pos (by omega)])
 (try simp only [PU])
 refine wpAnyH_done (by kernel_rfl) ?_ _
 clear H18031
 go_wp2_with fail
 go_ret
 exact ⟨rfl, HX.out.trans (by solve_by_elim [X0, X1, X2, X3])⟩
end Go.Proofs.YtigmdddeplnciaaGreatDoor
