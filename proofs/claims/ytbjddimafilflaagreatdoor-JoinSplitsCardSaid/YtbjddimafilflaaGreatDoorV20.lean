/- PARTS OF THE WALKS, joined: Lb, Lc, JLaid, PlainK. -/
import Derived.Test.YtbjddimafilflaaGreatDoorV19
import Derived.Test.YtbjddimafilflaaGreatDoorCards
import Derived.Test.YtbjddimafilflaaGreatDoorTie
import Derived.ProofKit
import Derived.Deep.Fields
import Derived.OpenShut
import Derived.LaidMore
import Derived.Deep.DeepHandedRow
import Derived.Deep.DeepWitnessRowRef
import Derived.SizedLaws
import Derived.Deep.Slices
import Derived.Lib.SmallJoins
import Derived.Lay
import Derived.Carry
import Derived.MakeChecks
/- THE WALK over the law's alive. -/
namespace Go.Proofs.YtbjddimafilflaaGreatDoor
open Go.RowKit Go.Sort
theorem sz_N : ∀ r ∈ ([[numV 1, numV 2, numV 5], [numV 1, numV 2, numV 6]] : List (List Val)), szL r := fun r hr => szL_of (fun v hv => by
  simp only [List.mem_cons, List.not_mem_nil, or_false] at hr
  rcases hr with rfl | rfl <;> (simp only [List.mem_cons, List.not_mem_nil, or_false] at hv; rcases hv with rfl | rfl | rfl <;> exact szV_iff.2 ⟨by decide, trivial⟩))
set_option maxRecDepth 100000 in
set_option maxHeartbeats 6400000 in
theorem l_alive (w : World) (hz : ZeroAt w) : Calls Tryz.prog 11 #[] w fun e w' => e = .returned (.bool true) ∧ Ext w w' := by
  have HN := Lib.hid (fun n W => l_num n W)
  have HZ := Lib.hid hz
  clear hz
  go_enter Tryz.func11, Tryz.ntmps11
  go_wp2_with fail
  obtain ⟨gs, W1, hgs, hW1, vgs, xW1⟩ := strs_lit w [xS, yS] (by decide)
  change W1 = w.alloc (.cells #[.string ⟨#[120]⟩, .string ⟨#[121]⟩] 9) at hW1
  rw [← hW1, ← hgs]
  clear hgs hW1
  refine (HN.out 1 W1).mono ?_
  rintro e W2 ⟨rfl, xW2⟩
  go_wp2_with fail
  refine (HN.out 2 W2).mono ?_
  rintro e W3 ⟨rfl, xW3⟩
  go_wp2_with fail
  obtain ⟨ga, W4, hga, hW4, vga, xW4⟩ := row_lit W3 [1, 2] (by decide)
  change W4 = W3.alloc (.cells #[.int .i64 2, .int .i64 1, .int .i64 0, .string ByteArray.empty, .slice none 0 0, .int .i64 2, .int .i64 2, .int .i64 0, .string ByteArray.empty, .slice none 0 0] 40) at hW4
  rw [← hW4, ← hga]
  clear hga hW4
  refine (HN.out 1 W4).mono ?_
  rintro e W5 ⟨rfl, xW5⟩
  go_wp2_with fail
  refine (HN.out 3 W5).mono ?_
  rintro e W6 ⟨rfl, xW6⟩
  go_wp2_with fail
  obtain ⟨gb1, V1a, hgb1, hV1a, vgb1, xV1a⟩ := row_lit W6 [1, 3] (by decide)
  change V1a = W6.alloc (.cells #[.int .i64 2, .int .i64 1, .int .i64 0, .string ByteArray.empty, .slice none 0 0, .int .i64 2, .int .i64 3, .int .i64 0, .string ByteArray.empty, .slice none 0 0] 40) at hV1a
  obtain ⟨gc1, V1b, hgc1, hV1b, vgc1, xV1b⟩ := rows_lit V1a (some ⟨ga, 0, none⟩) (some ⟨gb1, 0, none⟩) 2 2 [numV 1, numV 2] [numV 1, numV 3] (vga.ext (xW5.trans (xW6.trans xV1a))) (vgb1) (by decide) (by decide)
  change V1b = V1a.alloc (.cells #[.slice (some ⟨ga, 0, none⟩) 2 2, .slice (some ⟨gb1, 0, none⟩) 2 2] 37) at hV1b
  obtain ⟨gd1, V1c, hgd1, hV1c, gd10, gd11, xV1c⟩ := box_tab V1b (some ⟨gs, 0, none⟩) (some ⟨gc1, 0, none⟩) 2 2 2 2 25
  have egc1 : gc1 = W6.heap.size + 1 := by rw [hgc1, hV1a]; simp
  have egd1 : gd1 = W6.heap.size + 1 + 1 := by rw [hgd1, hV1b]; simp; rw [hV1a]; simp
  obtain ⟨ge, W10, hge, hW10, vge, xW10⟩ := strs_lit V1c [yS, zS] (by decide)
  change W10 = V1c.alloc (.cells #[.string ⟨#[121]⟩, .string ⟨#[122]⟩] 9) at hW10
  have ege : ge = W6.heap.size + 1 + 1 + 1 := by rw [hge, hV1c]; simp; rw [hV1b]; simp; rw [hV1a]; simp
  rw [← hgb1] at egc1 egd1 ege ⊢
  rw [← ege, ← egd1, ← egc1, ← hV1a, ← hV1b, ← hV1c, ← hW10]
  have HTA := Lib.hid (show TabAt W10 (fun _ => True) (some ⟨gs, 0, none⟩) (some ⟨gc1, 0, none⟩) tA from ⟨vgs.ext (xW2.trans (xW3.trans (xW4.trans (xW5.trans (xW6.trans (xV1a.trans (xV1b.trans (xV1c.trans xW10)))))))), vgc1.ext (xV1c.trans xW10)⟩)
  have xA : Ext w W10 := xW1.trans (xW2.trans (xW3.trans (xW4.trans (xW5.trans (xW6.trans (xV1a.trans (xV1b.trans (xV1c.trans xW10))))))))
  replace gd10 := xW10.cell gd10
  replace gd11 := xW10.cell gd11
  clear hgb1 hV1a hgc1 hV1b hgd1 hV1c hge hW10 egc1 egd1 ege vga vgb1 vgc1 vgs xW1 xW2 xW3 xW4 xW5 xW6 xV1a xV1b xV1c xW10
  refine (HN.out 2 W10).mono ?_
  rintro e W11 ⟨rfl, xW11⟩
  go_wp2_with fail
  refine (HN.out 5 W11).mono ?_
  rintro e W12 ⟨rfl, xW12⟩
  go_wp2_with fail
  obtain ⟨ga2, W13, hga2, hW13, vga2, xW13⟩ := row_lit W12 [2, 5] (by decide)
  change W13 = W12.alloc (.cells #[.int .i64 2, .int .i64 2, .int .i64 0, .string ByteArray.empty, .slice none 0 0, .int .i64 2, .int .i64 5, .int .i64 0, .string ByteArray.empty, .slice none 0 0] 40) at hW13
  rw [← hW13, ← hga2]
  clear hga2 hW13
  refine (HN.out 2 W13).mono ?_
  rintro e W14 ⟨rfl, xW14⟩
  go_wp2_with fail
  refine (HN.out 6 W14).mono ?_
  rintro e W15 ⟨rfl, xW15⟩
  go_upto_region 3 with (fail)
  obtain ⟨gb2, V2a, hgb2, hV2a, vgb2, xV2a⟩ := row_lit W15 [2, 6] (by decide)
  change V2a = W15.alloc (.cells #[.int .i64 2, .int .i64 2, .int .i64 0, .string ByteArray.empty, .slice none 0 0, .int .i64 2, .int .i64 6, .int .i64 0, .string ByteArray.empty, .slice none 0 0] 40) at hV2a
  obtain ⟨gc2, V2b, hgc2, hV2b, vgc2, xV2b⟩ := rows_lit V2a (some ⟨ga2, 0, none⟩) (some ⟨gb2, 0, none⟩) 2 2 [numV 2, numV 5] [numV 2, numV 6] (vga2.ext (xW14.trans (xW15.trans xV2a))) (vgb2) (by decide) (by decide)
  change V2b = V2a.alloc (.cells #[.slice (some ⟨ga2, 0, none⟩) 2 2, .slice (some ⟨gb2, 0, none⟩) 2 2] 37) at hV2b
  obtain ⟨gd2, V2c, hgd2, hV2c, gd20, gd21, xV2c⟩ := box_tab V2b (some ⟨ge, 0, none⟩) (some ⟨gc2, 0, none⟩) 2 2 2 2 25
  have egc2 : gc2 = W15.heap.size + 1 := by rw [hgc2, hV2a]; simp
  have egd2 : gd2 = W15.heap.size + 1 + 1 := by rw [hgd2, hV2b]; simp; rw [hV2a]; simp
  rw [← hgb2] at egc2 egd2 ⊢
  rw [← egd2, ← egc2, ← hV2a, ← hV2b, ← hV2c]
  have xB : Ext W10 V2c := xW11.trans (xW12.trans (xW13.trans (xW14.trans (xW15.trans (xV2a.trans (xV2b.trans xV2c))))))
  have HTB := Lib.hid (show TabAt V2c (fun _ => True) (some ⟨ge, 0, none⟩) (some ⟨gc2, 0, none⟩) tB from ⟨vge.ext xB, vgc2.ext xV2c⟩)
  replace gd10 := xB.cell gd10
  replace gd11 := xB.cell gd11
  have HTA2 := Lib.hid (HTA.out.ext xB)
  have xC := xA.trans xB
  clear HTA hgb2 hV2a hgc2 hV2b hgd2 hV2c egc2 egd2 vga2 vgb2 vgc2 vge xW11 xW12 xW13 xW14 xW15 xV2a xV2b xV2c xA xB
  have HNT := Lib.hid (j_Natural tA tB (fun _ => True) (fun _ => True) (some ⟨gs, 0, none⟩) (some ⟨ge, 0, none⟩) (some ⟨gc1, 0, none⟩) (some ⟨gc2, 0, none⟩) 2 2 2 2 V2c (HZ.out.ext xC) HTA2.out HTB.out fit_A fit_B cols_A cols_B)
  have HLF := Lib.hid (fun W (e : Ext V2c W) => j_Left tA tB (fun _ => True) (fun _ => True) (some ⟨gs, 0, none⟩) (some ⟨ge, 0, none⟩) (some ⟨gc1, 0, none⟩) (some ⟨gc2, 0, none⟩) 2 2 2 2 W (HZ.out.ext (xC.trans e)) (HTA2.out.ext e) (HTB.out.ext e) fit_A fit_B cols_A cols_B)
  rw [nat_AB, err_AB] at HNT
  rw [err_AB] at HLF
  have hs0 : gd1 < V2c.heap.size := block_lt_of_cell gd10
  go_wp2_with fail
  refine (HNT.out).mono ?_
  rintro e Wn ⟨A1, B1, c1, d1, rfl, hc1, hd1, hT1, hx1⟩
  clear HNT HTA2 HTB
  clear hs0
  replace gd10 := hx1.cell gd10
  replace gd11 := hx1.cell gd11
  replace gd20 := hx1.cell gd20
  replace gd21 := hx1.cell gd21
  have hs1 : gd1 < Wn.heap.size := block_lt_of_cell gd10
  have hs2 : gd2 < Wn.heap.size := block_lt_of_cell gd20
  go_wp2_with fail
  obtain ⟨gn, Wm, hgn, hWm, gn0, gn1, xWm⟩ := box_tab Wn A1 B1 3 c1 2 d1 25
  change Wm = Wn.alloc (.cells #[.slice A1 3 c1, .slice B1 2 d1] 25) at hWm
  rw [← hWm, ← hgn]
  refine (HLF.out Wm (hx1.trans xWm)).mono ?_
  rintro e Wl ⟨A2, B2, c2, d2, rfl, hc2, hd2, hT2, hx2⟩
  obtain ⟨n2, hn2⟩ : ∃ n, n = (leftT tA tB).cols.length := ⟨_, rfl⟩
  rw [← hn2, left_AB]
  clear hn2 HLF hgn hWm hc2 hd2 hT2
  go_upto_region 5 with (fail)
  obtain ⟨gl, W20, hgl, hW20, gl0, gl1, xW20⟩ := box_tab Wl A2 B2 n2 c2 3 d2 25
  rw [← hW20, ← hgl]
  have xD : Ext Wm W20 := hx2.trans xW20
  obtain ⟨bz, oz, e1, hcz⟩ := hT1.cols.2 (by decide)
  subst e1
  have cz := (hcz 2 (by decide)).2
  change Wn.cell? ⟨bz, oz + 2, none⟩ = some (.string ⟨#[122]⟩) at cz
  replace cz := (xWm.trans xD).cell cz
  replace gn0 := xD.cell gn0
  replace gn1 := xD.cell gn1
  have HR1 := Lib.hid (hT1.rows.ext (xWm.trans xD))
  have HSR := Lib.hid (fun W (e : Ext W20 W) g (h : Rows W (fun _ => True) (some ⟨g, 0, none⟩) [[numV 1, numV 2, numV 5], [numV 1, numV 2, numV 6]]) => r_SameRows [[numV 1, numV 2, numV 5], [numV 1, numV 2, numV 6]] _ _ (fun _ => True) B1 (some ⟨g, 0, none⟩) d1 2 W (HR1.out.ext e) h sz_N sz_N)
  rw [show decide (([[numV 1, numV 2, numV 5], [numV 1, numV 2, numV 6]] : List (List Val)) = [[numV 1, numV 2, numV 5], [numV 1, numV 2, numV 6]]) = true from by decide] at HSR
  have xE := xC.trans (hx1.trans (xWm.trans xD))
  clear hgl hW20 hcz hT1 hx1 hx2 xWm xW20 xD xC hc1 hd1 gd10 gd11 gd20 gd21 hs1 hs2
  have MKR := Lib.hid (fun V (e : Ext W20 V) => (⟨e.cell gn0, e.cell gn1, e.cell gl1, e.cell cz, e⟩ : V.cell? ⟨gn, 0, none⟩ = some (.slice (some ⟨bz, oz, none⟩) 3 c1) ∧ V.cell? ⟨gn, 1, none⟩ = some (.slice B1 2 d1) ∧ V.cell? ⟨gl, 1, none⟩ = some (.slice B2 3 d2) ∧ V.cell? ⟨bz, oz + 2, none⟩ = some (.string ⟨#[122]⟩) ∧ Ext W20 V))
  refine wp_region_held_drew (S := (fun V => V.cell? ⟨gn, 0, none⟩ = some (.slice (some ⟨bz, oz, none⟩) 3 c1) ∧ V.cell? ⟨gn, 1, none⟩ = some (.slice B1 2 d1) ∧ V.cell? ⟨gl, 1, none⟩ = some (.slice B2 3 d2) ∧ V.cell? ⟨bz, oz + 2, none⟩ = some (.string ⟨#[122]⟩) ∧ Ext W20 V)) (by kernel_rfl) ?hs1 (fun hHeld => ?go1)
  case hs1 => (exact MKR.out _ (by repeat (first | with_reducible exact Ext.refl _ | with_reducible assumption | with_reducible refine Ext.drew ?_ | with_reducible refine Ext.drewN ?_ _ | with_reducible refine Ext.alloc ?_ _)))
  refine wpAnyH_take (i := 0) (oi := ⟨(some 37), (.move (.tmp 4)), 27, "law.go:20", #[], none⟩) (v := ?v2) rfl (by kernel_rfl) (by kernel_rfl) (by kernel_rfl) (fun _ _ _ h => h) (Or.inl ⟨rfl, ?hy2⟩) hHeld ?rest2
  case hy2 => (intro w hSw; (try dsimp only at hSw); go_simp <;> first | with_reducible rfl | rw [if_neg (by omega)] | rw [if_pos (by omega)])
  (try simp only [Act.put]); (try simp only [List.setIfInBounds_toArray]); (try simp only [List.set_cons_succ]); (try simp only [List.set_cons_zero])
  refine wpAnyH_take (i := 1) (oi := ⟨(some 38), (.binOp .eql 27 (.tmp 37) (.const (.int .i64 0)) 27), 4, "law.go:20", #[⟨0, .data⟩], none⟩) (v := ?v3) rfl (by kernel_rfl) (by kernel_rfl) (by kernel_rfl) (fun _ _ _ h => h) (Or.inl ⟨rfl, ?hy3⟩) hHeld ?rest3
  case hy3 => (intro w hSw; (try dsimp only at hSw); go_simp <;> first | with_reducible rfl | rw [if_neg (by omega)] | rw [if_pos (by omega)])
  (try simp only [Act.put]); (try simp only [List.setIfInBounds_toArray]); (try simp only [List.set_cons_succ]); (try simp only [List.set_cons_zero])
  refine wpAnyH_take (i := 2) (oi := ⟨(some 39), (.move (.tmp 38)), 4, "law.go:20", #[⟨1, .data⟩], none⟩) (v := ?v4) rfl (by kernel_rfl) (by kernel_rfl) (by kernel_rfl) (fun _ _ _ h => h) (Or.inl ⟨rfl, ?hy4⟩) hHeld ?rest4
  case hy4 => (intro w hSw; (try dsimp only at hSw); go_simp <;> first | with_reducible rfl | rw [if_neg (by omega)] | rw [if_pos (by omega)])
  (try simp only [Act.put]); (try simp only [List.setIfInBounds_toArray]); (try simp only [List.set_cons_succ]); (try simp only [List.set_cons_zero])
  refine wpAnyH_take (i := 3) (oi := ⟨(some 40), (.move (.tmp 6)), 27, "law.go:20", #[⟨2, .guard⟩], (some (2, true))⟩) (v := ?v5) rfl (by kernel_rfl) (by kernel_rfl) (by kernel_rfl) (fun _ _ _ h => h) (Or.inl ⟨rfl, ?hy5⟩) hHeld ?rest5
  case hy5 => (intro w hSw; (try dsimp only at hSw); go_simp <;> first | with_reducible rfl | rw [if_neg (by omega)] | rw [if_pos (by omega)])
  (try simp only [Act.put]); (try simp only [List.setIfInBounds_toArray]); (try simp only [List.set_cons_succ]); (try simp only [List.set_cons_zero])
  refine wpAnyH_take (i := 4) (oi := ⟨(some 41), (.binOp .eql 27 (.tmp 40) (.const (.int .i64 0)) 27), 4, "law.go:20", #[⟨3, .data⟩, ⟨2, .guard⟩], (some (2, true))⟩) (v := ?v6) rfl (by kernel_rfl) (by kernel_rfl) (by kernel_rfl) (fun _ _ _ h => h) (Or.inl ⟨rfl, ?hy6⟩) hHeld ?rest6
  case hy6 => (intro w hSw; (try dsimp only at hSw); go_simp <;> first | with_reducible rfl | rw [if_neg (by omega)] | rw [if_pos (by omega)])
  (try simp only [Act.put]); (try simp only [List.setIfInBounds_toArray]); (try simp only [List.set_cons_succ]); (try simp only [List.set_cons_zero])
  refine wpAnyH_take (i := 5) (oi := ⟨(some 42), (.pick (.tmp 39) (.tmp 41) (.const (.bool false))), 4, "law.go:20", #[⟨2, .data⟩, ⟨4, .data⟩], none⟩) (v := ?v7) rfl (by kernel_rfl) (by kernel_rfl) (by kernel_rfl) (fun _ _ _ h => h) (Or.inl ⟨rfl, ?hy7⟩) hHeld ?rest7
  case hy7 => (intro w hSw; (try dsimp only at hSw); go_simp <;> first | with_reducible rfl | rw [if_neg (by omega)] | rw [if_pos (by omega)])
  (try simp only [Act.put]); (try simp only [List.setIfInBounds_toArray]); (try simp only [List.set_cons_succ]); (try simp only [List.set_cons_zero])
  refine wpAnyH_take (i := 6) (oi := ⟨(some 43), (.move (.tmp 42)), 4, "law.go:20", #[⟨5, .data⟩, ⟨2, .chain⟩], none⟩) (v := ?v8) rfl (by kernel_rfl) (by kernel_rfl) (by kernel_rfl) (fun _ _ _ h => h) (Or.inl ⟨rfl, ?hy8⟩) hHeld ?rest8
  case hy8 => (intro w hSw; (try dsimp only at hSw); go_simp <;> first | with_reducible rfl | rw [if_neg (by omega)] | rw [if_pos (by omega)])
  (try simp only [Act.put]); (try simp only [List.setIfInBounds_toArray]); (try simp only [List.set_cons_succ]); (try simp only [List.set_cons_zero])
  refine wpAnyH_take (i := 7) (oi := ⟨(some 44), (.fieldAddr 25 (.tmp 3) 0), 0, "law.go:20", #[⟨6, .guard⟩], (some (6, true))⟩) (v := ?v9) rfl (by kernel_rfl) (by kernel_rfl) (by kernel_rfl) (fun _ _ _ h => h) (Or.inl ⟨rfl, ?hy9⟩) hHeld ?rest9
  case hy9 => (intro w hSw; (try dsimp only at hSw); go_simp <;> first | with_reducible rfl | rw [if_neg (by omega)] | rw [if_pos (by omega)])
  (try simp only [Act.put]); (try simp only [List.setIfInBounds_toArray]); (try simp only [List.set_cons_succ]); (try simp only [List.set_cons_zero])
  refine wpAnyH_take (i := 8) (oi := ⟨(some 45), (.load 22 (.tmp 44)), 22, "law.go:20", #[⟨7, .data⟩, ⟨6, .guard⟩], (some (6, true))⟩) (v := ?v10) rfl (by kernel_rfl) (by kernel_rfl) (by kernel_rfl) (fun _ _ _ h => h) (Or.inl ⟨rfl, ?hy10⟩) hHeld ?rest10
  case hy10 => (intro w hSw; (try dsimp only at hSw); go_simp <;> first | with_reducible rfl | rw [if_neg (by omega)] | rw [if_pos (by omega)])
  (try simp only [Act.put]); (try simp only [List.setIfInBounds_toArray]); (try simp only [List.set_cons_succ]); (try simp only [List.set_cons_zero])
  refine wpAnyH_take (i := 9) (oi := ⟨(some 46), (.call { callee := (.builtin .len), args := #[(.tmp 45)], argTypes := #[22] }), 3, "law.go:20", #[⟨8, .data⟩, ⟨6, .guard⟩], (some (6, true))⟩) (v := ?v11) rfl (by kernel_rfl) (by kernel_rfl) (by kernel_rfl) (fun _ _ _ h => h) (Or.inl ⟨rfl, ?hy11⟩) hHeld ?rest11
  case hy11 => (intro w hSw; (try dsimp only at hSw); go_simp <;> first | with_reducible rfl | rw [if_neg (by omega)] | rw [if_pos (by omega)])
  (try simp only [Act.put]); (try simp only [List.setIfInBounds_toArray]); (try simp only [List.set_cons_succ]); (try simp only [List.set_cons_zero])
  refine wpAnyH_take (i := 10) (oi := ⟨(some 47), (.binOp .eql 3 (.tmp 46) (.const (.int .i64 3)) 3), 4, "law.go:20", #[⟨9, .data⟩, ⟨6, .guard⟩], (some (6, true))⟩) (v := ?v12) rfl (by kernel_rfl) (by kernel_rfl) (by kernel_rfl) (fun _ _ _ h => h) (Or.inl ⟨rfl, ?hy12⟩) hHeld ?rest12
  case hy12 => (intro w hSw; (try dsimp only at hSw); go_simp <;> first | with_reducible rfl | rw [if_neg (by omega)] | rw [if_pos (by omega)])
  (try simp only [Act.put]); (try simp only [List.setIfInBounds_toArray]); (try simp only [List.set_cons_succ]); (try simp only [List.set_cons_zero])
  refine wpAnyH_take (i := 11) (oi := ⟨(some 48), (.pick (.tmp 43) (.tmp 47) (.const (.bool false))), 4, "law.go:20", #[⟨6, .data⟩, ⟨10, .data⟩], none⟩) (v := ?v13) rfl (by kernel_rfl) (by kernel_rfl) (by kernel_rfl) (fun _ _ _ h => h) (Or.inl ⟨rfl, ?hy13⟩) hHeld ?rest13
  case hy13 => (intro w hSw; (try dsimp only at hSw); go_simp <;> first | with_reducible rfl | rw [if_neg (by omega)] | rw [if_pos (by omega)])
  (try simp only [Act.put]); (try simp only [List.setIfInBounds_toArray]); (try simp only [List.set_cons_succ]); (try simp only [List.set_cons_zero])
  refine wpAnyH_take (i := 12) (oi := ⟨(some 49), (.move (.tmp 48)), 4, "law.go:20", #[⟨11, .data⟩, ⟨6, .chain⟩], none⟩) (v := ?v14) rfl (by kernel_rfl) (by kernel_rfl) (by kernel_rfl) (fun _ _ _ h => h) (Or.inl ⟨rfl, ?hy14⟩) hHeld ?rest14
  case hy14 => (intro w hSw; (try dsimp only at hSw); go_simp <;> first | with_reducible rfl | rw [if_neg (by omega)] | rw [if_pos (by omega)])
  (try simp only [Act.put]); (try simp only [List.setIfInBounds_toArray]); (try simp only [List.set_cons_succ]); (try simp only [List.set_cons_zero])
  refine wpAnyH_take (i := 13) (oi := ⟨(some 50), (.fieldAddr 25 (.tmp 3) 0), 0, "law.go:20", #[⟨12, .guard⟩], (some (12, true))⟩) (v := ?v15) rfl (by kernel_rfl) (by kernel_rfl) (by kernel_rfl) (fun _ _ _ h => h) (Or.inl ⟨rfl, ?hy15⟩) hHeld ?rest15
  case hy15 => (intro w hSw; (try dsimp only at hSw); go_simp <;> first | with_reducible rfl | rw [if_neg (by omega)] | rw [if_pos (by omega)])
  (try simp only [Act.put]); (try simp only [List.setIfInBounds_toArray]); (try simp only [List.set_cons_succ]); (try simp only [List.set_cons_zero])
  refine wpAnyH_take (i := 14) (oi := ⟨(some 51), (.load 22 (.tmp 50)), 22, "law.go:20", #[⟨13, .data⟩, ⟨12, .guard⟩], (some (12, true))⟩) (v := ?v16) rfl (by kernel_rfl) (by kernel_rfl) (by kernel_rfl) (fun _ _ _ h => h) (Or.inl ⟨rfl, ?hy16⟩) hHeld ?rest16
  case hy16 => (intro w hSw; (try dsimp only at hSw); go_simp <;> first | with_reducible rfl | rw [if_neg (by omega)] | rw [if_pos (by omega)])
  (try simp only [Act.put]); (try simp only [List.setIfInBounds_toArray]); (try simp only [List.set_cons_succ]); (try simp only [List.set_cons_zero])
  refine wpAnyH_take (i := 15) (oi := ⟨(some 52), (.indexAddr 22 (.tmp 51) (.const (.int .i64 2))), 0, "law.go:20", #[⟨14, .data⟩, ⟨12, .guard⟩], (some (12, true))⟩) (v := ?v17) rfl (by kernel_rfl) (by kernel_rfl) (by kernel_rfl) (fun _ _ _ h => h) (Or.inl ⟨rfl, ?hy17⟩) hHeld ?rest17
  case hy17 => (intro w hSw; (try dsimp only at hSw); go_simp <;> first | with_reducible rfl | rw [if_neg (by omega)] | rw [if_pos (by omega)])
  (try simp only [Act.put]); (try simp only [List.setIfInBounds_toArray]); (try simp only [List.set_cons_succ]); (try simp only [List.set_cons_zero])
  refine wpAnyH_take (i := 16) (oi := ⟨(some 53), (.load 9 (.tmp 52)), 9, "law.go:20", #[⟨15, .data⟩, ⟨12, .guard⟩], (some (12, true))⟩) (v := ?v18) rfl (by kernel_rfl) (by kernel_rfl) (by kernel_rfl) (fun _ _ _ h => h) (Or.inl ⟨rfl, ?hy18⟩) hHeld ?rest18
  case hy18 => (intro w hSw; (try dsimp only at hSw); go_simp <;> first | with_reducible rfl | rw [if_neg (by omega)] | rw [if_pos (by omega)])
  (try simp only [Act.put]); (try simp only [List.setIfInBounds_toArray]); (try simp only [List.set_cons_succ]); (try simp only [List.set_cons_zero])
  refine wpAnyH_take (i := 17) (oi := ⟨(some 54), (.binOp .eql 9 (.tmp 53) (.const (.string { data := #[122] })) 9), 4, "law.go:20", #[⟨16, .data⟩, ⟨12, .guard⟩], (some (12, true))⟩) (v := ?v19) rfl (by kernel_rfl) (by kernel_rfl) (by kernel_rfl) (fun _ _ _ h => h) (Or.inl ⟨rfl, ?hy19⟩) hHeld ?rest19
  case hy19 => (intro w hSw; (try dsimp only at hSw); go_simp <;> first | with_reducible rfl | rw [if_neg (by omega)] | rw [if_pos (by omega)])
  (try simp only [Act.put]); (try simp only [List.setIfInBounds_toArray]); (try simp only [List.set_cons_succ]); (try simp only [List.set_cons_zero])
  refine wpAnyH_take (i := 18) (oi := ⟨(some 55), (.pick (.tmp 49) (.tmp 54) (.const (.bool false))), 4, "law.go:20", #[⟨12, .data⟩, ⟨17, .data⟩], none⟩) (v := ?v20) rfl (by kernel_rfl) (by kernel_rfl) (by kernel_rfl) (fun _ _ _ h => h) (Or.inl ⟨rfl, ?hy20⟩) hHeld ?rest20
  case hy20 => (intro w hSw; (try dsimp only at hSw); go_simp <;> first | with_reducible rfl | rw [if_neg (by omega)] | rw [if_pos (by omega)])
  (try simp only [Act.put]); (try simp only [List.setIfInBounds_toArray]); (try simp only [List.set_cons_succ]); (try simp only [List.set_cons_zero])
  refine wpAnyH_take (i := 19) (oi := ⟨(some 56), (.move (.tmp 55)), 4, "law.go:20", #[⟨18, .data⟩, ⟨12, .chain⟩], none⟩) (v := ?v21) rfl (by kernel_rfl) (by kernel_rfl) (by kernel_rfl) (fun _ _ _ h => h) (Or.inl ⟨rfl, ?hy21⟩) hHeld ?rest21
  case hy21 => (intro w hSw; (try dsimp only at hSw); go_simp <;> first | with_reducible rfl | rw [if_neg (by omega)] | rw [if_pos (by omega)])
  (try simp only [Act.put]); (try simp only [List.setIfInBounds_toArray]); (try simp only [List.set_cons_succ]); (try simp only [List.set_cons_zero])
  refine wpAnyH_take (i := 20) (oi := ⟨(some 57), (.fieldAddr 25 (.tmp 3) 1), 0, "law.go:20", #[⟨19, .guard⟩], (some (19, true))⟩) (v := ?v22) rfl (by kernel_rfl) (by kernel_rfl) (by kernel_rfl) (fun _ _ _ h => h) (Or.inl ⟨rfl, ?hy22⟩) hHeld ?rest22
  case hy22 => (intro w hSw; (try dsimp only at hSw); go_simp <;> first | with_reducible rfl | rw [if_neg (by omega)] | rw [if_pos (by omega)])
  (try simp only [Act.put]); (try simp only [List.setIfInBounds_toArray]); (try simp only [List.set_cons_succ]); (try simp only [List.set_cons_zero])
  refine wpAnyH_take (i := 21) (oi := ⟨(some 58), (.load 23 (.tmp 57)), 23, "law.go:20", #[⟨20, .data⟩, ⟨19, .guard⟩], (some (19, true))⟩) (v := ?v23) rfl (by kernel_rfl) (by kernel_rfl) (by kernel_rfl) (fun _ _ _ h => h) (Or.inl ⟨rfl, ?hy23⟩) hHeld ?rest23
  case hy23 => (intro w hSw; (try dsimp only at hSw); go_simp <;> first | with_reducible rfl | rw [if_neg (by omega)] | rw [if_pos (by omega)])
  (try simp only [Act.put]); (try simp only [List.setIfInBounds_toArray]); (try simp only [List.set_cons_succ]); (try simp only [List.set_cons_zero])
  refine wpAnyH_ready (rs := [22]) (by kernel_rfl) (by simp) ?_
  refine AllReadyH.cons (o := ⟨(some 59), (.call { callee := (.value (.func 29)), args := #[(.const (.int .i64 1))], argTypes := #[3] }), 40, "law.go:20", #[⟨19, .chain⟩, ⟨19, .guard⟩], (some (19, true))⟩) rfl (fun K hK => ?step24x0) ?more24x0
  case more24x0 => exact AllReadyH.nil
  go_simp
  (refine (HN.out 1 _).mono ?_; rintro e w22 ⟨rfl, x22⟩; have y22 : Ext W20 w22 := Ext.trans (by repeat (first | with_reducible exact Ext.refl _ | with_reducible assumption | with_reducible refine Ext.drew ?_ | with_reducible refine Ext.drewN ?_ _ | with_reducible refine Ext.alloc ?_ _)) x22)
  refine hK.out _ _ ?hS24x0 (fun hHeld24 => ?rest24x0)
  case hS24x0 => first | (exact MKR.out _ (by repeat (first | with_reducible exact Ext.refl _ | with_reducible assumption | with_reducible refine Ext.drew ?_ | with_reducible refine Ext.drewN ?_ _ | with_reducible refine Ext.alloc ?_ _))) | ((try dsimp only); (exact MKR.out _ (by repeat (first | with_reducible exact Ext.refl _ | with_reducible assumption | with_reducible refine Ext.drew ?_ | with_reducible refine Ext.drewN ?_ _ | with_reducible refine Ext.alloc ?_ _))))
  clear hK K
  clear hHeld
  (try simp only [Act.put]); (try simp only [List.setIfInBounds_toArray]); (try simp only [List.set_cons_succ]); (try simp only [List.set_cons_zero])
  refine wpAnyH_ready (rs := [23]) (by kernel_rfl) (by simp) ?_
  refine AllReadyH.cons (o := ⟨(some 60), (.call { callee := (.value (.func 29)), args := #[(.const (.int .i64 2))], argTypes := #[3] }), 40, "law.go:20", #[⟨22, .chain⟩, ⟨19, .guard⟩], (some (19, true))⟩) rfl (fun K hK => ?step25x0) ?more25x0
  case more25x0 => exact AllReadyH.nil
  go_simp
  (refine (HN.out 2 _).mono ?_; rintro e w23 ⟨rfl, x23⟩; have y23 : Ext W20 w23 := Ext.trans (by repeat (first | with_reducible exact Ext.refl _ | with_reducible assumption | with_reducible refine Ext.drew ?_ | with_reducible refine Ext.drewN ?_ _ | with_reducible refine Ext.alloc ?_ _)) x23)
  refine hK.out _ _ ?hS25x0 (fun hHeld25 => ?rest25x0)
  case hS25x0 => first | (exact MKR.out _ (by repeat (first | with_reducible exact Ext.refl _ | with_reducible assumption | with_reducible refine Ext.drew ?_ | with_reducible refine Ext.drewN ?_ _ | with_reducible refine Ext.alloc ?_ _))) | ((try dsimp only); (exact MKR.out _ (by repeat (first | with_reducible exact Ext.refl _ | with_reducible assumption | with_reducible refine Ext.drew ?_ | with_reducible refine Ext.drewN ?_ _ | with_reducible refine Ext.alloc ?_ _))))
  clear hK K
  clear hHeld24
  (try simp only [Act.put]); (try simp only [List.setIfInBounds_toArray]); (try simp only [List.set_cons_succ]); (try simp only [List.set_cons_zero])
  refine wpAnyH_ready (rs := [24]) (by kernel_rfl) (by simp) ?_
  refine AllReadyH.cons (o := ⟨(some 61), (.call { callee := (.value (.func 29)), args := #[(.const (.int .i64 5))], argTypes := #[3] }), 40, "law.go:20", #[⟨23, .chain⟩, ⟨19, .guard⟩], (some (19, true))⟩) rfl (fun K hK => ?step26x0) ?more26x0
  case more26x0 => exact AllReadyH.nil
  go_simp
  (refine (HN.out 5 _).mono ?_; rintro e w24 ⟨rfl, x24⟩; have y24 : Ext W20 w24 := Ext.trans (by repeat (first | with_reducible exact Ext.refl _ | with_reducible assumption | with_reducible refine Ext.drew ?_ | with_reducible refine Ext.drewN ?_ _ | with_reducible refine Ext.alloc ?_ _)) x24)
  refine hK.out _ _ ?hS26x0 (fun hHeld26 => ?rest26x0)
  case hS26x0 => first | (exact MKR.out _ (by repeat (first | with_reducible exact Ext.refl _ | with_reducible assumption | with_reducible refine Ext.drew ?_ | with_reducible refine Ext.drewN ?_ _ | with_reducible refine Ext.alloc ?_ _))) | ((try dsimp only); (exact MKR.out _ (by repeat (first | with_reducible exact Ext.refl _ | with_reducible assumption | with_reducible refine Ext.drew ?_ | with_reducible refine Ext.drewN ?_ _ | with_reducible refine Ext.alloc ?_ _))))
  clear hK K
  clear hHeld25
  (try simp only [Act.put]); (try simp only [List.setIfInBounds_toArray]); (try simp only [List.set_cons_succ]); (try simp only [List.set_cons_zero])
  refine wpAnyH_ready (rs := [25, 26]) (by kernel_rfl) (by simp) ?_
  refine AllReadyH.cons (o := ⟨(some 62), (.buildSlice 37 3 #[(0, (.tmp 59)), (1, (.tmp 60)), (2, (.tmp 61))]), 37, "law.go:20", #[⟨22, .data⟩, ⟨23, .data⟩, ⟨24, .data⟩, ⟨19, .guard⟩], (some (19, true))⟩) rfl (fun K hK => ?step27x0) ?more27x0
  case more27x0 =>
    refine AllReadyH.cons (o := ⟨(some 63), (.call { callee := (.value (.func 29)), args := #[(.const (.int .i64 1))], argTypes := #[3] }), 40, "law.go:20", #[⟨24, .chain⟩, ⟨19, .guard⟩], (some (19, true))⟩) rfl (fun K hK => ?step27x1) ?more27x1
    case more27x1 => exact AllReadyH.nil
    go_simp
    (refine (HN.out 1 _).mono ?_; rintro e w26 ⟨rfl, x26⟩; have y26 : Ext W20 w26 := Ext.trans (by repeat (first | with_reducible exact Ext.refl _ | with_reducible assumption | with_reducible refine Ext.drew ?_ | with_reducible refine Ext.drewN ?_ _ | with_reducible refine Ext.alloc ?_ _)) x26)
    refine hK.out _ _ ?hS27x1 (fun hHeld27 => ?rest27x1)
    case hS27x1 => first | (exact MKR.out _ (by repeat (first | with_reducible exact Ext.refl _ | with_reducible assumption | with_reducible refine Ext.drew ?_ | with_reducible refine Ext.drewN ?_ _ | with_reducible refine Ext.alloc ?_ _))) | ((try dsimp only); (exact MKR.out _ (by repeat (first | with_reducible exact Ext.refl _ | with_reducible assumption | with_reducible refine Ext.drew ?_ | with_reducible refine Ext.drewN ?_ _ | with_reducible refine Ext.alloc ?_ _))))
    clear hK K
    clear hHeld26
    (try simp only [Act.put]); (try simp only [List.setIfInBounds_toArray]); (try simp only [List.set_cons_succ]); (try simp only [List.set_cons_zero])
    refine wpAnyH_ready (rs := [25, 27]) (by kernel_rfl) (by simp) ?_
    refine AllReadyH.cons (o := ⟨(some 62), (.buildSlice 37 3 #[(0, (.tmp 59)), (1, (.tmp 60)), (2, (.tmp 61))]), 37, "law.go:20", #[⟨22, .data⟩, ⟨23, .data⟩, ⟨24, .data⟩, ⟨19, .guard⟩], (some (19, true))⟩) rfl (fun K hK => ?step28x0) ?more28x0
    case more28x0 =>
      refine AllReadyH.cons (o := ⟨(some 64), (.call { callee := (.value (.func 29)), args := #[(.const (.int .i64 2))], argTypes := #[3] }), 40, "law.go:20", #[⟨26, .chain⟩, ⟨19, .guard⟩], (some (19, true))⟩) rfl (fun K hK => ?step28x1) ?more28x1
      case more28x1 => exact AllReadyH.nil
      go_simp
      (refine (HN.out 2 _).mono ?_; rintro e w27 ⟨rfl, x27⟩; have y27 : Ext W20 w27 := Ext.trans (by repeat (first | with_reducible exact Ext.refl _ | with_reducible assumption | with_reducible refine Ext.drew ?_ | with_reducible refine Ext.drewN ?_ _ | with_reducible refine Ext.alloc ?_ _)) x27)
      refine hK.out _ _ ?hS28x1 (fun hHeld28 => ?rest28x1)
      case hS28x1 => first | (exact MKR.out _ (by repeat (first | with_reducible exact Ext.refl _ | with_reducible assumption | with_reducible refine Ext.drew ?_ | with_reducible refine Ext.drewN ?_ _ | with_reducible refine Ext.alloc ?_ _))) | ((try dsimp only); (exact MKR.out _ (by repeat (first | with_reducible exact Ext.refl _ | with_reducible assumption | with_reducible refine Ext.drew ?_ | with_reducible refine Ext.drewN ?_ _ | with_reducible refine Ext.alloc ?_ _))))
      clear hK K
      clear hHeld27
      (try simp only [Act.put]); (try simp only [List.setIfInBounds_toArray]); (try simp only [List.set_cons_succ]); (try simp only [List.set_cons_zero])
      refine wpAnyH_ready (rs := [25, 28]) (by kernel_rfl) (by simp) ?_
      refine AllReadyH.cons (o := ⟨(some 62), (.buildSlice 37 3 #[(0, (.tmp 59)), (1, (.tmp 60)), (2, (.tmp 61))]), 37, "law.go:20", #[⟨22, .data⟩, ⟨23, .data⟩, ⟨24, .data⟩, ⟨19, .guard⟩], (some (19, true))⟩) rfl (fun K hK => ?step29x0) ?more29x0
      case more29x0 =>
        refine AllReadyH.cons (o := ⟨(some 65), (.call { callee := (.value (.func 29)), args := #[(.const (.int .i64 6))], argTypes := #[3] }), 40, "law.go:20", #[⟨27, .chain⟩, ⟨19, .guard⟩], (some (19, true))⟩) rfl (fun K hK => ?step29x1) ?more29x1
        case more29x1 => exact AllReadyH.nil
        go_simp
        (refine (HN.out 6 _).mono ?_; rintro e w28 ⟨rfl, x28⟩; have y28 : Ext W20 w28 := Ext.trans (by repeat (first | with_reducible exact Ext.refl _ | with_reducible assumption | with_reducible refine Ext.drew ?_ | with_reducible refine Ext.drewN ?_ _ | with_reducible refine Ext.alloc ?_ _)) x28)
        refine hK.out _ _ ?hS29x1 (fun hHeld29 => ?rest29x1)
        case hS29x1 => first | (exact MKR.out _ (by repeat (first | with_reducible exact Ext.refl _ | with_reducible assumption | with_reducible refine Ext.drew ?_ | with_reducible refine Ext.drewN ?_ _ | with_reducible refine Ext.alloc ?_ _))) | ((try dsimp only); (exact MKR.out _ (by repeat (first | with_reducible exact Ext.refl _ | with_reducible assumption | with_reducible refine Ext.drew ?_ | with_reducible refine Ext.drewN ?_ _ | with_reducible refine Ext.alloc ?_ _))))
        clear hK K
        clear hHeld28
        (try simp only [Act.put]); (try simp only [List.setIfInBounds_toArray]); (try simp only [List.set_cons_succ]); (try simp only [List.set_cons_zero])
        refine wpAnyH_ready (rs := [25, 29]) (by kernel_rfl) (by simp) ?_
        refine AllReadyH.cons (o := ⟨(some 62), (.buildSlice 37 3 #[(0, (.tmp 59)), (1, (.tmp 60)), (2, (.tmp 61))]), 37, "law.go:20", #[⟨22, .data⟩, ⟨23, .data⟩, ⟨24, .data⟩, ⟨19, .guard⟩], (some (19, true))⟩) rfl (fun K hK => ?step30x0) ?more30x0
        case more30x0 =>
          refine AllReadyH.cons (o := ⟨(some 66), (.buildSlice 37 3 #[(0, (.tmp 63)), (1, (.tmp 64)), (2, (.tmp 65))]), 37, "law.go:20", #[⟨26, .data⟩, ⟨27, .data⟩, ⟨28, .data⟩, ⟨19, .guard⟩], (some (19, true))⟩) rfl (fun K hK => ?step30x1) ?more30x1
          case more30x1 => exact AllReadyH.nil
          go_simp
          (obtain ⟨g29, w29, hg29, hw29, v29, x29⟩ := row_lit w28 [1, 2, 6] (by decide); change w29 = w28.alloc (.cells #[.int .i64 2, .int .i64 1, .int .i64 0, .string ByteArray.empty, .slice none 0 0, .int .i64 2, .int .i64 2, .int .i64 0, .string ByteArray.empty, .slice none 0 0, .int .i64 2, .int .i64 6, .int .i64 0, .string ByteArray.empty, .slice none 0 0] 40) at hw29; rw [← hw29, ← hg29]; clear hg29 hw29; have y29 : Ext W20 w29 := Ext.trans y28 x29)
          refine hK.out _ _ ?hS30x1 (fun hHeld30 => ?rest30x1)
          case hS30x1 => first | (exact MKR.out _ (by repeat (first | with_reducible exact Ext.refl _ | with_reducible assumption | with_reducible refine Ext.drew ?_ | with_reducible refine Ext.drewN ?_ _ | with_reducible refine Ext.alloc ?_ _))) | ((try dsimp only); (exact MKR.out _ (by repeat (first | with_reducible exact Ext.refl _ | with_reducible assumption | with_reducible refine Ext.drew ?_ | with_reducible refine Ext.drewN ?_ _ | with_reducible refine Ext.alloc ?_ _))))
          clear hK K
          clear hHeld29
          (try simp only [Act.put]); (try simp only [List.setIfInBounds_toArray]); (try simp only [List.set_cons_succ]); (try simp only [List.set_cons_zero])
          refine wpAnyH_ready (rs := [25]) (by kernel_rfl) (by simp) ?_
          refine AllReadyH.cons (o := ⟨(some 62), (.buildSlice 37 3 #[(0, (.tmp 59)), (1, (.tmp 60)), (2, (.tmp 61))]), 37, "law.go:20", #[⟨22, .data⟩, ⟨23, .data⟩, ⟨24, .data⟩, ⟨19, .guard⟩], (some (19, true))⟩) rfl (fun K hK => ?step31x0) ?more31x0
          case more31x0 => exact AllReadyH.nil
          go_simp
          (obtain ⟨g25, w25, hg25, hw25, v25, x25⟩ := row_lit w29 [1, 2, 5] (by decide); change w25 = w29.alloc (.cells #[.int .i64 2, .int .i64 1, .int .i64 0, .string ByteArray.empty, .slice none 0 0, .int .i64 2, .int .i64 2, .int .i64 0, .string ByteArray.empty, .slice none 0 0, .int .i64 2, .int .i64 5, .int .i64 0, .string ByteArray.empty, .slice none 0 0] 40) at hw25; rw [← hw25, ← hg25]; clear hg25 hw25; have y25 : Ext W20 w25 := Ext.trans y29 x25)
          refine hK.out _ _ ?hS31x0 (fun hHeld31 => ?rest31x0)
          case hS31x0 => first | (exact MKR.out _ (by repeat (first | with_reducible exact Ext.refl _ | with_reducible assumption | with_reducible refine Ext.drew ?_ | with_reducible refine Ext.drewN ?_ _ | with_reducible refine Ext.alloc ?_ _))) | ((try dsimp only); (exact MKR.out _ (by repeat (first | with_reducible exact Ext.refl _ | with_reducible assumption | with_reducible refine Ext.drew ?_ | with_reducible refine Ext.drewN ?_ _ | with_reducible refine Ext.alloc ?_ _))))
          clear hK K
          clear hHeld30
          (try simp only [Act.put]); (try simp only [List.setIfInBounds_toArray]); (try simp only [List.set_cons_succ]); (try simp only [List.set_cons_zero])
          refine wpAnyH_ready (rs := [30]) (by kernel_rfl) (by simp) ?_
          refine AllReadyH.cons (o := ⟨(some 67), (.buildSlice 23 2 #[(0, (.tmp 62)), (1, (.tmp 66))]), 23, "law.go:20", #[⟨25, .data⟩, ⟨29, .data⟩, ⟨19, .guard⟩], (some (19, true))⟩) rfl (fun K hK => ?step32x0) ?more32x0
          case more32x0 => exact AllReadyH.nil
          go_simp
          (obtain ⟨g30, w30, hg30, hw30, v30, x30⟩ := rows_lit w25 (some ⟨g25, 0, none⟩) (some ⟨g29, 0, none⟩) 3 3 [numV 1, numV 2, numV 5] [numV 1, numV 2, numV 6] (v25.ext (Ext.refl _)) (v29.ext x25) (by decide) (by decide); change w30 = w25.alloc (.cells #[.slice (some ⟨g25, 0, none⟩) 3 3, .slice (some ⟨g29, 0, none⟩) 3 3] 37) at hw30; rw [← hw30, ← hg30]; clear hg30 hw30; have y30 : Ext W20 w30 := Ext.trans y25 x30)
          refine hK.out _ _ ?hS32x0 (fun hHeld32 => ?rest32x0)
          case hS32x0 => first | (exact MKR.out _ (by repeat (first | with_reducible exact Ext.refl _ | with_reducible assumption | with_reducible refine Ext.drew ?_ | with_reducible refine Ext.drewN ?_ _ | with_reducible refine Ext.alloc ?_ _))) | ((try dsimp only); (exact MKR.out _ (by repeat (first | with_reducible exact Ext.refl _ | with_reducible assumption | with_reducible refine Ext.drew ?_ | with_reducible refine Ext.drewN ?_ _ | with_reducible refine Ext.alloc ?_ _))))
          clear hK K
          clear hHeld31
          (try simp only [Act.put]); (try simp only [List.setIfInBounds_toArray]); (try simp only [List.set_cons_succ]); (try simp only [List.set_cons_zero])
          refine wpAnyH_ready (rs := [31]) (by kernel_rfl) (by simp) ?_
          refine AllReadyH.cons (o := ⟨(some 68), (.call { callee := (.value (.func 26)), args := #[(.tmp 58), (.tmp 67)], argTypes := #[23, 23] }), 4, "law.go:20", #[⟨21, .data⟩, ⟨30, .data⟩, ⟨28, .chain⟩, ⟨19, .guard⟩], (some (19, true))⟩) rfl (fun K hK => ?step33x0) ?more33x0
          case more33x0 => exact AllReadyH.nil
          go_simp
          (refine (HSR.out w30 y30 g30 (v30.ext (Ext.refl _))).mono ?_; rintro e w31 ⟨rfl, x31⟩; have y31 : Ext W20 w31 := Ext.trans y30 x31)
          refine hK.out _ _ ?hS33x0 (fun hHeld33 => ?rest33x0)
          case hS33x0 => first | (exact MKR.out _ (by repeat (first | with_reducible exact Ext.refl _ | with_reducible assumption | with_reducible refine Ext.drew ?_ | with_reducible refine Ext.drewN ?_ _ | with_reducible refine Ext.alloc ?_ _))) | ((try dsimp only); (exact MKR.out _ (by repeat (first | with_reducible exact Ext.refl _ | with_reducible assumption | with_reducible refine Ext.drew ?_ | with_reducible refine Ext.drewN ?_ _ | with_reducible refine Ext.alloc ?_ _))))
          clear hK K
          clear hHeld32
          (try simp only [Act.put]); (try simp only [List.setIfInBounds_toArray]); (try simp only [List.set_cons_succ]); (try simp only [List.set_cons_zero])
          refine wpAnyH_take (i := 32) (oi := ⟨(some 69), (.pick (.tmp 56) (.tmp 68) (.const (.bool false))), 4, "law.go:20", #[⟨19, .data⟩, ⟨31, .data⟩], none⟩) (v := ?v34) rfl (by kernel_rfl) (by kernel_rfl) (by kernel_rfl) (fun _ _ _ h => h) (Or.inl ⟨rfl, ?hy34⟩) hHeld33 ?rest34
          case hy34 => (intro w hSw; (try dsimp only at hSw); go_simp <;> first | with_reducible rfl | rw [if_neg (by omega)] | rw [if_pos (by omega)])
          (try simp only [Act.put]); (try simp only [List.setIfInBounds_toArray]); (try simp only [List.set_cons_succ]); (try simp only [List.set_cons_zero])
          refine wpAnyH_take (i := 33) (oi := ⟨(some 70), (.move (.tmp 69)), 4, "law.go:20", #[⟨32, .data⟩, ⟨31, .chain⟩], none⟩) (v := ?v35) rfl (by kernel_rfl) (by kernel_rfl) (by kernel_rfl) (fun _ _ _ h => h) (Or.inl ⟨rfl, ?hy35⟩) hHeld33 ?rest35
          case hy35 => (intro w hSw; (try dsimp only at hSw); go_simp <;> first | with_reducible rfl | rw [if_neg (by omega)] | rw [if_pos (by omega)])
          (try simp only [Act.put]); (try simp only [List.setIfInBounds_toArray]); (try simp only [List.set_cons_succ]); (try simp only [List.set_cons_zero])
          refine wpAnyH_take (i := 34) (oi := ⟨(some 71), (.fieldAddr 25 (.tmp 5) 1), 0, "law.go:20", #[⟨33, .guard⟩], (some (33, true))⟩) (v := ?v36) rfl (by kernel_rfl) (by kernel_rfl) (by kernel_rfl) (fun _ _ _ h => h) (Or.inl ⟨rfl, ?hy36⟩) hHeld33 ?rest36
          case hy36 => (intro w hSw; (try dsimp only at hSw); go_simp <;> first | with_reducible rfl | rw [if_neg (by omega)] | rw [if_pos (by omega)])
          (try simp only [Act.put]); (try simp only [List.setIfInBounds_toArray]); (try simp only [List.set_cons_succ]); (try simp only [List.set_cons_zero])
          refine wpAnyH_take (i := 35) (oi := ⟨(some 72), (.load 23 (.tmp 71)), 23, "law.go:20", #[⟨34, .data⟩, ⟨33, .guard⟩], (some (33, true))⟩) (v := ?v37) rfl (by kernel_rfl) (by kernel_rfl) (by kernel_rfl) (fun _ _ _ h => h) (Or.inl ⟨rfl, ?hy37⟩) hHeld33 ?rest37
          case hy37 => (intro w hSw; (try dsimp only at hSw); go_simp <;> first | with_reducible rfl | rw [if_neg (by omega)] | rw [if_pos (by omega)])
          (try simp only [Act.put]); (try simp only [List.setIfInBounds_toArray]); (try simp only [List.set_cons_succ]); (try simp only [List.set_cons_zero])
          refine wpAnyH_take (i := 36) (oi := ⟨(some 73), (.call { callee := (.builtin .len), args := #[(.tmp 72)], argTypes := #[23] }), 3, "law.go:20", #[⟨35, .data⟩, ⟨33, .guard⟩], (some (33, true))⟩) (v := ?v38) rfl (by kernel_rfl) (by kernel_rfl) (by kernel_rfl) (fun _ _ _ h => h) (Or.inl ⟨rfl, ?hy38⟩) hHeld33 ?rest38
          case hy38 => (intro w hSw; (try dsimp only at hSw); go_simp <;> first | with_reducible rfl | rw [if_neg (by omega)] | rw [if_pos (by omega)])
          (try simp only [Act.put]); (try simp only [List.setIfInBounds_toArray]); (try simp only [List.set_cons_succ]); (try simp only [List.set_cons_zero])
          refine wpAnyH_take (i := 37) (oi := ⟨(some 74), (.binOp .eql 3 (.tmp 73) (.const (.int .i64 3)) 3), 4, "law.go:20", #[⟨36, .data⟩, ⟨33, .guard⟩], (some (33, true))⟩) (v := ?v39) rfl (by kernel_rfl) (by kernel_rfl) (by kernel_rfl) (fun _ _ _ h => h) (Or.inl ⟨rfl, ?hy39⟩) hHeld33 ?rest39
          case hy39 => (intro w hSw; (try dsimp only at hSw); go_simp <;> first | with_reducible rfl | rw [if_neg (by omega)] | rw [if_pos (by omega)])
          (try simp only [Act.put]); (try simp only [List.setIfInBounds_toArray]); (try simp only [List.set_cons_succ]); (try simp only [List.set_cons_zero])
          refine wpAnyH_take (i := 38) (oi := ⟨(some 75), (.pick (.tmp 70) (.tmp 74) (.const (.bool false))), 4, "law.go:20", #[⟨33, .data⟩, ⟨37, .data⟩], none⟩) (v := ?v40) rfl (by kernel_rfl) (by kernel_rfl) (by kernel_rfl) (fun _ _ _ h => h) (Or.inl ⟨rfl, ?hy40⟩) hHeld33 ?rest40
          case hy40 => (intro w hSw; (try dsimp only at hSw); go_simp <;> first | with_reducible rfl | rw [if_neg (by omega)] | rw [if_pos (by omega)])
          (try simp only [Act.put]); (try simp only [List.setIfInBounds_toArray]); (try simp only [List.set_cons_succ]); (try simp only [List.set_cons_zero])
          refine wpAnyH_take (i := 39) (oi := ⟨(some 0), (.assign (.tmp 75)), 4, "law.go:20", #[⟨38, .data⟩, ⟨33, .chain⟩, ⟨0, .phase⟩, ⟨1, .phase⟩, ⟨2, .phase⟩, ⟨3, .phase⟩, ⟨4, .phase⟩, ⟨5, .phase⟩, ⟨6, .phase⟩, ⟨7, .phase⟩, ⟨8, .phase⟩, ⟨9, .phase⟩, ⟨10, .phase⟩, ⟨11, .phase⟩, ⟨12, .phase⟩, ⟨13, .phase⟩, ⟨14, .phase⟩, ⟨15, .phase⟩, ⟨16, .phase⟩, ⟨17, .phase⟩, ⟨18, .phase⟩, ⟨19, .phase⟩, ⟨20, .phase⟩, ⟨21, .phase⟩, ⟨22, .phase⟩, ⟨23, .phase⟩, ⟨24, .phase⟩, ⟨25, .phase⟩, ⟨26, .phase⟩, ⟨27, .phase⟩, ⟨28, .phase⟩, ⟨29, .phase⟩, ⟨30, .phase⟩, ⟨31, .phase⟩, ⟨32, .phase⟩, ⟨33, .phase⟩, ⟨34, .phase⟩, ⟨35, .phase⟩, ⟨36, .phase⟩, ⟨37, .phase⟩, ⟨38, .phase⟩], none⟩) (v := ?v41) rfl (by kernel_rfl) (by kernel_rfl) (by kernel_rfl) (fun _ _ _ h => h) (Or.inl ⟨rfl, ?hy41⟩) hHeld33 ?rest41
          case hy41 => (intro w hSw; (try dsimp only at hSw); go_simp <;> first | with_reducible rfl | rw [if_neg (by omega)] | rw [if_pos (by omega)])
          (try simp only [Act.put]); (try simp only [List.setIfInBounds_toArray]); (try simp only [List.set_cons_succ]); (try simp only [List.set_cons_zero])
          refine wpAnyH_done (by kernel_rfl) ?_ _
          clear hHeld33
          go_wp2_with fail
          go_ret
          exact ⟨rfl, xE.trans y31⟩
        go_simp
        (obtain ⟨g25, w25, hg25, hw25, v25, x25⟩ := row_lit w28 [1, 2, 5] (by decide); change w25 = w28.alloc (.cells #[.int .i64 2, .int .i64 1, .int .i64 0, .string ByteArray.empty, .slice none 0 0, .int .i64 2, .int .i64 2, .int .i64 0, .string ByteArray.empty, .slice none 0 0, .int .i64 2, .int .i64 5, .int .i64 0, .string ByteArray.empty, .slice none 0 0] 40) at hw25; rw [← hw25, ← hg25]; clear hg25 hw25; have y25 : Ext W20 w25 := Ext.trans y28 x25)
        refine hK.out _ _ ?hS30x0 (fun hHeld30 => ?rest30x0)
        case hS30x0 => first | (exact MKR.out _ (by repeat (first | with_reducible exact Ext.refl _ | with_reducible assumption | with_reducible refine Ext.drew ?_ | with_reducible refine Ext.drewN ?_ _ | with_reducible refine Ext.alloc ?_ _))) | ((try dsimp only); (exact MKR.out _ (by repeat (first | with_reducible exact Ext.refl _ | with_reducible assumption | with_reducible refine Ext.drew ?_ | with_reducible refine Ext.drewN ?_ _ | with_reducible refine Ext.alloc ?_ _))))
        clear hK K
        clear hHeld29
        (try simp only [Act.put]); (try simp only [List.setIfInBounds_toArray]); (try simp only [List.set_cons_succ]); (try simp only [List.set_cons_zero])
        refine wpAnyH_ready (rs := [29]) (by kernel_rfl) (by simp) ?_
        refine AllReadyH.cons (o := ⟨(some 66), (.buildSlice 37 3 #[(0, (.tmp 63)), (1, (.tmp 64)), (2, (.tmp 65))]), 37, "law.go:20", #[⟨26, .data⟩, ⟨27, .data⟩, ⟨28, .data⟩, ⟨19, .guard⟩], (some (19, true))⟩) rfl (fun K hK => ?step42x0) ?more42x0
        case more42x0 => exact AllReadyH.nil
        go_simp
        (obtain ⟨g29, w29, hg29, hw29, v29, x29⟩ := row_lit w25 [1, 2, 6] (by decide); change w29 = w25.alloc (.cells #[.int .i64 2, .int .i64 1, .int .i64 0, .string ByteArray.empty, .slice none 0 0, .int .i64 2, .int .i64 2, .int .i64 0, .string ByteArray.empty, .slice none 0 0, .int .i64 2, .int .i64 6, .int .i64 0, .string ByteArray.empty, .slice none 0 0] 40) at hw29; rw [← hw29, ← hg29]; clear hg29 hw29; have y29 : Ext W20 w29 := Ext.trans y25 x29)
        refine hK.out _ _ ?hS42x0 (fun hHeld42 => ?rest42x0)
        case hS42x0 => first | (exact MKR.out _ (by repeat (first | with_reducible exact Ext.refl _ | with_reducible assumption | with_reducible refine Ext.drew ?_ | with_reducible refine Ext.drewN ?_ _ | with_reducible refine Ext.alloc ?_ _))) | ((try dsimp only); (exact MKR.out _ (by repeat (first | with_reducible exact Ext.refl _ | with_reducible assumption | with_reducible refine Ext.drew ?_ | with_reducible refine Ext.drewN ?_ _ | with_reducible refine Ext.alloc ?_ _))))
        clear hK K
        clear hHeld30
        (try simp only [Act.put]); (try simp only [List.setIfInBounds_toArray]); (try simp only [List.set_cons_succ]); (try simp only [List.set_cons_zero])
        refine wpAnyH_ready (rs := [30]) (by kernel_rfl) (by simp) ?_
        refine AllReadyH.cons (o := ⟨(some 67), (.buildSlice 23 2 #[(0, (.tmp 62)), (1, (.tmp 66))]), 23, "law.go:20", #[⟨25, .data⟩, ⟨29, .data⟩, ⟨19, .guard⟩], (some (19, true))⟩) rfl (fun K hK => ?step43x0) ?more43x0
        case more43x0 => exact AllReadyH.nil
        go_simp
        (obtain ⟨g30, w30, hg30, hw30, v30, x30⟩ := rows_lit w29 (some ⟨g25, 0, none⟩) (some ⟨g29, 0, none⟩) 3 3 [numV 1, numV 2, numV 5] [numV 1, numV 2, numV 6] (v25.ext x29) (v29.ext (Ext.refl _)) (by decide) (by decide); change w30 = w29.alloc (.cells #[.slice (some ⟨g25, 0, none⟩) 3 3, .slice (some ⟨g29, 0, none⟩) 3 3] 37) at hw30; rw [← hw30, ← hg30]; clear hg30 hw30; have y30 : Ext W20 w30 := Ext.trans y29 x30)
        refine hK.out _ _ ?hS43x0 (fun hHeld43 => ?rest43x0)
        case hS43x0 => first | (exact MKR.out _ (by repeat (first | with_reducible exact Ext.refl _ | with_reducible assumption | with_reducible refine Ext.drew ?_ | with_reducible refine Ext.drewN ?_ _ | with_reducible refine Ext.alloc ?_ _))) | ((try dsimp only); (exact MKR.out _ (by repeat (first | with_reducible exact Ext.refl _ | with_reducible assumption | with_reducible refine Ext.drew ?_ | with_reducible refine Ext.drewN ?_ _ | with_reducible refine Ext.alloc ?_ _))))
        clear hK K
        clear hHeld42
        (try simp only [Act.put]); (try simp only [List.setIfInBounds_toArray]); (try simp only [List.set_cons_succ]); (try simp only [List.set_cons_zero])
        refine wpAnyH_ready (rs := [31]) (by kernel_rfl) (by simp) ?_
        refine AllReadyH.cons (o := ⟨(some 68), (.call { callee := (.value (.func 26)), args := #[(.tmp 58), (.tmp 67)], argTypes := #[23, 23] }), 4, "law.go:20", #[⟨21, .data⟩, ⟨30, .data⟩, ⟨28, .chain⟩, ⟨19, .guard⟩], (some (19, true))⟩) rfl (fun K hK => ?step44x0) ?more44x0
        case more44x0 => exact AllReadyH.nil
        go_simp
        (refine (HSR.out w30 y30 g30 (v30.ext (Ext.refl _))).mono ?_; rintro e w31 ⟨rfl, x31⟩; have y31 : Ext W20 w31 := Ext.trans y30 x31)
        refine hK.out _ _ ?hS44x0 (fun hHeld44 => ?rest44x0)
        case hS44x0 => first | (exact MKR.out _ (by repeat (first | with_reducible exact Ext.refl _ | with_reducible assumption | with_reducible refine Ext.drew ?_ | with_reducible refine Ext.drewN ?_ _ | with_reducible refine Ext.alloc ?_ _))) | ((try dsimp only); (exact MKR.out _ (by repeat (first | with_reducible exact Ext.refl _ | with_reducible assumption | with_reducible refine Ext.drew ?_ | with_reducible refine Ext.drewN ?_ _ | with_reducible refine Ext.alloc ?_ _))))
        clear hK K
        clear hHeld43
        (try simp only [Act.put]); (try simp only [List.setIfInBounds_toArray]); (try simp only [List.set_cons_succ]); (try simp only [List.set_cons_zero])
        refine wpAnyH_take (i := 32) (oi := ⟨(some 69), (.pick (.tmp 56) (.tmp 68) (.const (.bool false))), 4, "law.go:20", #[⟨19, .data⟩, ⟨31, .data⟩], none⟩) (v := ?v45) rfl (by kernel_rfl) (by kernel_rfl) (by kernel_rfl) (fun _ _ _ h => h) (Or.inl ⟨rfl, ?hy45⟩) hHeld44 ?rest45
        case hy45 => (intro w hSw; (try dsimp only at hSw); go_simp <;> first | with_reducible rfl | rw [if_neg (by omega)] | rw [if_pos (by omega)])
        (try simp only [Act.put]); (try simp only [List.setIfInBounds_toArray]); (try simp only [List.set_cons_succ]); (try simp only [List.set_cons_zero])
        refine wpAnyH_take (i := 33) (oi := ⟨(some 70), (.move (.tmp 69)), 4, "law.go:20", #[⟨32, .data⟩, ⟨31, .chain⟩], none⟩) (v := ?v46) rfl (by kernel_rfl) (by kernel_rfl) (by kernel_rfl) (fun _ _ _ h => h) (Or.inl ⟨rfl, ?hy46⟩) hHeld44 ?rest46
        case hy46 => (intro w hSw; (try dsimp only at hSw); go_simp <;> first | with_reducible rfl | rw [if_neg (by omega)] | rw [if_pos (by omega)])
        (try simp only [Act.put]); (try simp only [List.setIfInBounds_toArray]); (try simp only [List.set_cons_succ]); (try simp only [List.set_cons_zero])
        refine wpAnyH_take (i := 34) (oi := ⟨(some 71), (.fieldAddr 25 (.tmp 5) 1), 0, "law.go:20", #[⟨33, .guard⟩], (some (33, true))⟩) (v := ?v47) rfl (by kernel_rfl) (by kernel_rfl) (by kernel_rfl) (fun _ _ _ h => h) (Or.inl ⟨rfl, ?hy47⟩) hHeld44 ?rest47
        case hy47 => (intro w hSw; (try dsimp only at hSw); go_simp <;> first | with_reducible rfl | rw [if_neg (by omega)] | rw [if_pos (by omega)])
        (try simp only [Act.put]); (try simp only [List.setIfInBounds_toArray]); (try simp only [List.set_cons_succ]); (try simp only [List.set_cons_zero])
        refine wpAnyH_take (i := 35) (oi := ⟨(some 72), (.load 23 (.tmp 71)), 23, "law.go:20", #[⟨34, .data⟩, ⟨33, .guard⟩], (some (33, true))⟩) (v := ?v48) rfl (by kernel_rfl) (by kernel_rfl) (by kernel_rfl) (fun _ _ _ h => h) (Or.inl ⟨rfl, ?hy48⟩) hHeld44 ?rest48
        case hy48 => (intro w hSw; (try dsimp only at hSw); go_simp <;> first | with_reducible rfl | rw [if_neg (by omega)] | rw [if_pos (by omega)])
        (try simp only [Act.put]); (try simp only [List.setIfInBounds_toArray]); (try simp only [List.set_cons_succ]); (try simp only [List.set_cons_zero])
        refine wpAnyH_take (i := 36) (oi := ⟨(some 73), (.call { callee := (.builtin .len), args := #[(.tmp 72)], argTypes := #[23] }), 3, "law.go:20", #[⟨35, .data⟩, ⟨33, .guard⟩], (some (33, true))⟩) (v := ?v49) rfl (by kernel_rfl) (by kernel_rfl) (by kernel_rfl) (fun _ _ _ h => h) (Or.inl ⟨rfl, ?hy49⟩) hHeld44 ?rest49
        case hy49 => (intro w hSw; (try dsimp only at hSw); go_simp <;> first | with_reducible rfl | rw [if_neg (by omega)] | rw [if_pos (by omega)])
        (try simp only [Act.put]); (try simp only [List.setIfInBounds_toArray]); (try simp only [List.set_cons_succ]); (try simp only [List.set_cons_zero])
        refine wpAnyH_take (i := 37) (oi := ⟨(some 74), (.binOp .eql 3 (.tmp 73) (.const (.int .i64 3)) 3), 4, "law.go:20", #[⟨36, .data⟩, ⟨33, .guard⟩], (some (33, true))⟩) (v := ?v50) rfl (by kernel_rfl) (by kernel_rfl) (by kernel_rfl) (fun _ _ _ h => h) (Or.inl ⟨rfl, ?hy50⟩) hHeld44 ?rest50
        case hy50 => (intro w hSw; (try dsimp only at hSw); go_simp <;> first | with_reducible rfl | rw [if_neg (by omega)] | rw [if_pos (by omega)])
        (try simp only [Act.put]); (try simp only [List.setIfInBounds_toArray]); (try simp only [List.set_cons_succ]); (try simp only [List.set_cons_zero])
        refine wpAnyH_take (i := 38) (oi := ⟨(some 75), (.pick (.tmp 70) (.tmp 74) (.const (.bool false))), 4, "law.go:20", #[⟨33, .data⟩, ⟨37, .data⟩], none⟩) (v := ?v51) rfl (by kernel_rfl) (by kernel_rfl) (by kernel_rfl) (fun _ _ _ h => h) (Or.inl ⟨rfl, ?hy51⟩) hHeld44 ?rest51
        case hy51 => (intro w hSw; (try dsimp only at hSw); go_simp <;> first | with_reducible rfl | rw [if_neg (by omega)] | rw [if_pos (by omega)])
        (try simp only [Act.put]); (try simp only [List.setIfInBounds_toArray]); (try simp only [List.set_cons_succ]); (try simp only [List.set_cons_zero])
        refine wpAnyH_take (i := 39) (oi := ⟨(some 0), (.assign (.tmp 75)), 4, "law.go:20", #[⟨38, .data⟩, ⟨33, .chain⟩, ⟨0, .phase⟩, ⟨1, .phase⟩, ⟨2, .phase⟩, ⟨3, .phase⟩, ⟨4, .phase⟩, ⟨5, .phase⟩, ⟨6, .phase⟩, ⟨7, .phase⟩, ⟨8, .phase⟩, ⟨9, .phase⟩, ⟨10, .phase⟩, ⟨11, .phase⟩, ⟨12, .phase⟩, ⟨13, .phase⟩, ⟨14, .phase⟩, ⟨15, .phase⟩, ⟨16, .phase⟩, ⟨17, .phase⟩, ⟨18, .phase⟩, ⟨19, .phase⟩, ⟨20, .phase⟩, ⟨21, .phase⟩, ⟨22, .phase⟩, ⟨23, .phase⟩, ⟨24, .phase⟩, ⟨25, .phase⟩, ⟨26, .phase⟩, ⟨27, .phase⟩, ⟨28, .phase⟩, ⟨29, .phase⟩, ⟨30, .phase⟩, ⟨31, .phase⟩, ⟨32, .phase⟩, ⟨33, .phase⟩, ⟨34, .phase⟩, ⟨35, .phase⟩, ⟨36, .phase⟩, ⟨37, .phase⟩, ⟨38, .phase⟩], none⟩) (v := ?v52) rfl (by kernel_rfl) (by kernel_rfl) (by kernel_rfl) (fun _ _ _ h => h) (Or.inl ⟨rfl, ?hy52⟩) hHeld44 ?rest52
        case hy52 => (intro w hSw; (try dsimp only at hSw); go_simp <;> first | with_reducible rfl | rw [if_neg (by omega)] | rw [if_pos (by omega)])
        (try simp only [Act.put]); (try simp only [List.setIfInBounds_toArray]); (try simp only [List.set_cons_succ]); (try simp only [List.set_cons_zero])
        refine wpAnyH_done (by kernel_rfl) ?_ _
        clear hHeld44
        go_wp2_with fail
        go_ret
        exact ⟨rfl, xE.trans y31⟩
      go_simp
      (obtain ⟨g25, w25, hg25, hw25, v25, x25⟩ := row_lit w27 [1, 2, 5] (by decide); change w25 = w27.alloc (.cells #[.int .i64 2, .int .i64 1, .int .i64 0, .string ByteArray.empty, .slice none 0 0, .int .i64 2, .int .i64 2, .int .i64 0, .string ByteArray.empty, .slice none 0 0, .int .i64 2, .int .i64 5, .int .i64 0, .string ByteArray.empty, .slice none 0 0] 40) at hw25; rw [← hw25, ← hg25]; clear hg25 hw25; have y25 : Ext W20 w25 := Ext.trans y27 x25)
      refine hK.out _ _ ?hS29x0 (fun hHeld29 => ?rest29x0)
      case hS29x0 => first | (exact MKR.out _ (by repeat (first | with_reducible exact Ext.refl _ | with_reducible assumption | with_reducible refine Ext.drew ?_ | with_reducible refine Ext.drewN ?_ _ | with_reducible refine Ext.alloc ?_ _))) | ((try dsimp only); (exact MKR.out _ (by repeat (first | with_reducible exact Ext.refl _ | with_reducible assumption | with_reducible refine Ext.drew ?_ | with_reducible refine Ext.drewN ?_ _ | with_reducible refine Ext.alloc ?_ _))))
      clear hK K
      clear hHeld28
      (try simp only [Act.put]); (try simp only [List.setIfInBounds_toArray]); (try simp only [List.set_cons_succ]); (try simp only [List.set_cons_zero])
      refine wpAnyH_ready (rs := [28]) (by kernel_rfl) (by simp) ?_
      refine AllReadyH.cons (o := ⟨(some 65), (.call { callee := (.value (.func 29)), args := #[(.const (.int .i64 6))], argTypes := #[3] }), 40, "law.go:20", #[⟨27, .chain⟩, ⟨19, .guard⟩], (some (19, true))⟩) rfl (fun K hK => ?step53x0) ?more53x0
      case more53x0 => exact AllReadyH.nil
      go_simp
      (refine (HN.out 6 _).mono ?_; rintro e w28 ⟨rfl, x28⟩; have y28 : Ext W20 w28 := Ext.trans (by repeat (first | with_reducible exact Ext.refl _ | with_reducible assumption | with_reducible refine Ext.drew ?_ | with_reducible refine Ext.drewN ?_ _ | with_reducible refine Ext.alloc ?_ _)) x28)
      refine hK.out _ _ ?hS53x0 (fun hHeld53 => ?rest53x0)
      case hS53x0 => first | (exact MKR.out _ (by repeat (first | with_reducible exact Ext.refl _ | with_reducible assumption | with_reducible refine Ext.drew ?_ | with_reducible refine Ext.drewN ?_ _ | with_reducible refine Ext.alloc ?_ _))) | ((try dsimp only); (exact MKR.out _ (by repeat (first | with_reducible exact Ext.refl _ | with_reducible assumption | with_reducible refine Ext.drew ?_ | with_reducible refine Ext.drewN ?_ _ | with_reducible refine Ext.alloc ?_ _))))
      clear hK K
      clear hHeld29
      (try simp only [Act.put]); (try simp only [List.setIfInBounds_toArray]); (try simp only [List.set_cons_succ]); (try simp only [List.set_cons_zero])
      refine wpAnyH_ready (rs := [29]) (by kernel_rfl) (by simp) ?_
      refine AllReadyH.cons (o := ⟨(some 66), (.buildSlice 37 3 #[(0, (.tmp 63)), (1, (.tmp 64)), (2, (.tmp 65))]), 37, "law.go:20", #[⟨26, .data⟩, ⟨27, .data⟩, ⟨28, .data⟩, ⟨19, .guard⟩], (some (19, true))⟩) rfl (fun K hK => ?step54x0) ?more54x0
      case more54x0 => exact AllReadyH.nil
      go_simp
      (obtain ⟨g29, w29, hg29, hw29, v29, x29⟩ := row_lit w28 [1, 2, 6] (by decide); change w29 = w28.alloc (.cells #[.int .i64 2, .int .i64 1, .int .i64 0, .string ByteArray.empty, .slice none 0 0, .int .i64 2, .int .i64 2, .int .i64 0, .string ByteArray.empty, .slice none 0 0, .int .i64 2, .int .i64 6, .int .i64 0, .string ByteArray.empty, .slice none 0 0] 40) at hw29; rw [← hw29, ← hg29]; clear hg29 hw29; have y29 : Ext W20 w29 := Ext.trans y28 x29)
      refine hK.out _ _ ?hS54x0 (fun hHeld54 => ?rest54x0)
      case hS54x0 => first | (exact MKR.out _ (by repeat (first | with_reducible exact Ext.refl _ | with_reducible assumption | with_reducible refine Ext.drew ?_ | with_reducible refine Ext.drewN ?_ _ | with_reducible refine Ext.alloc ?_ _))) | ((try dsimp only); (exact MKR.out _ (by repeat (first | with_reducible exact Ext.refl _ | with_reducible assumption | with_reducible refine Ext.drew ?_ | with_reducible refine Ext.drewN ?_ _ | with_reducible refine Ext.alloc ?_ _))))
      clear hK K
      clear hHeld53
      (try simp only [Act.put]); (try simp only [List.setIfInBounds_toArray]); (try simp only [List.set_cons_succ]); (try simp only [List.set_cons_zero])
      refine wpAnyH_ready (rs := [30]) (by kernel_rfl) (by simp) ?_
      refine AllReadyH.cons (o := ⟨(some 67), (.buildSlice 23 2 #[(0, (.tmp 62)), (1, (.tmp 66))]), 23, "law.go:20", #[⟨25, .data⟩, ⟨29, .data⟩, ⟨19, .guard⟩], (some (19, true))⟩) rfl (fun K hK => ?step55x0) ?more55x0
      case more55x0 => exact AllReadyH.nil
      go_simp
      (obtain ⟨g30, w30, hg30, hw30, v30, x30⟩ := rows_lit w29 (some ⟨g25, 0, none⟩) (some ⟨g29, 0, none⟩) 3 3 [numV 1, numV 2, numV 5] [numV 1, numV 2, numV 6] (v25.ext (x28.trans x29)) (v29.ext (Ext.refl _)) (by decide) (by decide); change w30 = w29.alloc (.cells #[.slice (some ⟨g25, 0, none⟩) 3 3, .slice (some ⟨g29, 0, none⟩) 3 3] 37) at hw30; rw [← hw30, ← hg30]; clear hg30 hw30; have y30 : Ext W20 w30 := Ext.trans y29 x30)
      refine hK.out _ _ ?hS55x0 (fun hHeld55 => ?rest55x0)
      case hS55x0 => first | (exact MKR.out _ (by repeat (first | with_reducible exact Ext.refl _ | with_reducible assumption | with_reducible refine Ext.drew ?_ | with_reducible refine Ext.drewN ?_ _ | with_reducible refine Ext.alloc ?_ _))) | ((try dsimp only); (exact MKR.out _ (by repeat (first | with_reducible exact Ext.refl _ | with_reducible assumption | with_reducible refine Ext.drew ?_ | with_reducible refine Ext.drewN ?_ _ | with_reducible refine Ext.alloc ?_ _))))
      clear hK K
      clear hHeld54
      (try simp only [Act.put]); (try simp only [List.setIfInBounds_toArray]); (try simp only [List.set_cons_succ]); (try simp only [List.set_cons_zero])
      refine wpAnyH_ready (rs := [31]) (by kernel_rfl) (by simp) ?_
      refine AllReadyH.cons (o := ⟨(some 68), (.call { callee := (.value (.func 26)), args := #[(.tmp 58), (.tmp 67)], argTypes := #[23, 23] }), 4, "law.go:20", #[⟨21, .data⟩, ⟨30, .data⟩, ⟨28, .chain⟩, ⟨19, .guard⟩], (some (19, true))⟩) rfl (fun K hK => ?step56x0) ?more56x0
      case more56x0 => exact AllReadyH.nil
      go_simp
      (refine (HSR.out w30 y30 g30 (v30.ext (Ext.refl _))).mono ?_; rintro e w31 ⟨rfl, x31⟩; have y31 : Ext W20 w31 := Ext.trans y30 x31)
      refine hK.out _ _ ?hS56x0 (fun hHeld56 => ?rest56x0)
      case hS56x0 => first | (exact MKR.out _ (by repeat (first | with_reducible exact Ext.refl _ | with_reducible assumption | with_reducible refine Ext.drew ?_ | with_reducible refine Ext.drewN ?_ _ | with_reducible refine Ext.alloc ?_ _))) | ((try dsimp only); (exact MKR.out _ (by repeat (first | with_reducible exact Ext.refl _ | with_reducible assumption | with_reducible refine Ext.drew ?_ | with_reducible refine Ext.drewN ?_ _ | with_reducible refine Ext.alloc ?_ _))))
      clear hK K
      clear hHeld55
      (try simp only [Act.put]); (try simp only [List.setIfInBounds_toArray]); (try simp only [List.set_cons_succ]); (try simp only [List.set_cons_zero])
      refine wpAnyH_take (i := 32) (oi := ⟨(some 69), (.pick (.tmp 56) (.tmp 68) (.const (.bool false))), 4, "law.go:20", #[⟨19, .data⟩, ⟨31, .data⟩], none⟩) (v := ?v57) rfl (by kernel_rfl) (by kernel_rfl) (by kernel_rfl) (fun _ _ _ h => h) (Or.inl ⟨rfl, ?hy57⟩) hHeld56 ?rest57
      case hy57 => (intro w hSw; (try dsimp only at hSw); go_simp <;> first | with_reducible rfl | rw [if_neg (by omega)] | rw [if_pos (by omega)])
      (try simp only [Act.put]); (try simp only [List.setIfInBounds_toArray]); (try simp only [List.set_cons_succ]); (try simp only [List.set_cons_zero])
      refine wpAnyH_take (i := 33) (oi := ⟨(some 70), (.move (.tmp 69)), 4, "law.go:20", #[⟨32, .data⟩, ⟨31, .chain⟩], none⟩) (v := ?v58) rfl (by kernel_rfl) (by kernel_rfl) (by kernel_rfl) (fun _ _ _ h => h) (Or.inl ⟨rfl, ?hy58⟩) hHeld56 ?rest58
      case hy58 => (intro w hSw; (try dsimp only at hSw); go_simp <;> first | with_reducible rfl | rw [if_neg (by omega)] | rw [if_pos (by omega)])
      (try simp only [Act.put]); (try simp only [List.setIfInBounds_toArray]); (try simp only [List.set_cons_succ]); (try simp only [List.set_cons_zero])
      refine wpAnyH_take (i := 34) (oi := ⟨(some 71), (.fieldAddr 25 (.tmp 5) 1), 0, "law.go:20", #[⟨33, .guard⟩], (some (33, true))⟩) (v := ?v59) rfl (by kernel_rfl) (by kernel_rfl) (by kernel_rfl) (fun _ _ _ h => h) (Or.inl ⟨rfl, ?hy59⟩) hHeld56 ?rest59
      case hy59 => (intro w hSw; (try dsimp only at hSw); go_simp <;> first | with_reducible rfl | rw [if_neg (by omega)] | rw [if_pos (by omega)])
      (try simp only [Act.put]); (try simp only [List.setIfInBounds_toArray]); (try simp only [List.set_cons_succ]); (try simp only [List.set_cons_zero])
      refine wpAnyH_take (i := 35) (oi := ⟨(some 72), (.load 23 (.tmp 71)), 23, "law.go:20", #[⟨34, .data⟩, ⟨33, .guard⟩], (some (33, true))⟩) (v := ?v60) rfl (by kernel_rfl) (by kernel_rfl) (by kernel_rfl) (fun _ _ _ h => h) (Or.inl ⟨rfl, ?hy60⟩) hHeld56 ?rest60
      case hy60 => (intro w hSw; (try dsimp only at hSw); go_simp <;> first | with_reducible rfl | rw [if_neg (by omega)] | rw [if_pos (by omega)])
      (try simp only [Act.put]); (try simp only [List.setIfInBounds_toArray]); (try simp only [List.set_cons_succ]); (try simp only [List.set_cons_zero])
      refine wpAnyH_take (i := 36) (oi := ⟨(some 73), (.call { callee := (.builtin .len), args := #[(.tmp 72)], argTypes := #[23] }), 3, "law.go:20", #[⟨35, .data⟩, ⟨33, .guard⟩], (some (33, true))⟩) (v := ?v61) rfl (by kernel_rfl) (by kernel_rfl) (by kernel_rfl) (fun _ _ _ h => h) (Or.inl ⟨rfl, ?hy61⟩) hHeld56 ?rest61
      case hy61 => (intro w hSw; (try dsimp only at hSw); go_simp <;> first | with_reducible rfl | rw [if_neg (by omega)] | rw [if_pos (by omega)])
      (try simp only [Act.put]); (try simp only [List.setIfInBounds_toArray]); (try simp only [List.set_cons_succ]); (try simp only [List.set_cons_zero])
      refine wpAnyH_take (i := 37) (oi := ⟨(some 74), (.binOp .eql 3 (.tmp 73) (.const (.int .i64 3)) 3), 4, "law.go:20", #[⟨36, .data⟩, ⟨33, .guard⟩], (some (33, true))⟩) (v := ?v62) rfl (by kernel_rfl) (by kernel_rfl) (by kernel_rfl) (fun _ _ _ h => h) (Or.inl ⟨rfl, ?hy62⟩) hHeld56 ?rest62
      case hy62 => (intro w hSw; (try dsimp only at hSw); go_simp <;> first | with_reducible rfl | rw [if_neg (by omega)] | rw [if_pos (by omega)])
      (try simp only [Act.put]); (try simp only [List.setIfInBounds_toArray]); (try simp only [List.set_cons_succ]); (try simp only [List.set_cons_zero])
      refine wpAnyH_take (i := 38) (oi := ⟨(some 75), (.pick (.tmp 70) (.tmp 74) (.const (.bool false))), 4, "law.go:20", #[⟨33, .data⟩, ⟨37, .data⟩], none⟩) (v := ?v63) rfl (by kernel_rfl) (by kernel_rfl) (by kernel_rfl) (fun _ _ _ h => h) (Or.inl ⟨rfl, ?hy63⟩) hHeld56 ?rest63
      case hy63 => (intro w hSw; (try dsimp only at hSw); go_simp <;> first | with_reducible rfl | rw [if_neg (by omega)] | rw [if_pos (by omega)])
      (try simp only [Act.put]); (try simp only [List.setIfInBounds_toArray]); (try simp only [List.set_cons_succ]); (try simp only [List.set_cons_zero])
      refine wpAnyH_take (i := 39) (oi := ⟨(some 0), (.assign (.tmp 75)), 4, "law.go:20", #[⟨38, .data⟩, ⟨33, .chain⟩, ⟨0, .phase⟩, ⟨1, .phase⟩, ⟨2, .phase⟩, ⟨3, .phase⟩, ⟨4, .phase⟩, ⟨5, .phase⟩, ⟨6, .phase⟩, ⟨7, .phase⟩, ⟨8, .phase⟩, ⟨9, .phase⟩, ⟨10, .phase⟩, ⟨11, .phase⟩, ⟨12, .phase⟩, ⟨13, .phase⟩, ⟨14, .phase⟩, ⟨15, .phase⟩, ⟨16, .phase⟩, ⟨17, .phase⟩, ⟨18, .phase⟩, ⟨19, .phase⟩, ⟨20, .phase⟩, ⟨21, .phase⟩, ⟨22, .phase⟩, ⟨23, .phase⟩, ⟨24, .phase⟩, ⟨25, .phase⟩, ⟨26, .phase⟩, ⟨27, .phase⟩, ⟨28, .phase⟩, ⟨29, .phase⟩, ⟨30, .phase⟩, ⟨31, .phase⟩, ⟨32, .phase⟩, ⟨33, .phase⟩, ⟨34, .phase⟩, ⟨35, .phase⟩, ⟨36, .phase⟩, ⟨37, .phase⟩, ⟨38, .phase⟩], none⟩) (v := ?v64) rfl (by kernel_rfl) (by kernel_rfl) (by kernel_rfl) (fun _ _ _ h => h) (Or.inl ⟨rfl, ?hy64⟩) hHeld56 ?rest64
      case hy64 => (intro w hSw; (try dsimp only at hSw); go_simp <;> first | with_reducible rfl | rw [if_neg (by omega)] | rw [if_pos (by omega)])
      (try simp only [Act.put]); (try simp only [List.setIfInBounds_toArray]); (try simp only [List.set_cons_succ]); (try simp only [List.set_cons_zero])
      refine wpAnyH_done (by kernel_rfl) ?_ _
      clear hHeld56
      go_wp2_with fail
      go_ret
      exact ⟨rfl, xE.trans y31⟩
    go_simp
    (obtain ⟨g25, w25, hg25, hw25, v25, x25⟩ := row_lit w26 [1, 2, 5] (by decide); change w25 = w26.alloc (.cells #[.int .i64 2, .int .i64 1, .int .i64 0, .string ByteArray.empty, .slice none 0 0, .int .i64 2, .int .i64 2, .int .i64 0, .string ByteArray.empty, .slice none 0 0, .int .i64 2, .int .i64 5, .int .i64 0, .string ByteArray.empty, .slice none 0 0] 40) at hw25; rw [← hw25, ← hg25]; clear hg25 hw25; have y25 : Ext W20 w25 := Ext.trans y26 x25)
    refine hK.out _ _ ?hS28x0 (fun hHeld28 => ?rest28x0)
    case hS28x0 => first | (exact MKR.out _ (by repeat (first | with_reducible exact Ext.refl _ | with_reducible assumption | with_reducible refine Ext.drew ?_ | with_reducible refine Ext.drewN ?_ _ | with_reducible refine Ext.alloc ?_ _))) | ((try dsimp only); (exact MKR.out _ (by repeat (first | with_reducible exact Ext.refl _ | with_reducible assumption | with_reducible refine Ext.drew ?_ | with_reducible refine Ext.drewN ?_ _ | with_reducible refine Ext.alloc ?_ _))))
    clear hK K
    clear hHeld27
    (try simp only [Act.put]); (try simp only [List.setIfInBounds_toArray]); (try simp only [List.set_cons_succ]); (try simp only [List.set_cons_zero])
    refine wpAnyH_ready (rs := [27]) (by kernel_rfl) (by simp) ?_
    refine AllReadyH.cons (o := ⟨(some 64), (.call { callee := (.value (.func 29)), args := #[(.const (.int .i64 2))], argTypes := #[3] }), 40, "law.go:20", #[⟨26, .chain⟩, ⟨19, .guard⟩], (some (19, true))⟩) rfl (fun K hK => ?step65x0) ?more65x0
    case more65x0 => exact AllReadyH.nil
    go_simp
    (refine (HN.out 2 _).mono ?_; rintro e w27 ⟨rfl, x27⟩; have y27 : Ext W20 w27 := Ext.trans (by repeat (first | with_reducible exact Ext.refl _ | with_reducible assumption | with_reducible refine Ext.drew ?_ | with_reducible refine Ext.drewN ?_ _ | with_reducible refine Ext.alloc ?_ _)) x27)
    refine hK.out _ _ ?hS65x0 (fun hHeld65 => ?rest65x0)
    case hS65x0 => first | (exact MKR.out _ (by repeat (first | with_reducible exact Ext.refl _ | with_reducible assumption | with_reducible refine Ext.drew ?_ | with_reducible refine Ext.drewN ?_ _ | with_reducible refine Ext.alloc ?_ _))) | ((try dsimp only); (exact MKR.out _ (by repeat (first | with_reducible exact Ext.refl _ | with_reducible assumption | with_reducible refine Ext.drew ?_ | with_reducible refine Ext.drewN ?_ _ | with_reducible refine Ext.alloc ?_ _))))
    clear hK K
    clear hHeld28
    (try simp only [Act.put]); (try simp only [List.setIfInBounds_toArray]); (try simp only [List.set_cons_succ]); (try simp only [List.set_cons_zero])
    refine wpAnyH_ready (rs := [28]) (by kernel_rfl) (by simp) ?_
    refine AllReadyH.cons (o := ⟨(some 65), (.call { callee := (.value (.func 29)), args := #[(.const (.int .i64 6))], argTypes := #[3] }), 40, "law.go:20", #[⟨27, .chain⟩, ⟨19, .guard⟩], (some (19, true))⟩) rfl (fun K hK => ?step66x0) ?more66x0
    case more66x0 => exact AllReadyH.nil
    go_simp
    (refine (HN.out 6 _).mono ?_; rintro e w28 ⟨rfl, x28⟩; have y28 : Ext W20 w28 := Ext.trans (by repeat (first | with_reducible exact Ext.refl _ | with_reducible assumption | with_reducible refine Ext.drew ?_ | with_reducible refine Ext.drewN ?_ _ | with_reducible refine Ext.alloc ?_ _)) x28)
    refine hK.out _ _ ?hS66x0 (fun hHeld66 => ?rest66x0)
    case hS66x0 => first | (exact MKR.out _ (by repeat (first | with_reducible exact Ext.refl _ | with_reducible assumption | with_reducible refine Ext.drew ?_ | with_reducible refine Ext.drewN ?_ _ | with_reducible refine Ext.alloc ?_ _))) | ((try dsimp only); (exact MKR.out _ (by repeat (first | with_reducible exact Ext.refl _ | with_reducible assumption | with_reducible refine Ext.drew ?_ | with_reducible refine Ext.drewN ?_ _ | with_reducible refine Ext.alloc ?_ _))))
    clear hK K
    clear hHeld65
    (try simp only [Act.put]); (try simp only [List.setIfInBounds_toArray]); (try simp only [List.set_cons_succ]); (try simp only [List.set_cons_zero])
    refine wpAnyH_ready (rs := [29]) (by kernel_rfl) (by simp) ?_
    refine AllReadyH.cons (o := ⟨(some 66), (.buildSlice 37 3 #[(0, (.tmp 63)), (1, (.tmp 64)), (2, (.tmp 65))]), 37, "law.go:20", #[⟨26, .data⟩, ⟨27, .data⟩, ⟨28, .data⟩, ⟨19, .guard⟩], (some (19, true))⟩) rfl (fun K hK => ?step67x0) ?more67x0
    case more67x0 => exact AllReadyH.nil
    go_simp
    (obtain ⟨g29, w29, hg29, hw29, v29, x29⟩ := row_lit w28 [1, 2, 6] (by decide); change w29 = w28.alloc (.cells #[.int .i64 2, .int .i64 1, .int .i64 0, .string ByteArray.empty, .slice none 0 0, .int .i64 2, .int .i64 2, .int .i64 0, .string ByteArray.empty, .slice none 0 0, .int .i64 2, .int .i64 6, .int .i64 0, .string ByteArray.empty, .slice none 0 0] 40) at hw29; rw [← hw29, ← hg29]; clear hg29 hw29; have y29 : Ext W20 w29 := Ext.trans y28 x29)
    refine hK.out _ _ ?hS67x0 (fun hHeld67 => ?rest67x0)
    case hS67x0 => first | (exact MKR.out _ (by repeat (first | with_reducible exact Ext.refl _ | with_reducible assumption | with_reducible refine Ext.drew ?_ | with_reducible refine Ext.drewN ?_ _ | with_reducible refine Ext.alloc ?_ _))) | ((try dsimp only); (exact MKR.out _ (by repeat (first | with_reducible exact Ext.refl _ | with_reducible assumption | with_reducible refine Ext.drew ?_ | with_reducible refine Ext.drewN ?_ _ | with_reducible refine Ext.alloc ?_ _))))
    clear hK K
    clear hHeld66
    (try simp only [Act.put]); (try simp only [List.setIfInBounds_toArray]); (try simp only [List.set_cons_succ]); (try simp only [List.set_cons_zero])
    refine wpAnyH_ready (rs := [30]) (by kernel_rfl) (by simp) ?_
    refine AllReadyH.cons (o := ⟨(some 67), (.buildSlice 23 2 #[(0, (.tmp 62)), (1, (.tmp 66))]), 23, "law.go:20", #[⟨25, .data⟩, ⟨29, .data⟩, ⟨19, .guard⟩], (some (19, true))⟩) rfl (fun K hK => ?step68x0) ?more68x0
    case more68x0 => exact AllReadyH.nil
    go_simp
    (obtain ⟨g30, w30, hg30, hw30, v30, x30⟩ := rows_lit w29 (some ⟨g25, 0, none⟩) (some ⟨g29, 0, none⟩) 3 3 [numV 1, numV 2, numV 5] [numV 1, numV 2, numV 6] (v25.ext (x27.trans (x28.trans x29))) (v29.ext (Ext.refl _)) (by decide) (by decide); change w30 = w29.alloc (.cells #[.slice (some ⟨g25, 0, none⟩) 3 3, .slice (some ⟨g29, 0, none⟩) 3 3] 37) at hw30; rw [← hw30, ← hg30]; clear hg30 hw30; have y30 : Ext W20 w30 := Ext.trans y29 x30)
    refine hK.out _ _ ?hS68x0 (fun hHeld68 => ?rest68x0)
    case hS68x0 => first | (exact MKR.out _ (by repeat (first | with_reducible exact Ext.refl _ | with_reducible assumption | with_reducible refine Ext.drew ?_ | with_reducible refine Ext.drewN ?_ _ | with_reducible refine Ext.alloc ?_ _))) | ((try dsimp only); (exact MKR.out _ (by repeat (first | with_reducible exact Ext.refl _ | with_reducible assumption | with_reducible refine Ext.drew ?_ | with_reducible refine Ext.drewN ?_ _ | with_reducible refine Ext.alloc ?_ _))))
    clear hK K
    clear hHeld67
    (try simp only [Act.put]); (try simp only [List.setIfInBounds_toArray]); (try simp only [List.set_cons_succ]); (try simp only [List.set_cons_zero])
    refine wpAnyH_ready (rs := [31]) (by kernel_rfl) (by simp) ?_
    refine AllReadyH.cons (o := ⟨(some 68), (.call { callee := (.value (.func 26)), args := #[(.tmp 58), (.tmp 67)], argTypes := #[23, 23] }), 4, "law.go:20", #[⟨21, .data⟩, ⟨30, .data⟩, ⟨28, .chain⟩, ⟨19, .guard⟩], (some (19, true))⟩) rfl (fun K hK => ?step69x0) ?more69x0
    case more69x0 => exact AllReadyH.nil
    go_simp
    (refine (HSR.out w30 y30 g30 (v30.ext (Ext.refl _))).mono ?_; rintro e w31 ⟨rfl, x31⟩; have y31 : Ext W20 w31 := Ext.trans y30 x31)
    refine hK.out _ _ ?hS69x0 (fun hHeld69 => ?rest69x0)
    case hS69x0 => first | (exact MKR.out _ (by repeat (first | with_reducible exact Ext.refl _ | with_reducible assumption | with_reducible refine Ext.drew ?_ | with_reducible refine Ext.drewN ?_ _ | with_reducible refine Ext.alloc ?_ _))) | ((try dsimp only); (exact MKR.out _ (by repeat (first | with_reducible exact Ext.refl _ | with_reducible assumption | with_reducible refine Ext.drew ?_ | with_reducible refine Ext.drewN ?_ _ | with_reducible refine Ext.alloc ?_ _))))
    clear hK K
    clear hHeld68
    (try simp only [Act.put]); (try simp only [List.setIfInBounds_toArray]); (try simp only [List.set_cons_succ]); (try simp only [List.set_cons_zero])
    refine wpAnyH_take (i := 32) (oi := ⟨(some 69), (.pick (.tmp 56) (.tmp 68) (.const (.bool false))), 4, "law.go:20", #[⟨19, .data⟩, ⟨31, .data⟩], none⟩) (v := ?v70) rfl (by kernel_rfl) (by kernel_rfl) (by kernel_rfl) (fun _ _ _ h => h) (Or.inl ⟨rfl, ?hy70⟩) hHeld69 ?rest70
    case hy70 => (intro w hSw; (try dsimp only at hSw); go_simp <;> first | with_reducible rfl | rw [if_neg (by omega)] | rw [if_pos (by omega)])
    (try simp only [Act.put]); (try simp only [List.setIfInBounds_toArray]); (try simp only [List.set_cons_succ]); (try simp only [List.set_cons_zero])
    refine wpAnyH_take (i := 33) (oi := ⟨(some 70), (.move (.tmp 69)), 4, "law.go:20", #[⟨32, .data⟩, ⟨31, .chain⟩], none⟩) (v := ?v71) rfl (by kernel_rfl) (by kernel_rfl) (by kernel_rfl) (fun _ _ _ h => h) (Or.inl ⟨rfl, ?hy71⟩) hHeld69 ?rest71
    case hy71 => (intro w hSw; (try dsimp only at hSw); go_simp <;> first | with_reducible rfl | rw [if_neg (by omega)] | rw [if_pos (by omega)])
    (try simp only [Act.put]); (try simp only [List.setIfInBounds_toArray]); (try simp only [List.set_cons_succ]); (try simp only [List.set_cons_zero])
    refine wpAnyH_take (i := 34) (oi := ⟨(some 71), (.fieldAddr 25 (.tmp 5) 1), 0, "law.go:20", #[⟨33, .guard⟩], (some (33, true))⟩) (v := ?v72) rfl (by kernel_rfl) (by kernel_rfl) (by kernel_rfl) (fun _ _ _ h => h) (Or.inl ⟨rfl, ?hy72⟩) hHeld69 ?rest72
    case hy72 => (intro w hSw; (try dsimp only at hSw); go_simp <;> first | with_reducible rfl | rw [if_neg (by omega)] | rw [if_pos (by omega)])
    (try simp only [Act.put]); (try simp only [List.setIfInBounds_toArray]); (try simp only [List.set_cons_succ]); (try simp only [List.set_cons_zero])
    refine wpAnyH_take (i := 35) (oi := ⟨(some 72), (.load 23 (.tmp 71)), 23, "law.go:20", #[⟨34, .data⟩, ⟨33, .guard⟩], (some (33, true))⟩) (v := ?v73) rfl (by kernel_rfl) (by kernel_rfl) (by kernel_rfl) (fun _ _ _ h => h) (Or.inl ⟨rfl, ?hy73⟩) hHeld69 ?rest73
    case hy73 => (intro w hSw; (try dsimp only at hSw); go_simp <;> first | with_reducible rfl | rw [if_neg (by omega)] | rw [if_pos (by omega)])
    (try simp only [Act.put]); (try simp only [List.setIfInBounds_toArray]); (try simp only [List.set_cons_succ]); (try simp only [List.set_cons_zero])
    refine wpAnyH_take (i := 36) (oi := ⟨(some 73), (.call { callee := (.builtin .len), args := #[(.tmp 72)], argTypes := #[23] }), 3, "law.go:20", #[⟨35, .data⟩, ⟨33, .guard⟩], (some (33, true))⟩) (v := ?v74) rfl (by kernel_rfl) (by kernel_rfl) (by kernel_rfl) (fun _ _ _ h => h) (Or.inl ⟨rfl, ?hy74⟩) hHeld69 ?rest74
    case hy74 => (intro w hSw; (try dsimp only at hSw); go_simp <;> first | with_reducible rfl | rw [if_neg (by omega)] | rw [if_pos (by omega)])
    (try simp only [Act.put]); (try simp only [List.setIfInBounds_toArray]); (try simp only [List.set_cons_succ]); (try simp only [List.set_cons_zero])
    refine wpAnyH_take (i := 37) (oi := ⟨(some 74), (.binOp .eql 3 (.tmp 73) (.const (.int .i64 3)) 3), 4, "law.go:20", #[⟨36, .data⟩, ⟨33, .guard⟩], (some (33, true))⟩) (v := ?v75) rfl (by kernel_rfl) (by kernel_rfl) (by kernel_rfl) (fun _ _ _ h => h) (Or.inl ⟨rfl, ?hy75⟩) hHeld69 ?rest75
    case hy75 => (intro w hSw; (try dsimp only at hSw); go_simp <;> first | with_reducible rfl | rw [if_neg (by omega)] | rw [if_pos (by omega)])
    (try simp only [Act.put]); (try simp only [List.setIfInBounds_toArray]); (try simp only [List.set_cons_succ]); (try simp only [List.set_cons_zero])
    refine wpAnyH_take (i := 38) (oi := ⟨(some 75), (.pick (.tmp 70) (.tmp 74) (.const (.bool false))), 4, "law.go:20", #[⟨33, .data⟩, ⟨37, .data⟩], none⟩) (v := ?v76) rfl (by kernel_rfl) (by kernel_rfl) (by kernel_rfl) (fun _ _ _ h => h) (Or.inl ⟨rfl, ?hy76⟩) hHeld69 ?rest76
    case hy76 => (intro w hSw; (try dsimp only at hSw); go_simp <;> first | with_reducible rfl | rw [if_neg (by omega)] | rw [if_pos (by omega)])
    (try simp only [Act.put]); (try simp only [List.setIfInBounds_toArray]); (try simp only [List.set_cons_succ]); (try simp only [List.set_cons_zero])
    refine wpAnyH_take (i := 39) (oi := ⟨(some 0), (.assign (.tmp 75)), 4, "law.go:20", #[⟨38, .data⟩, ⟨33, .chain⟩, ⟨0, .phase⟩, ⟨1, .phase⟩, ⟨2, .phase⟩, ⟨3, .phase⟩, ⟨4, .phase⟩, ⟨5, .phase⟩, ⟨6, .phase⟩, ⟨7, .phase⟩, ⟨8, .phase⟩, ⟨9, .phase⟩, ⟨10, .phase⟩, ⟨11, .phase⟩, ⟨12, .phase⟩, ⟨13, .phase⟩, ⟨14, .phase⟩, ⟨15, .phase⟩, ⟨16, .phase⟩, ⟨17, .phase⟩, ⟨18, .phase⟩, ⟨19, .phase⟩, ⟨20, .phase⟩, ⟨21, .phase⟩, ⟨22, .phase⟩, ⟨23, .phase⟩, ⟨24, .phase⟩, ⟨25, .phase⟩, ⟨26, .phase⟩, ⟨27, .phase⟩, ⟨28, .phase⟩, ⟨29, .phase⟩, ⟨30, .phase⟩, ⟨31, .phase⟩, ⟨32, .phase⟩, ⟨33, .phase⟩, ⟨34, .phase⟩, ⟨35, .phase⟩, ⟨36, .phase⟩, ⟨37, .phase⟩, ⟨38, .phase⟩], none⟩) (v := ?v77) rfl (by kernel_rfl) (by kernel_rfl) (by kernel_rfl) (fun _ _ _ h => h) (Or.inl ⟨rfl, ?hy77⟩) hHeld69 ?rest77
    case hy77 => (intro w hSw; (try dsimp only at hSw); go_simp <;> first | with_reducible rfl | rw [if_neg (by omega)] | rw [if_pos (by omega)])
    (try simp only [Act.put]); (try simp only [List.setIfInBounds_toArray]); (try simp only [List.set_cons_succ]); (try simp only [List.set_cons_zero])
    refine wpAnyH_done (by kernel_rfl) ?_ _
    clear hHeld69
    go_wp2_with fail
    go_ret
    exact ⟨rfl, xE.trans y31⟩
  go_simp
  (obtain ⟨g25, w25, hg25, hw25, v25, x25⟩ := row_lit w24 [1, 2, 5] (by decide); change w25 = w24.alloc (.cells #[.int .i64 2, .int .i64 1, .int .i64 0, .string ByteArray.empty, .slice none 0 0, .int .i64 2, .int .i64 2, .int .i64 0, .string ByteArray.empty, .slice none 0 0, .int .i64 2, .int .i64 5, .int .i64 0, .string ByteArray.empty, .slice none 0 0] 40) at hw25; rw [← hw25, ← hg25]; clear hg25 hw25; have y25 : Ext W20 w25 := Ext.trans y24 x25)
  refine hK.out _ _ ?hS27x0 (fun hHeld27 => ?rest27x0)
  case hS27x0 => first | (exact MKR.out _ (by repeat (first | with_reducible exact Ext.refl _ | with_reducible assumption | with_reducible refine Ext.drew ?_ | with_reducible refine Ext.drewN ?_ _ | with_reducible refine Ext.alloc ?_ _))) | ((try dsimp only); (exact MKR.out _ (by repeat (first | with_reducible exact Ext.refl _ | with_reducible assumption | with_reducible refine Ext.drew ?_ | with_reducible refine Ext.drewN ?_ _ | with_reducible refine Ext.alloc ?_ _))))
  clear hK K
  clear hHeld26
  (try simp only [Act.put]); (try simp only [List.setIfInBounds_toArray]); (try simp only [List.set_cons_succ]); (try simp only [List.set_cons_zero])
  refine wpAnyH_ready (rs := [26]) (by kernel_rfl) (by simp) ?_
  refine AllReadyH.cons (o := ⟨(some 63), (.call { callee := (.value (.func 29)), args := #[(.const (.int .i64 1))], argTypes := #[3] }), 40, "law.go:20", #[⟨24, .chain⟩, ⟨19, .guard⟩], (some (19, true))⟩) rfl (fun K hK => ?step78x0) ?more78x0
  case more78x0 => exact AllReadyH.nil
  go_simp
  (refine (HN.out 1 _).mono ?_; rintro e w26 ⟨rfl, x26⟩; have y26 : Ext W20 w26 := Ext.trans (by repeat (first | with_reducible exact Ext.refl _ | with_reducible assumption | with_reducible refine Ext.drew ?_ | with_reducible refine Ext.drewN ?_ _ | with_reducible refine Ext.alloc ?_ _)) x26)
  refine hK.out _ _ ?hS78x0 (fun hHeld78 => ?rest78x0)
  case hS78x0 => first | (exact MKR.out _ (by repeat (first | with_reducible exact Ext.refl _ | with_reducible assumption | with_reducible refine Ext.drew ?_ | with_reducible refine Ext.drewN ?_ _ | with_reducible refine Ext.alloc ?_ _))) | ((try dsimp only); (exact MKR.out _ (by repeat (first | with_reducible exact Ext.refl _ | with_reducible assumption | with_reducible refine Ext.drew ?_ | with_reducible refine Ext.drewN ?_ _ | with_reducible refine Ext.alloc ?_ _))))
  clear hK K
  clear hHeld27
  (try simp only [Act.put]); (try simp only [List.setIfInBounds_toArray]); (try simp only [List.set_cons_succ]); (try simp only [List.set_cons_zero])
  refine wpAnyH_ready (rs := [27]) (by kernel_rfl) (by simp) ?_
  refine AllReadyH.cons (o := ⟨(some 64), (.call { callee := (.value (.func 29)), args := #[(.const (.int .i64 2))], argTypes := #[3] }), 40, "law.go:20", #[⟨26, .chain⟩, ⟨19, .guard⟩], (some (19, true))⟩) rfl (fun K hK => ?step79x0) ?more79x0
  case more79x0 => exact AllReadyH.nil
  go_simp
  (refine (HN.out 2 _).mono ?_; rintro e w27 ⟨rfl, x27⟩; have y27 : Ext W20 w27 := Ext.trans (by repeat (first | with_reducible exact Ext.refl _ | with_reducible assumption | with_reducible refine Ext.drew ?_ | with_reducible refine Ext.drewN ?_ _ | with_reducible refine Ext.alloc ?_ _)) x27)
  refine hK.out _ _ ?hS79x0 (fun hHeld79 => ?rest79x0)
  case hS79x0 => first | (exact MKR.out _ (by repeat (first | with_reducible exact Ext.refl _ | with_reducible assumption | with_reducible refine Ext.drew ?_ | with_reducible refine Ext.drewN ?_ _ | with_reducible refine Ext.alloc ?_ _))) | ((try dsimp only); (exact MKR.out _ (by repeat (first | with_reducible exact Ext.refl _ | with_reducible assumption | with_reducible refine Ext.drew ?_ | with_reducible refine Ext.drewN ?_ _ | with_reducible refine Ext.alloc ?_ _))))
  clear hK K
  clear hHeld78
  (try simp only [Act.put]); (try simp only [List.setIfInBounds_toArray]); (try simp only [List.set_cons_succ]); (try simp only [List.set_cons_zero])
  refine wpAnyH_ready (rs := [28]) (by kernel_rfl) (by simp) ?_
  refine AllReadyH.cons (o := ⟨(some 65), (.call { callee := (.value (.func 29)), args := #[(.const (.int .i64 6))], argTypes := #[3] }), 40, "law.go:20", #[⟨27, .chain⟩, ⟨19, .guard⟩], (some (19, true))⟩) rfl (fun K hK => ?step80x0) ?more80x0
  case more80x0 => exact AllReadyH.nil
  go_simp
  (refine (HN.out 6 _).mono ?_; rintro e w28 ⟨rfl, x28⟩; have y28 : Ext W20 w28 := Ext.trans (by repeat (first | with_reducible exact Ext.refl _ | with_reducible assumption | with_reducible refine Ext.drew ?_ | with_reducible refine Ext.drewN ?_ _ | with_reducible refine Ext.alloc ?_ _)) x28)
  refine hK.out _ _ ?hS80x0 (fun hHeld80 => ?rest80x0)
  case hS80x0 => first | (exact MKR.out _ (by repeat (first | with_reducible exact Ext.refl _ | with_reducible assumption | with_reducible refine Ext.drew ?_ | with_reducible refine Ext.drewN ?_ _ | with_reducible refine Ext.alloc ?_ _))) | ((try dsimp only); (exact MKR.out _ (by repeat (first | with_reducible exact Ext.refl _ | with_reducible assumption | with_reducible refine Ext.drew ?_ | with_reducible refine Ext.drewN ?_ _ | with_reducible refine Ext.alloc ?_ _))))
  clear hK K
  clear hHeld79
  (try simp only [Act.put]); (try simp only [List.setIfInBounds_toArray]); (try simp only [List.set_cons_succ]); (try simp only [List.set_cons_zero])
  refine wpAnyH_ready (rs := [29]) (by kernel_rfl) (by simp) ?_
  refine AllReadyH.cons (o := ⟨(some 66), (.buildSlice 37 3 #[(0, (.tmp 63)), (1, (.tmp 64)), (2, (.tmp 65))]), 37, "law.go:20", #[⟨26, .data⟩, ⟨27, .data⟩, ⟨28, .data⟩, ⟨19, .guard⟩], (some (19, true))⟩) rfl (fun K hK => ?step81x0) ?more81x0
  case more81x0 => exact AllReadyH.nil
  go_simp
  (obtain ⟨g29, w29, hg29, hw29, v29, x29⟩ := row_lit w28 [1, 2, 6] (by decide); change w29 = w28.alloc (.cells #[.int .i64 2, .int .i64 1, .int .i64 0, .string ByteArray.empty, .slice none 0 0, .int .i64 2, .int .i64 2, .int .i64 0, .string ByteArray.empty, .slice none 0 0, .int .i64 2, .int .i64 6, .int .i64 0, .string ByteArray.empty, .slice none 0 0] 40) at hw29; rw [← hw29, ← hg29]; clear hg29 hw29; have y29 : Ext W20 w29 := Ext.trans y28 x29)
  refine hK.out _ _ ?hS81x0 (fun hHeld81 => ?rest81x0)
  case hS81x0 => first | (exact MKR.out _ (by repeat (first | with_reducible exact Ext.refl _ | with_reducible assumption | with_reducible refine Ext.drew ?_ | with_reducible refine Ext.drewN ?_ _ | with_reducible refine Ext.alloc ?_ _))) | ((try dsimp only); (exact MKR.out _ (by repeat (first | with_reducible exact Ext.refl _ | with_reducible assumption | with_reducible refine Ext.drew ?_ | with_reducible refine Ext.drewN ?_ _ | with_reducible refine Ext.alloc ?_ _))))
  clear hK K
  clear hHeld80
  (try simp only [Act.put]); (try simp only [List.setIfInBounds_toArray]); (try simp only [List.set_cons_succ]); (try simp only [List.set_cons_zero])
  refine wpAnyH_ready (rs := [30]) (by kernel_rfl) (by simp) ?_
  refine AllReadyH.cons (o := ⟨(some 67), (.buildSlice 23 2 #[(0, (.tmp 62)), (1, (.tmp 66))]), 23, "law.go:20", #[⟨25, .data⟩, ⟨29, .data⟩, ⟨19, .guard⟩], (some (19, true))⟩) rfl (fun K hK => ?step82x0) ?more82x0
  case more82x0 => exact AllReadyH.nil
  go_simp
  (obtain ⟨g30, w30, hg30, hw30, v30, x30⟩ := rows_lit w29 (some ⟨g25, 0, none⟩) (some ⟨g29, 0, none⟩) 3 3 [numV 1, numV 2, numV 5] [numV 1, numV 2, numV 6] (v25.ext (x26.trans (x27.trans (x28.trans x29)))) (v29.ext (Ext.refl _)) (by decide) (by decide); change w30 = w29.alloc (.cells #[.slice (some ⟨g25, 0, none⟩) 3 3, .slice (some ⟨g29, 0, none⟩) 3 3] 37) at hw30; rw [← hw30, ← hg30]; clear hg30 hw30; have y30 : Ext W20 w30 := Ext.trans y29 x30)
  refine hK.out _ _ ?hS82x0 (fun hHeld82 => ?rest82x0)
  case hS82x0 => first | (exact MKR.out _ (by repeat (first | with_reducible exact Ext.refl _ | with_reducible assumption | with_reducible refine Ext.drew ?_ | with_reducible refine Ext.drewN ?_ _ | with_reducible refine Ext.alloc ?_ _))) | ((try dsimp only); (exact MKR.out _ (by repeat (first | with_reducible exact Ext.refl _ | with_reducible assumption | with_reducible refine Ext.drew ?_ | with_reducible refine Ext.drewN ?_ _ | with_reducible refine Ext.alloc ?_ _))))
  clear hK K
  clear hHeld81
  (try simp only [Act.put]); (try simp only [List.setIfInBounds_toArray]); (try simp only [List.set_cons_succ]); (try simp only [List.set_cons_zero])
  refine wpAnyH_ready (rs := [31]) (by kernel_rfl) (by simp) ?_
  refine AllReadyH.cons (o := ⟨(some 68), (.call { callee := (.value (.func 26)), args := #[(.tmp 58), (.tmp 67)], argTypes := #[23, 23] }), 4, "law.go:20", #[⟨21, .data⟩, ⟨30, .data⟩, ⟨28, .chain⟩, ⟨19, .guard⟩], (some (19, true))⟩) rfl (fun K hK => ?step83x0) ?more83x0
  case more83x0 => exact AllReadyH.nil
  go_simp
  (refine (HSR.out w30 y30 g30 (v30.ext (Ext.refl _))).mono ?_; rintro e w31 ⟨rfl, x31⟩; have y31 : Ext W20 w31 := Ext.trans y30 x31)
  refine hK.out _ _ ?hS83x0 (fun hHeld83 => ?rest83x0)
  case hS83x0 => first | (exact MKR.out _ (by repeat (first | with_reducible exact Ext.refl _ | with_reducible assumption | with_reducible refine Ext.drew ?_ | with_reducible refine Ext.drewN ?_ _ | with_reducible refine Ext.alloc ?_ _))) | ((try dsimp only); (exact MKR.out _ (by repeat (first | with_reducible exact Ext.refl _ | with_reducible assumption | with_reducible refine Ext.drew ?_ | with_reducible refine Ext.drewN ?_ _ | with_reducible refine Ext.alloc ?_ _))))
  clear hK K
  clear hHeld82
  (try simp only [Act.put]); (try simp only [List.setIfInBounds_toArray]); (try simp only [List.set_cons_succ]); (try simp only [List.set_cons_zero])
  refine wpAnyH_take (i := 32) (oi := ⟨(some 69), (.pick (.tmp 56) (.tmp 68) (.const (.bool false))), 4, "law.go:20", #[⟨19, .data⟩, ⟨31, .data⟩], none⟩) (v := ?v84) rfl (by kernel_rfl) (by kernel_rfl) (by kernel_rfl) (fun _ _ _ h => h) (Or.inl ⟨rfl, ?hy84⟩) hHeld83 ?rest84
  case hy84 => (intro w hSw; (try dsimp only at hSw); go_simp <;> first | with_reducible rfl | rw [if_neg (by omega)] | rw [if_pos (by omega)])
  (try simp only [Act.put]); (try simp only [List.setIfInBounds_toArray]); (try simp only [List.set_cons_succ]); (try simp only [List.set_cons_zero])
  refine wpAnyH_take (i := 33) (oi := ⟨(some 70), (.move (.tmp 69)), 4, "law.go:20", #[⟨32, .data⟩, ⟨31, .chain⟩], none⟩) (v := ?v85) rfl (by kernel_rfl) (by kernel_rfl) (by kernel_rfl) (fun _ _ _ h => h) (Or.inl ⟨rfl, ?hy85⟩) hHeld83 ?rest85
  case hy85 => (intro w hSw; (try dsimp only at hSw); go_simp <;> first | with_reducible rfl | rw [if_neg (by omega)] | rw [if_pos (by omega)])
  (try simp only [Act.put]); (try simp only [List.setIfInBounds_toArray]); (try simp only [List.set_cons_succ]); (try simp only [List.set_cons_zero])
  refine wpAnyH_take (i := 34) (oi := ⟨(some 71), (.fieldAddr 25 (.tmp 5) 1), 0, "law.go:20", #[⟨33, .guard⟩], (some (33, true))⟩) (v := ?v86) rfl (by kernel_rfl) (by kernel_rfl) (by kernel_rfl) (fun _ _ _ h => h) (Or.inl ⟨rfl, ?hy86⟩) hHeld83 ?rest86
  case hy86 => (intro w hSw; (try dsimp only at hSw); go_simp <;> first | with_reducible rfl | rw [if_neg (by omega)] | rw [if_pos (by omega)])
  (try simp only [Act.put]); (try simp only [List.setIfInBounds_toArray]); (try simp only [List.set_cons_succ]); (try simp only [List.set_cons_zero])
  refine wpAnyH_take (i := 35) (oi := ⟨(some 72), (.load 23 (.tmp 71)), 23, "law.go:20", #[⟨34, .data⟩, ⟨33, .guard⟩], (some (33, true))⟩) (v := ?v87) rfl (by kernel_rfl) (by kernel_rfl) (by kernel_rfl) (fun _ _ _ h => h) (Or.inl ⟨rfl, ?hy87⟩) hHeld83 ?rest87
  case hy87 => (intro w hSw; (try dsimp only at hSw); go_simp <;> first | with_reducible rfl | rw [if_neg (by omega)] | rw [if_pos (by omega)])
  (try simp only [Act.put]); (try simp only [List.setIfInBounds_toArray]); (try simp only [List.set_cons_succ]); (try simp only [List.set_cons_zero])
  refine wpAnyH_take (i := 36) (oi := ⟨(some 73), (.call { callee := (.builtin .len), args := #[(.tmp 72)], argTypes := #[23] }), 3, "law.go:20", #[⟨35, .data⟩, ⟨33, .guard⟩], (some (33, true))⟩) (v := ?v88) rfl (by kernel_rfl) (by kernel_rfl) (by kernel_rfl) (fun _ _ _ h => h) (Or.inl ⟨rfl, ?hy88⟩) hHeld83 ?rest88
  case hy88 => (intro w hSw; (try dsimp only at hSw); go_simp <;> first | with_reducible rfl | rw [if_neg (by omega)] | rw [if_pos (by omega)])
  (try simp only [Act.put]); (try simp only [List.setIfInBounds_toArray]); (try simp only [List.set_cons_succ]); (try simp only [List.set_cons_zero])
  refine wpAnyH_take (i := 37) (oi := ⟨(some 74), (.binOp .eql 3 (.tmp 73) (.const (.int .i64 3)) 3), 4, "law.go:20", #[⟨36, .data⟩, ⟨33, .guard⟩], (some (33, true))⟩) (v := ?v89) rfl (by kernel_rfl) (by kernel_rfl) (by kernel_rfl) (fun _ _ _ h => h) (Or.inl ⟨rfl, ?hy89⟩) hHeld83 ?rest89
  case hy89 => (intro w hSw; (try dsimp only at hSw); go_simp <;> first | with_reducible rfl | rw [if_neg (by omega)] | rw [if_pos (by omega)])
  (try simp only [Act.put]); (try simp only [List.setIfInBounds_toArray]); (try simp only [List.set_cons_succ]); (try simp only [List.set_cons_zero])
  refine wpAnyH_take (i := 38) (oi := ⟨(some 75), (.pick (.tmp 70) (.tmp 74) (.const (.bool false))), 4, "law.go:20", #[⟨33, .data⟩, ⟨37, .data⟩], none⟩) (v := ?v90) rfl (by kernel_rfl) (by kernel_rfl) (by kernel_rfl) (fun _ _ _ h => h) (Or.inl ⟨rfl, ?hy90⟩) hHeld83 ?rest90
  case hy90 => (intro w hSw; (try dsimp only at hSw); go_simp <;> first | with_reducible rfl | rw [if_neg (by omega)] | rw [if_pos (by omega)])
  (try simp only [Act.put]); (try simp only [List.setIfInBounds_toArray]); (try simp only [List.set_cons_succ]); (try simp only [List.set_cons_zero])
  refine wpAnyH_take (i := 39) (oi := ⟨(some 0), (.assign (.tmp 75)), 4, "law.go:20", #[⟨38, .data⟩, ⟨33, .chain⟩, ⟨0, .phase⟩, ⟨1, .phase⟩, ⟨2, .phase⟩, ⟨3, .phase⟩, ⟨4, .phase⟩, ⟨5, .phase⟩, ⟨6, .phase⟩, ⟨7, .phase⟩, ⟨8, .phase⟩, ⟨9, .phase⟩, ⟨10, .phase⟩, ⟨11, .phase⟩, ⟨12, .phase⟩, ⟨13, .phase⟩, ⟨14, .phase⟩, ⟨15, .phase⟩, ⟨16, .phase⟩, ⟨17, .phase⟩, ⟨18, .phase⟩, ⟨19, .phase⟩, ⟨20, .phase⟩, ⟨21, .phase⟩, ⟨22, .phase⟩, ⟨23, .phase⟩, ⟨24, .phase⟩, ⟨25, .phase⟩, ⟨26, .phase⟩, ⟨27, .phase⟩, ⟨28, .phase⟩, ⟨29, .phase⟩, ⟨30, .phase⟩, ⟨31, .phase⟩, ⟨32, .phase⟩, ⟨33, .phase⟩, ⟨34, .phase⟩, ⟨35, .phase⟩, ⟨36, .phase⟩, ⟨37, .phase⟩, ⟨38, .phase⟩], none⟩) (v := ?v91) rfl (by kernel_rfl) (by kernel_rfl) (by kernel_rfl) (fun _ _ _ h => h) (Or.inl ⟨rfl, ?hy91⟩) hHeld83 ?rest91
  case hy91 => (intro w hSw; (try dsimp only at hSw); go_simp <;> first | with_reducible rfl | rw [if_neg (by omega)] | rw [if_pos (by omega)])
  (try simp only [Act.put]); (try simp only [List.setIfInBounds_toArray]); (try simp only [List.set_cons_succ]); (try simp only [List.set_cons_zero])
  refine wpAnyH_done (by kernel_rfl) ?_ _
  clear hHeld83
  go_wp2_with fail
  go_ret
  exact ⟨rfl, xE.trans y31⟩
end Go.Proofs.YtbjddimafilflaaGreatDoor

/- THE WALK over the law JoinTells. -/
namespace Go.Proofs.YtbjddimafilflaaGreatDoor
open Go.RowKit Go.Sort
theorem sameT_self (t : Tab) : sameT t t = true := by unfold sameT; simp
theorem szR_sort {l : List (List Val)} (h : ∀ r ∈ l, szL r) : ∀ r ∈ sortO ordL l, szL r := fun r hr => h r (sortO_mem hr)
theorem natT_sz {a b : Tab} (ha : TabFit a) (hb : TabFit b) : ∀ r ∈ (natT a b).rows, szL r := by
  unfold natT
  by_cases h : errJ a b = 0
  · rw [if_pos h]
    exact szR_sort (fun r hr => (natR_fit ha hb (errJ_zero h).2.2 r hr).2)
  · rw [if_neg h]
    exact fun r hr => absurd hr (by simp [noTab])
theorem halfT_sz {a b : Tab} (ha : TabFit a) (wt : Bool) : ∀ r ∈ (halfT a b wt).rows, szL r := by
  unfold halfT
  by_cases h : errJ a b = 0
  · rw [if_pos h]
    exact szR_sort (fun r hr => (ha.2.2 r (List.mem_filter.1 hr).1).1)
  · rw [if_neg h]
    exact fun r hr => absurd hr (by simp [noTab])
theorem leftT_sz {a b : Tab} (ha : TabFit a) (hb : TabFit b) : ∀ r ∈ (leftT a b).rows, szL r := by
  unfold leftT
  by_cases h : errJ a b = 0
  · rw [if_pos h]
    exact szR_sort (fun r hr => (leftR_fit ha hb (errJ_zero h).2.2 r hr).2)
  · rw [if_neg h]
    exact fun r hr => absurd hr (by simp [noTab])
end Go.Proofs.YtbjddimafilflaaGreatDoor

/- WHAT THE ROWS OF CHAPTER 34 LIST, AND TABLES THAT COME IN. -/
namespace Go.Proofs.YtbjddimafilflaaGreatDoor
open Go.ChangeShapes Go.WideShapes Go.ChangeAt Go.RowKit
open Go.ChangeMaps (open_string shut_string)
theorem own : ownKnob Tryz.prog.godebug = none := by kernel_rfl
theorem gZero : Tryz.prog.globalNamed "graphdb/frac.zero" = some 0 := by kernel_rfl
theorem gZeroType : (Tryz.prog.globals[0]?).map (·.type) = some 94 := by kernel_rfl
theorem cellsFrac : Tryz.prog.cellsOf 94 = 2 := by kernel_rfl
abbrev laidList : List (String × DataW Unit) := Rows.joinTellsRow.laid
theorem zero_of {W : World} (h : laidMetH Tryz.prog laidList W) : ZeroAt W := by
  have h0 : laidMet Tryz.prog laidList W := h
  obtain ⟨ps, ⟨g', t', cs, fuel, p, q, hg', ht', hvar, hd, -, -⟩, -⟩ := h0
  obtain rfl := Option.some.inj (gZero.symm.trans hg')
  obtain rfl := Option.some.inj (gZeroType.symm.trans ht')
  obtain ⟨y0, y1, n, hx, hl, h0, h1⟩ := trod_struct2 Tryz.underlying94 hd
  rw [cellsFrac] at hl
  obtain ⟨c0, c1, rfl⟩ := Joins.array2 (show cs.size = 2 by simpa using hl)
  obtain ⟨a, e0, x0, -⟩ := DataW.trod_int (k := .i64) Tryz.underlying3 h0
  obtain ⟨b, e1, x1, -⟩ := DataW.trod_int (k := .i64) Tryz.underlying3 h1
  rw [x0, x1] at hx
  simp only [Rows.laid_graphdb_frac_zero, Prod.mk.injEq, DataW.agg.injEq, List.cons.injEq, DataW.lit.injEq, Lit.int.injEq] at hx
  have k0 : c0 = .int .i64 a := by simpa [show Tryz.prog.cellsOf 3 = 1 from by kernel_rfl] using e0
  have k1 : c1 = .int .i64 b := by simpa [show Tryz.prog.cellsOf 3 = 1 from by kernel_rfl] using e1
  have ha : (0 : Int) = a := hx.1.1.2
  have hb : (1 : Int) = b := hx.1.2.1.2
  subst ha hb k0 k1
  have z0 := World.var?_cell gZero hvar 0
  have z1 := World.var?_cell gZero hvar 1
  refine ⟨z0, z1, ?_⟩
  unfold World.var? at hvar
  rw [gZero] at hvar
  rcases Nat.lt_or_ge 0 W.heap.size with k | k
  · exact k
  · simp only [Option.bind_some, Array.getElem?_eq_none k] at hvar; cases hvar
theorem laidOut : laidOutB Tryz.prog = true := by kernel_rfl
theorem cellsVal : Tryz.prog.cellsOf 40 = 5 := by kernel_rfl
theorem cellsRow : Tryz.prog.cellsOf 37 = 1 := by kernel_rfl
theorem cellsTab : Tryz.prog.cellsOf 25 = 2 := by kernel_rfl
theorem cellsInt : Tryz.prog.cellsOf 3 = 1 := by kernel_rfl
theorem cellsStr : Tryz.prog.cellsOf 9 = 1 := by kernel_rfl
theorem cellsVals : Tryz.prog.cellsOf 36 = 1 := by kernel_rfl
theorem cellsStrs : Tryz.prog.cellsOf 22 = 1 := by kernel_rfl
theorem cellsRows : Tryz.prog.cellsOf 23 = 1 := by kernel_rfl
theorem spot_of_cell {w : World} {a : Addr} {v : Value} (h : w.cell? a = some v) : a = ⟨a.block, a.off, none⟩ := by
  obtain ⟨b, o, sp⟩ := a
  cases sp with
  | none => rfl
  | some k =>
    exfalso
    unfold World.cell? at h
    split at h
    · simp at h
    · cases h
theorem add_none (b o i j : Nat) : ((⟨b, o, none⟩ : Addr).add i).add j = ⟨b, o + i + j, none⟩ := by
  unfold Addr.add
  by_cases h : i = 0 <;> by_cases k : j = 0 <;> simp [h, k]
theorem list_of {α : Type} (P : Nat → α → Prop) : ∀ n, (∀ i, i < n → ∃ x, P i x) → ∃ l : List α, l.length = n ∧ ∀ i (h : i < l.length), P i l[i]
  | 0, _ => ⟨[], rfl, fun i h => absurd h (Nat.not_lt_zero _)⟩
  | n + 1, h => by
    obtain ⟨l, hl, hp⟩ := list_of P n (fun i hi => h i (by omega))
    obtain ⟨x, hx⟩ := h n (by omega)
    refine ⟨l ++ [x], by simp [hl], fun i hi => ?_⟩
    rcases Nat.lt_or_ge i l.length with h1 | h1
    · rw [List.getElem_append_left h1]; exact hp i h1
    · have : i = l.length := by simp at hi; omega
      subst this
      rw [List.getElem_append_right (by omega)]
      simpa [hl] using hx
section
variable {H : Type} {enc : TypeId × Value → H} {w : World} {base : Nat} {spare : Nat → Bool} {held : Bool}
theorem weightsAll_mem {P : Program} {e : TypeId} : ∀ {l : List (DataW H)} {d : DataW H}, d ∈ l → ∀ n ∈ d.weights P e, n ∈ DataW.weightsAll P e l
  | d0 :: r, d, h, n, hn => by
    simp only [DataW.weightsAll, List.mem_append]
    rcases List.mem_cons.1 h with rfl | h
    · exact .inl hn
    · exact .inr (weightsAll_mem h n hn)
/-- a slice that reads: each element by what its cells are -/
theorem slice_gen {α : Type} {t e size fuel : Nat} {cs : List Value} {x : DataW H × List MemPlace} (ht : Tryz.prog.underlying t = some (.slice e)) (he : Tryz.prog.cellsOf e = size) (hbe : 0 < Tryz.prog.bytesOf e) (hs : 0 < size) (R : Nat → Nat → α → Prop) (Q : α → Prop)
    (hel : ∀ n cs' (y : DataW H × List MemPlace), fuel = n + 1 → (∀ k ∈ y.1.weights Tryz.prog e, k ≤ reachBytes) → DataW.trod enc Tryz.prog w base spare held n e cs' = some y → ∃ v : α, Q v ∧ ∀ b o, (∀ j u, cs'[j]? = some u → w.cell? ⟨b, o + j, none⟩ = some u) → R b o v)
    (hwt : ∀ k ∈ x.1.weights Tryz.prog t, k ≤ reachBytes) (h : DataW.trod enc Tryz.prog w base spare held fuel t cs = some x) : ∃ (l : List α) (A : Option Addr) (c : Nat), cs = [.slice A l.length c] ∧ l.length ≤ c ∧ SliceR R size A l ∧ ∀ v ∈ l, Q v := by
  rcases DataW.trod_slice ht h with ⟨rfl, -⟩ | ⟨a, len, cap, elems, rest, n, hfu, rfl, hxx, -, hl, hm, hlen, hel2, -, -⟩
  · exact ⟨[], none, 0, rfl, Nat.le_refl _, SliceR.nil _ _ _, fun v hv => absurd hv (by simp)⟩
  · rw [hxx] at hwt
    simp only [DataW.weights, ht, List.mem_cons, List.mem_append, List.length_map] at hwt
    have hlen2 : len ≤ 140737488355328 := by
      have h1 := hwt _ (.inl rfl)
      have h2 : (elems.length + rest.length) * 1 ≤ (elems.length + rest.length) * Tryz.prog.bytesOf e := Nat.mul_le_mul_left _ hbe
      have h3 := reachBytes_lt
      omega
    have H : ∀ i, i < len → ∃ v : α, Q v ∧ R a.block (a.off + i * size) v ∧ a = ⟨a.block, a.off, none⟩ := fun i hi => by
      have h1 := hel2 i hi
      rw [he, List.getElem?_eq_getElem (by omega)] at h1
      obtain ⟨cs', hc, ht'⟩ := Option.bind_eq_some_iff.1 h1
      obtain ⟨v, hq, hr⟩ := hel n cs' _ hfu (fun k hk => hwt k (.inr (.inl (weightsAll_mem (List.mem_map_of_mem (List.getElem_mem _)) k hk)))) ht'
      obtain ⟨-, hlen', hat⟩ := World.cells?_some hc
      have hspot : a = ⟨a.block, a.off, none⟩ := by
        have h1' := hel2 0 (by omega)
        rw [he, List.getElem?_eq_getElem (by omega)] at h1'
        obtain ⟨cs0, hc0, -⟩ := Option.bind_eq_some_iff.1 h1'
        obtain ⟨-, hl0, hat0⟩ := World.cells?_some hc0
        have h2 := hat0 0 hs
        rw [Nat.zero_mul] at h2
        obtain ⟨u, hu⟩ : ∃ u, cs0[0]? = some u := ⟨cs0[0]'(by omega), List.getElem?_eq_getElem (by omega)⟩
        rw [hu] at h2
        exact spot_of_cell (v := u) (by simpa [Addr.add] using h2)
      refine ⟨v, hq, hr _ _ (fun j u hu => ?_), hspot⟩
      have hj : j < size := by have := (List.getElem?_eq_some_iff.1 hu).1; omega
      have h2 := hat j hj
      rw [hspot, add_none, hu] at h2
      exact h2
    obtain ⟨l, hll, hp⟩ := list_of (fun i v => Q v ∧ R a.block (a.off + i * size) v ∧ a = ⟨a.block, a.off, none⟩) len H
    refine ⟨l, some a, cap, by rw [hll], by omega, ⟨by omega, fun hpos => ⟨a.block, a.off, congrArg some (hp 0 hpos).2.2, fun k hk => (hp k hk).2.1⟩⟩, fun v hv => ?_⟩
    obtain ⟨i, hi, rfl⟩ := List.getElem_of_mem hv
    exact (hp i hi).1
theorem five {α : Type} {l : List α} (h : l.length = 5) : ∃ a b c d e, l = [a, b, c, d, e] := by
  match l, h with
  | [a, b, c, d, e], _ => exact ⟨a, b, c, d, e, rfl⟩
theorem two {α : Type} {l : List α} (h : l.length = 2) : ∃ a b, l = [a, b] := by
  match l, h with
  | [a, b], _ => exact ⟨a, b, rfl⟩
theorem bytesVal : 0 < Tryz.prog.bytesOf 40 := of_decide_eq_true (by kernel_rfl)
theorem bytesRow : 0 < Tryz.prog.bytesOf 37 := of_decide_eq_true (by kernel_rfl)
theorem bytesStr : 0 < Tryz.prog.bytesOf 9 := of_decide_eq_true (by kernel_rfl)
theorem str_small {s : ByteArray} {p : DataW H × List MemPlace} (hx : p = (.lit (.string s.data.toList), [])) (h : ∀ k ∈ p.1.weights Tryz.prog 9, k ≤ reachBytes) : s.size ≤ 140737488355328 := by
  subst hx
  have h1 := h s.data.toList.length (by simp [DataW.weights])
  have h2 := reachBytes_lt
  rw [Array.length_toList] at h1
  have h3 : s.data.size = s.size := rfl
  omega
set_option maxRecDepth 100000 in
/-- values that read, and lists of values -/
theorem open_both : ∀ fuel : Nat,
    (∀ (cs : List Value) (x : DataW H × List MemPlace), (∀ k ∈ x.1.weights Tryz.prog 40, k ≤ reachBytes) → DataW.trod enc Tryz.prog w base spare held fuel 40 cs = some x → ∃ v : Val, szV v ∧ ∀ b o, (∀ j u, cs[j]? = some u → w.cell? ⟨b, o + j, none⟩ = some u) → VCells w (fun _ => True) b o v) ∧
    (∀ (t : TypeId) (cs : List Value) (x : DataW H × List MemPlace), Tryz.prog.underlying t = some (.slice 40) → (∀ k ∈ x.1.weights Tryz.prog t, k ≤ reachBytes) → DataW.trod enc Tryz.prog w base spare held fuel t cs = some x → ∃ (l : List Val) (A : Option Addr) (c : Nat), cs = [.slice A l.length c] ∧ l.length ≤ c ∧ Vals w (fun _ => True) A l ∧ szL l)
  | 0 => ⟨fun cs x _ h => by simp [DataW.trod] at h, fun t cs x _ _ h => by simp [DataW.trod] at h⟩
  | n + 1 => by
    obtain ⟨ih1, ih2⟩ := open_both n
    refine ⟨fun cs x hwt h => ?_, fun t cs x ht hwt h => ?_⟩
    · obtain ⟨xs, m, hm, rfl, hl, hlen, hg⟩ := DataW.trod_struct Tryz.underlying40 h
      obtain rfl : m = n := by omega
      rw [cellsVal] at hl
      obtain ⟨c0, c1, c2, c3, c4, rfl⟩ := five hl
      obtain ⟨y0, y1, y2, y3, y4, rfl⟩ := five (show xs.length = 5 from hlen)
      have g0 : DataW.trod enc Tryz.prog w base spare held m 3 (([c0, c1, c2, c3, c4].drop 0).take (Tryz.prog.cellsOf 3)) = some y0 := hg 0 _ rfl
      rw [cellsInt] at g0
      have g1 : DataW.trod enc Tryz.prog w base spare held m 3 (([c0, c1, c2, c3, c4].drop 1).take (Tryz.prog.cellsOf 3)) = some y1 := hg 1 _ rfl
      rw [cellsInt] at g1
      have g2 : DataW.trod enc Tryz.prog w base spare held m 3 (([c0, c1, c2, c3, c4].drop 2).take (Tryz.prog.cellsOf 3)) = some y2 := hg 2 _ rfl
      rw [cellsInt] at g2
      have g3 : DataW.trod enc Tryz.prog w base spare held m 9 (([c0, c1, c2, c3, c4].drop 3).take (Tryz.prog.cellsOf 9)) = some y3 := hg 3 _ rfl
      rw [cellsStr] at g3
      have g4 : DataW.trod enc Tryz.prog w base spare held m 36 (([c0, c1, c2, c3, c4].drop 4).take (Tryz.prog.cellsOf 36)) = some y4 := hg 4 _ rfl
      rw [cellsVals] at g4
      have hwe : ∀ k ∈ DataW.weightsEach Tryz.prog [3, 3, 3, 9, 36] [y0.1, y1.1, y2.1, y3.1, y4.1], k ≤ reachBytes := fun k hk => hwt k (by
        simp only [DataW.weights, Tryz.underlying40]
        exact hk)
      obtain ⟨k0, e0, -, -⟩ := DataW.trod_int (k := .i64) Tryz.underlying3 g0
      obtain ⟨k1, e1, -, -⟩ := DataW.trod_int (k := .i64) Tryz.underlying3 g1
      obtain ⟨k2, e2, -, -⟩ := DataW.trod_int (k := .i64) Tryz.underlying3 g2
      obtain ⟨s, e3, x3, -⟩ := DataW.trod_string Tryz.underlying9 g3
      have hsz := str_small x3 (fun k hk => hwe k (DataW.weights_mem_each (j := 3) rfl rfl k hk))
      obtain ⟨l, A, c, e4, hlc, hv, hszl⟩ := ih2 _ _ _ Tryz.underlying36 (fun k hk => hwe k (DataW.weights_mem_each (j := 4) rfl rfl k hk)) g4
      cases e0; cases e1; cases e2; cases e3; cases e4
      refine ⟨.mk k0 k1 k2 s l, szV_iff.2 ⟨hsz, hszl⟩, fun b o hc => VCells.iff.2 ⟨trivial, A, c, ⟨hc 0 _ rfl, hc 1 _ rfl, hc 2 _ rfl, hc 3 _ rfl, hc 4 _ rfl⟩, hlc, hv⟩⟩
    · obtain ⟨l, A, c, e, hlc, hv, hq⟩ := slice_gen (α := Val) ht cellsVal bytesVal (by decide) (VCells w (fun _ => True)) szV (fun m cs' y hm hk hy => by
        obtain rfl : m = n := by omega
        exact ih1 cs' y hk hy) hwt h
      exact ⟨l, A, c, e, hlc, hv, szL_of hq⟩
set_option maxRecDepth 100000 in
/-- a table that reads -/
theorem open_table {r : Reach} {b0 : Nat} {v : Value} {dd : DataW H} {p : List MemPlace} (hv : Value.okWide Tryz.prog w r b0 25 v) (hwt : ∀ k ∈ dd.weights Tryz.prog 25, k ≤ reachBytes) (h : DataW.Trod enc Tryz.prog w base spare held 25 v dd p) :
    ∃ (t : Tab) (A B : Option Addr) (c d : Nat), v = .agg #[.slice A t.cols.length c, .slice B t.rows.length d] ∧ t.cols.length ≤ c ∧ TabAt w (fun _ => True) A B t ∧ (∀ s ∈ t.cols, s.size ≤ maxLen) ∧ ∀ r ∈ t.rows, szL r := by
  obtain ⟨cs, rfl, -⟩ := okWide_struct Tryz.underlying25 hv
  obtain ⟨fuel, hf⟩ := h
  obtain ⟨xs, m, hm, hxx, hl, hlen, hg⟩ := DataW.trod_struct Tryz.underlying25 hf
  obtain ⟨y0, y1, rfl⟩ := two (show xs.length = 2 from hlen)
  have hl2 : cs.size = 2 := by rw [cellsTab] at hl; simpa [Value.cells] using hl
  obtain ⟨c0, c1, rfl⟩ := Joins.array2 hl2
  have h0 : DataW.trod enc Tryz.prog w base spare held m 22 (([c0, c1].drop 0).take (Tryz.prog.cellsOf 22)) = some y0 := hg 0 _ rfl
  rw [cellsStrs] at h0
  have h1 : DataW.trod enc Tryz.prog w base spare held m 23 (([c0, c1].drop 1).take (Tryz.prog.cellsOf 23)) = some y1 := hg 1 _ rfl
  rw [cellsRows] at h1
  have hdd : dd = .agg [y0.1, y1.1] := congrArg Prod.fst hxx
  have hwe : ∀ k ∈ DataW.weightsEach Tryz.prog [22, 23] [y0.1, y1.1], k ≤ reachBytes := fun k hk => hwt k (by
    rw [hdd]
    simp only [DataW.weights, Tryz.underlying25]
    exact hk)
  obtain ⟨ls, A, c, e0, hlc, hs, hq⟩ := slice_gen (α := ByteArray) Tryz.underlying22 cellsStr bytesStr (by decide) (StrC w (fun _ => True)) (fun s => s.size ≤ maxLen) (fun _ cs' y _ _ hy => by
    obtain ⟨s, e, -, hsz⟩ := DataW.trod_string Tryz.underlying9 hy
    subst e
    exact ⟨s, hsz, fun b o hc => ⟨trivial, hc 0 _ rfl⟩⟩) (fun k hk => hwe k (DataW.weights_mem_each (j := 0) rfl rfl k hk)) h0
  obtain ⟨lr, B, d, e1, hld, hr, hqr⟩ := slice_gen (α := List Val) Tryz.underlying23 cellsRow bytesRow (by decide) (RowC w (fun _ => True)) szL (fun m' cs' y _ hk hy => by
    obtain ⟨l, A', c', e, hlc', hv', hsz⟩ := (open_both m').2 _ _ _ Tryz.underlying37 hk hy
    subst e
    exact ⟨l, hsz, fun b o hc => ⟨trivial, A', c', hc 0 _ rfl, hlc', hv'⟩⟩) (fun k hk => hwe k (DataW.weights_mem_each (j := 1) rfl rfl k hk)) h1
  cases e0; cases e1
  exact ⟨⟨ls, lr⟩, A, B, c, d, rfl, hlc, ⟨hs, hr⟩, hq, hqr⟩
end
/-- The laid heap meets the condition. -/
theorem door_met (os : Os) (args : Array Value) : laidMetH Tryz.prog laidList ((World.laidAll Tryz.prog os laidList).forCall (fun _ _ => 0) ⟨#[], args, []⟩).memory := by
  rw [MakeChecks.laidMetH_plain _ _ _ (by kernel_rfl)]
  exact laidMet_laidAll _ (by kernel_rfl) (by kernel_rfl)
section
variable {H : Type} {enc : TypeId × Value → H} {P : Program}
/-- The row's last step where all that was there stands. -/
theorem post_of_below {f : Func} {s : ChangeSpec} {apart fresh handsOn again : Bool} {W W' : World} {args : Array Value} {v : Value} {ds gs : List (DataW H)} {before pa pv : List MemPlace}
    (hW : DataW.Whole enc P f.params.toList s.vars apart W args.toList ds gs before)
    (hres : ∀ (b : Nat) (sp : Nat → Bool) (hd : Bool), DataW.TrodAll enc P W' b sp hd f.resultTypes.toList (v.resultList f.resultTypes.size) (s.fn H (ds ++ gs)).results [])
    (hargs : ∀ sp : Nat → Bool, (∀ p ∈ before, sp p.block = true) → DataW.TrodAll enc P W' 0 sp true f.params.toList args.toList (s.fn H (ds ++ gs)).args pa)
    (hvars : ∀ sp : Nat → Bool, (∀ p ∈ before, sp p.block = true) → DataW.TrodVars enc P W' sp s.vars (s.fn H (ds ++ gs)).vars pv)
    (hps : before = pa ++ pv) (hb : Below W.heap.size W W')
    (hok : ∀ (j : Nat) (t : TypeId) (r : Value), f.resultTypes[j]? = some t → (v.resultList f.resultTypes.size)[j]? = some r → Value.okWide P W' .any 0 t r) :
    s.post enc P f apart fresh handsOn again W args v W' := by
  have hlt : ∀ p ∈ before, p.block < W.heap.size := fun p hp => hW.lt p hp
  have hold : ∀ p ∈ before, (fun b => decide (b < W.heap.size)) p.block = true := fun p hp => by simpa using hlt p hp
  refine ⟨ds, gs, before, [], pa, pv, hW, hres _ _ _, hargs _ hold, hvars _ hold, World.keptBut_mono (fun p hp => ⟨hp, ?_⟩) (hb.frame (· ∈ before)), fun _ => ?_⟩
  · rw [hps, List.mem_append] at hp
    exact Or.inr hp
  · obtain ⟨_, _, _, _, _, hz, hn⟩ := hW
    refine ⟨hok, _, _, ([] ++ pa) ++ pv, ⟨[] ++ pa, pv, trodAll_append (hargs _ (fun _ _ => rfl)) (hres _ _ _), hvars _ (fun _ _ => rfl), rfl, ?_, ?_⟩, ?_⟩
    · intro b off hp
      have hin : MemPlace.cell b off ∈ before := by rw [hps]; simpa using hp
      rw [hb.frozen (hlt _ hin)]
      exact hz b off hin
    · intro ha
      have := hn ha
      rw [hps] at this
      simpa using this
    · intro p hp _
      rw [hps]
      simpa using hp
end
end Go.Proofs.YtbjddimafilflaaGreatDoor

/- THE PLAIN LAW OF JOINS, go on: a row as a map from columns; joins in another order, joins of three. -/
namespace Go.Proofs.YtbjddimafilflaaGreatDoor
open Go.RowKit Go.Sort
/-- what a row has in a column -/
def getJ (cols : List ByteArray) (r : List Val) (c : ByteArray) : Option Val := (posJ cols c).map (fun i => r[i]!)
theorem get_none {cols : List ByteArray} {r : List Val} {c : ByteArray} : getJ cols r c = none ↔ c ∉ cols := by
  unfold getJ
  rw [Option.map_eq_none_iff]; exact posJ_none
theorem get_at {cols : List ByteArray} {r : List Val} {c : ByteArray} {i : Nat} (h : posJ cols c = some i) : getJ cols r c = some r[i]! := by unfold getJ; rw [h]; rfl
theorem pos_mem {cols : List ByteArray} {c : ByteArray} (h : c ∈ cols) : ∃ i, posJ cols c = some i := by
  cases e : posJ cols c with
  | none => exact absurd h (posJ_none.1 e)
  | some i => exact ⟨i, rfl⟩
theorem agree_get {a b : List ByteArray} (ha : a.Nodup) {x y : List Val} : agreeJ a b x y = true ↔ ∀ c u v, getJ a x c = some u → getJ b y c = some v → u ≠ nullV ∧ u = v := by
  rw [agreeJ_iff]
  constructor
  · intro h c u v hu hv
    unfold getJ at hu hv
    obtain ⟨i, hi, rfl⟩ := Option.map_eq_some_iff.1 hu
    obtain ⟨k, hk, rfl⟩ := Option.map_eq_some_iff.1 hv
    obtain ⟨h1, h2⟩ := posJ_some hi
    exact h i h1 k (by rw [h2]; exact hk)
  · intro h i hi k hk
    exact h a[i]! _ _ (get_at ((posJ_iff ha).2 ⟨hi, rfl⟩)) (get_at hk)
def outB (a : List ByteArray) (c : ByteArray) : Bool := (posJ a c).isNone
theorem outB_true {a : List ByteArray} {c : ByteArray} : outB a c = true ↔ c ∉ a := by unfold outB; rw [Option.isNone_iff_eq_none]; exact posJ_none
theorem outB_false {a : List ByteArray} {c : ByteArray} : outB a c = false ↔ c ∈ a := by
  cases h : outB a c with
  | true => exact ⟨fun e => Bool.noConfusion e, fun e => absurd e (outB_true.1 h)⟩
  | false =>
    refine ⟨fun _ => Classical.byContradiction fun e => ?_, fun _ => rfl⟩
    rw [outB_true.2 e] at h; cases h
theorem others_cols (a b : List ByteArray) : ∀ k, k ≤ b.length → (othersK a b k).map (b[·]!) = (b.take k).filter (outB a)
  | 0, _ => by simp [othersK]
  | k + 1, h => by
    have ih := others_cols a b k (by omega)
    have hb : b[k]! = b[k] := getElem!_pos b k (by omega)
    rw [List.take_succ_eq_append_getElem (by omega), List.filter_append, ← ih]
    cases e : posJ a b[k]! with
    | none =>
      have h1 := posJ_none.1 e
      rw [hb] at h1
      rw [othersK_none e, List.map_append, List.filter_cons_of_pos (outB_true.2 h1), List.map_cons, List.map_nil, List.filter_nil, hb]
    | some i =>
      obtain ⟨h1, h2⟩ := posJ_some e
      have hm : b[k] ∈ a := by rw [← hb, ← h2, getElem!_pos a i h1]; exact List.getElem_mem h1
      rw [othersK_some e, List.filter_cons_of_neg (by rw [outB_false.2 hm]; exact Bool.false_ne_true), List.filter_nil, List.append_nil]
theorem cols_filter (a b : List ByteArray) : colsJ a b = a ++ b.filter (outB a) := by
  unfold colsJ
  rw [others_cols a b b.length (Nat.le_refl _), List.take_length]
theorem mem_cols {a b : List ByteArray} {c : ByteArray} : c ∈ colsJ a b ↔ c ∈ a ∨ c ∈ b := by
  rw [cols_filter, List.mem_append, List.mem_filter]
  constructor
  · rintro (h | ⟨h, -⟩)
    · exact .inl h
    · exact .inr h
  · rintro (h | h)
    · exact .inl h
    · by_cases e : c ∈ a
      · exact .inl e
      · exact .inr ⟨h, outB_true.2 e⟩
theorem cols_nodup {a b : List ByteArray} (ha : a.Nodup) (hb : b.Nodup) : (colsJ a b).Nodup := by
  rw [cols_filter, List.nodup_append]
  refine ⟨ha, hb.filter _, fun x hx y hy e => ?_⟩
  subst e
  exact outB_true.1 (List.mem_filter.1 hy).2 hx
theorem cols_assoc (a b c : List ByteArray) : colsJ (colsJ a b) c = colsJ a (colsJ b c) := by
  have h : c.filter (outB (colsJ a b)) = (c.filter (outB b)).filter (outB a) := by
    rw [List.filter_filter]
    refine List.filter_congr (fun x _ => ?_)
    rw [Bool.eq_iff_iff, Bool.and_eq_true, outB_true, outB_true, outB_true, mem_cols]
    exact ⟨fun h => ⟨fun e => h (.inl e), fun e => h (.inr e)⟩, fun h e => e.elim h.1 h.2⟩
  rw [cols_filter (colsJ a b), h, cols_filter a (colsJ b c), cols_filter b c, List.filter_append, cols_filter a b, List.append_assoc]
theorem glue_len {a b : List ByteArray} {x y : List Val} (hx : x.length = a.length) : (x ++ restJ a b y).length = (colsJ a b).length := by
  unfold restJ partJ colsJ
  rw [List.length_append, List.length_append, List.length_map, List.length_map, hx]
theorem pos_append (l m : List ByteArray) (c : ByteArray) : posJ (l ++ m) c = (posJ l c).or ((posJ m c).map (· + l.length)) := by
  unfold posJ
  rw [List.findIdx?_append]
theorem get_glue {a b : List ByteArray} (hb : b.Nodup) {x y : List Val} (hx : x.length = a.length) (c : ByteArray) : getJ (colsJ a b) (x ++ restJ a b y) c = (getJ a x c).or (getJ b y c) := by
  have hcol : colsJ a b = a ++ (othersK a b b.length).map (b[·]!) := rfl
  by_cases h : c ∈ a
  · obtain ⟨i, hi⟩ := pos_mem h
    obtain ⟨h1, -⟩ := posJ_some hi
    rw [get_at hi, Option.some_or]
    unfold getJ
    rw [hcol, pos_append, hi, Option.some_or, Option.map_some]
    congr 1
    rw [getElem!_pos _ i (by rw [List.length_append]; omega), getElem!_pos x i (by omega), List.getElem_append_left (by omega)]
  · rw [get_none.2 h, Option.none_or]
    have h1 := posJ_none.2 h
    by_cases hc : c ∈ b
    · have hm : c ∈ (othersK a b b.length).map (b[·]!) := by rw [others_cols a b b.length (Nat.le_refl _), List.take_length]; exact List.mem_filter.2 ⟨hc, outB_true.2 h⟩
      obtain ⟨j, hj⟩ := pos_mem hm
      obtain ⟨h2, h3⟩ := posJ_some hj
      rw [List.length_map] at h2
      rw [getElem!_pos _ j (by rw [List.length_map]; exact h2), List.getElem_map] at h3
      have h4 : posJ b c = some ((othersK a b b.length)[j]) := (posJ_iff hb).2 ⟨othersK_lt (List.getElem_mem h2), h3⟩
      rw [get_at h4]
      unfold getJ
      rw [hcol, pos_append, h1, Option.none_or, hj, Option.map_some, Option.map_some]
      congr 1
      have hl : j < (restJ a b y).length := by unfold restJ partJ; rw [List.length_map]; exact h2
      rw [getElem!_pos _ (j + a.length) (by rw [List.length_append]; omega), List.getElem_append_right (by omega)]
      simp only [hx, Nat.add_sub_cancel]
      unfold restJ partJ
      rw [List.getElem_map]
    · rw [get_none.2 hc, get_none]
      exact fun e => (mem_cols.1 e).elim h hc
theorem row_ext {cols : List ByteArray} (hc : cols.Nodup) {r s : List Val} (hr : r.length = cols.length) (hs : s.length = cols.length) (h : ∀ c ∈ cols, getJ cols r c = getJ cols s c) : r = s := by
  refine List.ext_getElem (hr.trans hs.symm) (fun i h1 h2 => ?_)
  have hi : i < cols.length := by omega
  have hp : posJ cols cols[i] = some i := (posJ_iff hc).2 ⟨hi, getElem!_pos cols i hi⟩
  have := h cols[i] (List.getElem_mem hi)
  rw [get_at hp, get_at hp, getElem!_pos r i h1, getElem!_pos s i h2] at this
  exact Option.some.inj this
theorem agree_symm {a b : List ByteArray} (ha : a.Nodup) (hb : b.Nodup) (x y : List Val) : agreeJ b a y x = agreeJ a b x y := by
  rw [Bool.eq_iff_iff, agree_get ha, agree_get hb]
  constructor
  · intro h c u v hu hv
    obtain ⟨h1, h2⟩ := h c v u hv hu
    exact ⟨h2 ▸ h1, h2.symm⟩
  · intro h c u v hu hv
    obtain ⟨h1, h2⟩ := h c v u hv hu
    exact ⟨h2 ▸ h1, h2.symm⟩
/-- three rows: the conditions of either nesting -/
theorem agree_left {a b c : List ByteArray} (ha : a.Nodup) (hb : b.Nodup) {x y z : List Val} (hx : x.length = a.length) (h : agreeJ a b x y = true) : agreeJ (colsJ a b) c (x ++ restJ a b y) z = (agreeJ a c x z && agreeJ b c y z) := by
  rw [Bool.eq_iff_iff, Bool.and_eq_true, agree_get (cols_nodup ha hb), agree_get ha, agree_get hb]
  have hg := agree_get ha |>.1 h
  constructor
  · intro h1
    refine ⟨fun k u v hu hv => h1 k u v ?_ hv, fun k u v hu hv => ?_⟩
    · rw [get_glue hb hx, hu]; rfl
    · cases e : getJ a x k with
      | some u' =>
        have h2 := hg k u' u e hu
        have h3 := h1 k u' v (by rw [get_glue hb hx, e]; rfl) hv
        exact ⟨h2.2 ▸ h3.1, h2.2 ▸ h3.2⟩
      | none => exact h1 k u v (by rw [get_glue hb hx, e]; exact hu) hv
  · rintro ⟨h1, h2⟩ k u v hu hv
    rw [get_glue hb hx] at hu
    cases e : getJ a x k with
    | some u' => rw [e, Option.some_or] at hu; exact h1 k u v (e.trans hu) hv
    | none => rw [e, Option.none_or] at hu; exact h2 k u v hu hv
theorem agree_right {a b c : List ByteArray} (ha : a.Nodup) (hc : c.Nodup) {x y z : List Val} (hy : y.length = b.length) : agreeJ a (colsJ b c) x (y ++ restJ b c z) = true → agreeJ a b x y = true := by
  rw [agree_get ha, agree_get ha]
  intro h k u v hu hv
  exact h k u v hu (by rw [get_glue hc hy, hv]; rfl)
theorem agree_right2 {a b c : List ByteArray} (ha : a.Nodup) (hb : b.Nodup) (hc : c.Nodup) {x y z : List Val} (hy : y.length = b.length) (h : agreeJ b c y z = true) : agreeJ a (colsJ b c) x (y ++ restJ b c z) = (agreeJ a b x y && agreeJ a c x z) := by
  rw [Bool.eq_iff_iff, Bool.and_eq_true]
  constructor
  · intro h1
    refine ⟨agree_right ha hc hy h1, ?_⟩
    rw [agree_get ha] at h1 ⊢
    intro k u v hu hv
    cases e : getJ b y k with
    | some v' =>
      have h2 := (agree_get hb |>.1 h) k v' v e hv
      have h3 := h1 k u v' hu (by rw [get_glue hc hy, e]; rfl)
      exact ⟨h3.1, h3.2.trans h2.2⟩
    | none => exact h1 k u v hu (by rw [get_glue hc hy, e]; exact hv)
  · rintro ⟨h1, h2⟩
    rw [agree_get ha] at h1 h2 ⊢
    intro k u v hu hv
    rw [get_glue hc hy] at hv
    cases e : getJ b y k with
    | some v' => rw [e, Option.some_or] at hv; exact h1 k u v hu (e.trans hv)
    | none => rw [e, Option.none_or] at hv; exact h2 k u v hu hv
theorem glue_assoc {a b c : List ByteArray} (ha : a.Nodup) (hb : b.Nodup) (hc : c.Nodup) {x y z : List Val} (hx : x.length = a.length) (hy : y.length = b.length) : (x ++ restJ a b y) ++ restJ (colsJ a b) c z = x ++ restJ a (colsJ b c) (y ++ restJ b c z) := by
  refine row_ext (cols := colsJ (colsJ a b) c) (cols_nodup (cols_nodup ha hb) hc) (glue_len (glue_len hx)) (by rw [cols_assoc]; exact glue_len hx) (fun k _ => ?_)
  rw [get_glue hc (glue_len hx), get_glue hb hx, cols_assoc, get_glue (cols_nodup hb hc) hx, get_glue hc hy]
  rw [Option.or_assoc]
/-- the natural join of three, in either nesting: the same list -/
theorem natR_assoc {a b c : Tab} (ha : a.cols.Nodup) (hb : b.cols.Nodup) (hc : c.cols.Nodup) (la : ∀ r ∈ a.rows, r.length = a.cols.length) (lb : ∀ r ∈ b.rows, r.length = b.cols.length) :
    natR ⟨colsJ a.cols b.cols, natR a b⟩ c = natR a ⟨colsJ b.cols c.cols, natR b c⟩ := by
  unfold natR
  rw [List.flatMap_assoc]
  refine flat_congr _ (fun x hx => ?_)
  rw [List.flatMap_map, List.filter_flatMap, List.map_flatMap]
  have hfl : ∀ (l : List (List Val)) (f : List Val → List (List Val)), (l.filter (agreeJ a.cols b.cols x)).flatMap f = l.flatMap (fun y => if agreeJ a.cols b.cols x y = true then f y else []) := fun l f => by
    induction l with
    | nil => rfl
    | cons y l ih =>
      rw [List.flatMap_cons]
      by_cases h : agreeJ a.cols b.cols x y = true
      · rw [List.filter_cons_of_pos h, List.flatMap_cons, ih, if_pos h]
      · rw [List.filter_cons_of_neg h, ih, if_neg h]; rfl
  rw [hfl]
  refine flat_congr _ (fun y hy => ?_)
  rw [List.filter_map, List.map_map]
  have hx' := la x hx
  have hy' := lb y hy
  by_cases h : agreeJ a.cols b.cols x y = true
  · rw [if_pos h, List.filter_filter]
    have hf : c.rows.filter (agreeJ (colsJ a.cols b.cols) c.cols (x ++ restJ a.cols b.cols y)) = c.rows.filter (fun z => (agreeJ a.cols (colsJ b.cols c.cols) x ∘ fun z => y ++ restJ b.cols c.cols z) z && agreeJ b.cols c.cols y z) := by
      refine List.filter_congr (fun z _ => ?_)
      rw [agree_left ha hb hx' h, Function.comp]
      cases h2 : agreeJ b.cols c.cols y z with
      | false => simp
      | true => rw [agree_right2 ha hb hc hy' h2, h]; simp
    rw [hf]
    refine List.map_congr_left (fun z _ => ?_)
    exact glue_assoc ha hb hc hx' hy'
  · rw [if_neg h]
    symm
    rw [List.map_eq_nil_iff, List.filter_eq_nil_iff]
    intro z hz
    exact fun e => h (agree_right ha hc hy' e)
/-- sorting what goes in does not change the bag that comes out -/
theorem natR_left_perm {a b : Tab} {l : List (List Val)} (h : l.Perm a.rows) : (natR ⟨a.cols, l⟩ b).Perm (natR a b) := h.flatMap_right _
theorem natR_right_perm {a b : Tab} {l : List (List Val)} (h : l.Perm b.rows) : (natR a ⟨b.cols, l⟩).Perm (natR a b) := flat_perm _ fun _ _ => (h.filter _).map _
theorem natR_width {a b : Tab} (la : ∀ r ∈ a.rows, r.length = a.cols.length) : ∀ r ∈ natR a b, r.length = (colsJ a.cols b.cols).length := fun r hr => by
  obtain ⟨x, hx, y, -, -, rfl⟩ := natR_mem hr
  exact glue_len (la x hx)
/-- two tables that can be joined -/
theorem errJ_ok {a b : Tab} (ha : chkT a = 0) (hb : chkT b = 0) : errJ a b = 0 := by unfold errJ; rw [if_pos ha]; exact hb
theorem natT_ok {a b : Tab} (ha : chkT a = 0) (hb : chkT b = 0) : natT a b = ⟨colsJ a.cols b.cols, sortO ordL (natR a b)⟩ := by unfold natT; rw [if_pos (errJ_ok ha hb)]
theorem natT_chk {a b : Tab} (ha : chkT a = 0) (hb : chkT b = 0) : chkT (natT a b) = 0 := by
  obtain ⟨na, la⟩ := chkT_zero ha
  obtain ⟨nb, lb⟩ := chkT_zero hb
  rw [natT_ok ha hb]
  exact chkT_ok (cols_nodup na nb) (fun r hr => natR_width la r ((sortO_perm TotC.row _).mem_iff.1 hr))
/-- THE LAW OF THREE TABLES -/
theorem nat_assoc {a b c : Tab} (ha : chkT a = 0) (hb : chkT b = 0) (hc : chkT c = 0) : natT (natT a b) c = natT a (natT b c) := by
  obtain ⟨na, la⟩ := chkT_zero ha
  obtain ⟨nb, lb⟩ := chkT_zero hb
  obtain ⟨nc, lc⟩ := chkT_zero hc
  rw [natT_ok (natT_chk ha hb) hc, natT_ok ha (natT_chk hb hc), natT_ok ha hb, natT_ok hb hc]
  have h1 := natR_left_perm (a := ⟨colsJ a.cols b.cols, natR a b⟩) (b := c) (sortO_perm TotC.row (natR a b))
  have h2 := natR_right_perm (a := a) (b := ⟨colsJ b.cols c.cols, natR b c⟩) (sortO_perm TotC.row (natR b c))
  have h3 := natR_assoc na nb nc la lb
  simp only at h1 h2 ⊢
  rw [cols_assoc, sortO_of_perm ((h1.trans (List.Perm.of_eq h3)).trans h2.symm)]
end Go.Proofs.YtbjddimafilflaaGreatDoor
