/- PARTS OF THE WALKS, joined: Lb, Lc, Ld. -/
import Derived.Test.YtbjddimafilflaaGreatDoorP27
/- THE WALK over the law's alive. -/
namespace Go.Proofs.YtbjddimafilflaaGreatDoor
open Go.RowKit Go.Sort
theorem sz_N : ∀ r ∈ ([[numV 1, numV 2, numV 5], [numV 1, numV 2, numV 6]] : List (List Val)), szL r := fun r hr => szL_of (fun v hv => by
  simp only [List.mem_cons, List.not_mem_nil, or_false] at hr
  rcases hr with rfl | rfl <;> (simp only [List.mem_cons, List.not_mem_nil, or_false] at hv; rcases hv with rfl | rfl | rfl <;> exact szV_iff.2 ⟨by decide, trivial⟩))
set_option maxRecDepth 100000 in
set_option maxHeartbeats 6400000 in
theorem l_alive (w : World) (hz : ZeroAt w) : Calls Tryz.prog 11 #[] w fun e w' => e = .returned (.bool true) ∧ Ext w w' := by
  have HN := Lib.hid (fun n W => l_num n W)
  have HZ := Lib.hid hz
  clear hz
  go_enter Tryz.func11, Tryz.ntmps11
  go_wp2_with fail
  obtain ⟨gs, W1, hgs, hW1, vgs, xW1⟩ := strs_lit w [xS, yS] (by decide)
  change W1 = w.alloc (.cells #[.string ⟨#[120]⟩, .string ⟨#[121]⟩] 9) at hW1
  rw [← hW1, ← hgs]
  clear hgs hW1
  refine (HN.out 1 W1).mono ?_
  rintro e W2 ⟨rfl, xW2⟩
  go_wp2_with fail
  refine (HN.out 2 W2).mono ?_
  rintro e W3 ⟨rfl, xW3⟩
  go_wp2_with fail
  obtain ⟨ga, W4, hga, hW4, vga, xW4⟩ := row_lit W3 [1, 2] (by decide)
  change W4 = W3.alloc (.cells #[.int .i64 2, .int .i64 1, .int .i64 0, .string ByteArray.empty, .slice none 0 0, .int .i64 2, .int .i64 2, .int .i64 0, .string ByteArray.empty, .slice none 0 0] 40) at hW4
  rw [← hW4, ← hga]
  clear hga hW4
  refine (HN.out 1 W4).mono ?_
  rintro e W5 ⟨rfl, xW5⟩
  go_wp2_with fail
  refine (HN.out 3 W5).mono ?_
  rintro e W6 ⟨rfl, xW6⟩
  go_wp2_with fail
  obtain ⟨gb1, V1a, hgb1, hV1a, vgb1, xV1a⟩ := row_lit W6 [1, 3] (by decide)
  change V1a = W6.alloc (.cells #[.int .i64 2, .int .i64 1, .int .i64 0, .string ByteArray.empty, .slice none 0 0, .int .i64 2, .int .i64 3, .int .i64 0, .string ByteArray.empty, .slice none 0 0] 40) at hV1a
  obtain ⟨gc1, V1b, hgc1, hV1b, vgc1, xV1b⟩ := rows_lit V1a (some ⟨ga, 0, none⟩) (some ⟨gb1, 0, none⟩) 2 2 [numV 1, numV 2] [numV 1, numV 3] (vga.ext (xW5.trans (xW6.trans xV1a))) (vgb1) (by decide) (by decide)
  change V1b = V1a.alloc (.cells #[.slice (some ⟨ga, 0, none⟩) 2 2, .slice (some ⟨gb1, 0, none⟩) 2 2] 37) at hV1b
  obtain ⟨gd1, V1c, hgd1, hV1c, gd10, gd11, xV1c⟩ := box_tab V1b (some ⟨gs, 0, none⟩) (some ⟨gc1, 0, none⟩) 2 2 2 2 25
  have egc1 : gc1 = W6.heap.size + 1 := by rw [hgc1, hV1a]; simp
  have egd1 : gd1 = W6.heap.size + 1 + 1 := by rw [hgd1, hV1b]; simp; rw [hV1a]; simp
  obtain ⟨ge, W10, hge, hW10, vge, xW10⟩ := strs_lit V1c [yS, zS] (by decide)
  change W10 = V1c.alloc (.cells #[.string ⟨#[121]⟩, .string ⟨#[122]⟩] 9) at hW10
  have ege : ge = W6.heap.size + 1 + 1 + 1 := by rw [hge, hV1c]; simp; rw [hV1b]; simp; rw [hV1a]; simp
  rw [← hgb1] at egc1 egd1 ege ⊢
  rw [← ege, ← egd1, ← egc1, ← hV1a, ← hV1b, ← hV1c, ← hW10]
  have HTA := Lib.hid (show TabAt W10 (fun _ => True) (some ⟨gs, 0, none⟩) (some ⟨gc1, 0, none⟩) tA from ⟨vgs.ext (xW2.trans (xW3.trans (xW4.trans (xW5.trans (xW6.trans (xV1a.trans (xV1b.trans (xV1c.trans xW10)))))))), vgc1.ext (xV1c.trans xW10)⟩)
  have xA : Ext w W10 := xW1.trans (xW2.trans (xW3.trans (xW4.trans (xW5.trans (xW6.trans (xV1a.trans (xV1b.trans (xV1c.trans xW10))))))))
  replace gd10 := xW10.cell gd10
  replace gd11 := xW10.cell gd11
  clear hgb1 hV1a hgc1 hV1b hgd1 hV1c hge hW10 egc1 egd1 ege vga vgb1 vgc1 vgs xW1 xW2 xW3 xW4 xW5 xW6 xV1a xV1b xV1c xW10
  refine (HN.out 2 W10).mono ?_
  rintro e W11 ⟨rfl, xW11⟩
  go_wp2_with fail
  refine (HN.out 5 W11).mono ?_
  rintro e W12 ⟨rfl, xW12⟩
  go_wp2_with fail
  obtain ⟨ga2, W13, hga2, hW13, vga2, xW13⟩ := row_lit W12 [2, 5] (by decide)
  change W13 = W12.alloc (.cells #[.int .i64 2, .int .i64 2, .int .i64 0, .string ByteArray.empty, .slice none 0 0, .int .i64 2, .int .i64 5, .int .i64 0, .string ByteArray.empty, .slice none 0 0] 40) at hW13
  rw [← hW13, ← hga2]
  clear hga2 hW13
  refine (HN.out 2 W13).mono ?_
  rintro e W14 ⟨rfl, xW14⟩
  go_wp2_with fail
  refine (HN.out 6 W14).mono ?_
  rintro e W15 ⟨rfl, xW15⟩
  go_upto_region 3 with (fail)
  obtain ⟨gb2, V2a, hgb2, hV2a, vgb2, xV2a⟩ := row_lit W15 [2, 6] (by decide)
  change V2a = W15.alloc (.cells #[.int .i64 2, .int .i64 2, .int .i64 0, .string ByteArray.empty, .slice none 0 0, .int .i64 2, .int .i64 6, .int .i64 0, .string ByteArray.empty, .slice none 0 0] 40) at hV2a
  obtain ⟨gc2, V2b, hgc2, hV2b, vgc2, xV2b⟩ := rows_lit V2a (some ⟨ga2, 0, none⟩) (some ⟨gb2, 0, none⟩) 2 2 [numV 2, numV 5] [numV 2, numV 6] (vga2.ext (xW14.trans (xW15.trans xV2a))) (vgb2) (by decide) (by decide)
  change V2b = V2a.alloc (.cells #[.slice (some ⟨ga2, 0, none⟩) 2 2, .slice (some ⟨gb2, 0, none⟩) 2 2] 37) at hV2b
  obtain ⟨gd2, V2c, hgd2, hV2c, gd20, gd21, xV2c⟩ := box_tab V2b (some ⟨ge, 0, none⟩) (some ⟨gc2, 0, none⟩) 2 2 2 2 25
  have egc2 : gc2 = W15.heap.size + 1 := by rw [hgc2, hV2a]; simp
  have egd2 : gd2 = W15.heap.size + 1 + 1 := by rw [hgd2, hV2b]; simp; rw [hV2a]; simp
  rw [← hgb2] at egc2 egd2 ⊢
  rw [← egd2, ← egc2, ← hV2a, ← hV2b, ← hV2c]
  have xB : Ext W10 V2c := xW11.trans (xW12.trans (xW13.trans (xW14.trans (xW15.trans (xV2a.trans (xV2b.trans xV2c))))))
  have HTB := Lib.hid (show TabAt V2c (fun _ => True) (some ⟨ge, 0, none⟩) (some ⟨gc2, 0, none⟩) tB from ⟨vge.ext xB, vgc2.ext xV2c⟩)
  replace gd10 := xB.cell gd10
  replace gd11 := xB.cell gd11
  have HTA2 := Lib.hid (HTA.out.ext xB)
  have xC := xA.trans xB
  clear HTA hgb2 hV2a hgc2 hV2b hgd2 hV2c egc2 egd2 vga2 vgb2 vgc2 vge xW11 xW12 xW13 xW14 xW15 xV2a xV2b xV2c xA xB
  have HNT := Lib.hid (j_Natural tA tB (fun _ => True) (fun _ => True) (some ⟨gs, 0, none⟩) (some ⟨ge, 0, none⟩) (some ⟨gc1, 0, none⟩) (some ⟨gc2, 0, none⟩) 2 2 2 2 V2c (HZ.out.ext xC) HTA2.out HTB.out fit_A fit_B cols_A cols_B)
  have HLF := Lib.hid (fun W (e : Ext V2c W) => j_Left tA tB (fun _ => True) (fun _ => True) (some ⟨gs, 0, none⟩) (some ⟨ge, 0, none⟩) (some ⟨gc1, 0, none⟩) (some ⟨gc2, 0, none⟩) 2 2 2 2 W (HZ.out.ext (xC.trans e)) (HTA2.out.ext e) (HTB.out.ext e) fit_A fit_B cols_A cols_B)
  rw [nat_AB, err_AB] at HNT
  rw [err_AB] at HLF
  have hs0 : gd1 < V2c.heap.size := block_lt_of_cell gd10
  go_wp2_with fail
  refine (HNT.out).mono ?_
  rintro e Wn ⟨A1, B1, c1, d1, rfl, hc1, hd1, hT1, hx1⟩
  clear HNT HTA2 HTB
  clear hs0
  replace gd10 := hx1.cell gd10
  replace gd11 := hx1.cell gd11
  replace gd20 := hx1.cell gd20
  replace gd21 := hx1.cell gd21
  have hs1 : gd1 < Wn.heap.size := block_lt_of_cell gd10
  have hs2 : gd2 < Wn.heap.size := block_lt_of_cell gd20
  go_wp2_with fail
  obtain ⟨gn, Wm, hgn, hWm, gn0, gn1, xWm⟩ := box_tab Wn A1 B1 3 c1 2 d1 25
  change Wm = Wn.alloc (.cells #[.slice A1 3 c1, .slice B1 2 d1] 25) at hWm
  rw [← hWm, ← hgn]
  refine (HLF.out Wm (hx1.trans xWm)).mono ?_
  rintro e Wl ⟨A2, B2, c2, d2, rfl, hc2, hd2, hT2, hx2⟩
  obtain ⟨n2, hn2⟩ : ∃ n, n = (leftT tA tB).cols.length := ⟨_, rfl⟩
  rw [← hn2, left_AB]
  clear hn2 HLF hgn hWm hc2 hd2 hT2
  go_upto_region 5 with (fail)
  obtain ⟨gl, W20, hgl, hW20, gl0, gl1, xW20⟩ := box_tab Wl A2 B2 n2 c2 3 d2 25
  rw [← hW20, ← hgl]
  have xD : Ext Wm W20 := hx2.trans xW20
  obtain ⟨bz, oz, e1, hcz⟩ := hT1.cols.2 (by decide)
  subst e1
  have cz := (hcz 2 (by decide)).2
  change Wn.cell? ⟨bz, oz + 2, none⟩ = some (.string ⟨#[122]⟩) at cz
  replace cz := (xWm.trans xD).cell cz
  replace gn0 := xD.cell gn0
  replace gn1 := xD.cell gn1
  have HR1 := Lib.hid (hT1.rows.ext (xWm.trans xD))
  have HSR := Lib.hid (fun W (e : Ext W20 W) g (h : Rows W (fun _ => True) (some ⟨g, 0, none⟩) [[numV 1, numV 2, numV 5], [numV 1, numV 2, numV 6]]) => r_SameRows [[numV 1, numV 2, numV 5], [numV 1, numV 2, numV 6]] _ _ (fun _ => True) B1 (some ⟨g, 0, none⟩) d1 2 W (HR1.out.ext e) h sz_N sz_N)
  rw [show decide (([[numV 1, numV 2, numV 5], [numV 1, numV 2, numV 6]] : List (List Val)) = [[numV 1, numV 2, numV 5], [numV 1, numV 2, numV 6]]) = true from by decide] at HSR
  have xE := xC.trans (hx1.trans (xWm.trans xD))
  clear hgl hW20 hcz hT1 hx1 hx2 xWm xW20 xD xC hc1 hd1 gd10 gd11 gd20 gd21 hs1 hs2
  have MKR := Lib.hid (fun V (e : Ext W20 V) => (⟨e.cell gn0, e.cell gn1, e.cell gl1, e.cell cz, e⟩ : V.cell? ⟨gn, 0, none⟩ = some (.slice (some ⟨bz, oz, none⟩) 3 c1) ∧ V.cell? ⟨gn, 1, none⟩ = some (.slice B1 2 d1) ∧ V.cell? ⟨gl, 1, none⟩ = some (.slice B2 3 d2) ∧ V.cell? ⟨bz, oz + 2, none⟩ = some (.string ⟨#[122]⟩) ∧ Ext W20 V))
  refine wp_region_held_drew (S := (fun V => V.cell? ⟨gn, 0, none⟩ = some (.slice (some ⟨bz, oz, none⟩) 3 c1) ∧ V.cell? ⟨gn, 1, none⟩ = some (.slice B1 2 d1) ∧ V.cell? ⟨gl, 1, none⟩ = some (.slice B2 3 d2) ∧ V.cell? ⟨bz, oz + 2, none⟩ = some (.string ⟨#[122]⟩) ∧ Ext W20 V)) (by kernel_rfl) ?hs1 (fun hHeld => ?go1)
  case hs1 => (exact MKR.out _ (by repeat (first | with_reducible exact Ext.refl _ | with_reducible assumption | with_reducible refine Ext.drew ?_ | with_reducible refine Ext.drewN ?_ _ | with_reducible refine Ext.alloc ?_ _)))
  refine wpAnyH_take (i := 0) (oi := ⟨(some 37), (.move (.tmp 4)), 27, "law.go:20", #[], none⟩) (v := ?v2) rfl (by kernel_rfl) (by kernel_rfl) (by kernel_rfl) (fun _ _ _ h => h) (Or.inl ⟨rfl, ?hy2⟩) hHeld ?rest2
  case hy2 => (intro w hSw; (try dsimp only at hSw); go_simp <;> first | with_reducible rfl | rw [if_neg (by omega)] | rw [if_pos (by omega)])
  (try simp only [Act.put]); (try simp only [List.setIfInBounds_toArray]); (try simp only [List.set_cons_succ]); (try simp only [List.set_cons_zero])
  refine wpAnyH_take (i := 1) (oi := ⟨(some 38), (.binOp .eql 27 (.tmp 37) (.const (.int .i64 0)) 27), 4, "law.go:20", #[⟨0, .data⟩], none⟩) (v := ?v3) rfl (by kernel_rfl) (by kernel_rfl) (by kernel_rfl) (fun _ _ _ h => h) (Or.inl ⟨rfl, ?hy3⟩) hHeld ?rest3
  case hy3 => (intro w hSw; (try dsimp only at hSw); go_simp <;> first | with_reducible rfl | rw [if_neg (by omega)] | rw [if_pos (by omega)])
  (try simp only [Act.put]); (try simp only [List.setIfInBounds_toArray]); (try simp only [List.set_cons_succ]); (try simp only [List.set_cons_zero])
  refine wpAnyH_take (i := 2) (oi := ⟨(some 39), (.move (.tmp 38)), 4, "law.go:20", #[⟨1, .data⟩], none⟩) (v := ?v4) rfl (by kernel_rfl) (by kernel_rfl) (by kernel_rfl) (fun _ _ _ h => h) (Or.inl ⟨rfl, ?hy4⟩) hHeld ?rest4
  case hy4 => (intro w hSw; (try dsimp only at hSw); go_simp <;> first | with_reducible rfl | rw [if_neg (by omega)] | rw [if_pos (by omega)])
  (try simp only [Act.put]); (try simp only [List.setIfInBounds_toArray]); (try simp only [List.set_cons_succ]); (try simp only [List.set_cons_zero])
  refine wpAnyH_take (i := 3) (oi := ⟨(some 40), (.move (.tmp 6)), 27, "law.go:20", #[⟨2, .guard⟩], (some (2, true))⟩) (v := ?v5) rfl (by kernel_rfl) (by kernel_rfl) (by kernel_rfl) (fun _ _ _ h => h) (Or.inl ⟨rfl, ?hy5⟩) hHeld ?rest5
  case hy5 => (intro w hSw; (try dsimp only at hSw); go_simp <;> first | with_reducible rfl | rw [if_neg (by omega)] | rw [if_pos (by omega)])
  (try simp only [Act.put]); (try simp only [List.setIfInBounds_toArray]); (try simp only [List.set_cons_succ]); (try simp only [List.set_cons_zero])
  refine wpAnyH_take (i := 4) (oi := ⟨(some 41), (.binOp .eql 27 (.tmp 40) (.const (.int .i64 0)) 27), 4, "law.go:20", #[⟨3, .data⟩, ⟨2, .guard⟩], (some (2, true))⟩) (v := ?v6) rfl (by kernel_rfl) (by kernel_rfl) (by kernel_rfl) (fun _ _ _ h => h) (Or.inl ⟨rfl, ?hy6⟩) hHeld ?rest6
  case hy6 => (intro w hSw; (try dsimp only at hSw); go_simp <;> first | with_reducible rfl | rw [if_neg (by omega)] | rw [if_pos (by omega)])
  (try simp only [Act.put]); (try simp only [List.setIfInBounds_toArray]); (try simp only [List.set_cons_succ]); (try simp only [List.set_cons_zero])
  refine wpAnyH_take (i := 5) (oi := ⟨(some 42), (.pick (.tmp 39) (.tmp 41) (.const (.bool false))), 4, "law.go:20", #[⟨2, .data⟩, ⟨4, .data⟩], none⟩) (v := ?v7) rfl (by kernel_rfl) (by kernel_rfl) (by kernel_rfl) (fun _ _ _ h => h) (Or.inl ⟨rfl, ?hy7⟩) hHeld ?rest7
  case hy7 => (intro w hSw; (try dsimp only at hSw); go_simp <;> first | with_reducible rfl | rw [if_neg (by omega)] | rw [if_pos (by omega)])
  (try simp only [Act.put]); (try simp only [List.setIfInBounds_toArray]); (try simp only [List.set_cons_succ]); (try simp only [List.set_cons_zero])
  refine wpAnyH_take (i := 6) (oi := ⟨(some 43), (.move (.tmp 42)), 4, "law.go:20", #[⟨5, .data⟩, ⟨2, .chain⟩], none⟩) (v := ?v8) rfl (by kernel_rfl) (by kernel_rfl) (by kernel_rfl) (fun _ _ _ h => h) (Or.inl ⟨rfl, ?hy8⟩) hHeld ?rest8
  case hy8 => (intro w hSw; (try dsimp only at hSw); go_simp <;> first | with_reducible rfl | rw [if_neg (by omega)] | rw [if_pos (by omega)])
  (try simp only [Act.put]); (try simp only [List.setIfInBounds_toArray]); (try simp only [List.set_cons_succ]); (try simp only [List.set_cons_zero])
  refine wpAnyH_take (i := 7) (oi := ⟨(some 44), (.fieldAddr 25 (.tmp 3) 0), 0, "law.go:20", #[⟨6, .guard⟩], (some (6, true))⟩) (v := ?v9) rfl (by kernel_rfl) (by kernel_rfl) (by kernel_rfl) (fun _ _ _ h => h) (Or.inl ⟨rfl, ?hy9⟩) hHeld ?rest9
  case hy9 => (intro w hSw; (try dsimp only at hSw); go_simp <;> first | with_reducible rfl | rw [if_neg (by omega)] | rw [if_pos (by omega)])
  (try simp only [Act.put]); (try simp only [List.setIfInBounds_toArray]); (try simp only [List.set_cons_succ]); (try simp only [List.set_cons_zero])
  refine wpAnyH_take (i := 8) (oi := ⟨(some 45), (.load 22 (.tmp 44)), 22, "law.go:20", #[⟨7, .data⟩, ⟨6, .guard⟩], (some (6, true))⟩) (v := ?v10) rfl (by kernel_rfl) (by kernel_rfl) (by kernel_rfl) (fun _ _ _ h => h) (Or.inl ⟨rfl, ?hy10⟩) hHeld ?rest10
  case hy10 => (intro w hSw; (try dsimp only at hSw); go_simp <;> first | with_reducible rfl | rw [if_neg (by omega)] | rw [if_pos (by omega)])
  (try simp only [Act.put]); (try simp only [List.setIfInBounds_toArray]); (try simp only [List.set_cons_succ]); (try simp only [List.set_cons_zero])
  refine wpAnyH_take (i := 9) (oi := ⟨(some 46), (.call { callee := (.builtin .len), args := #[(.tmp 45)], argTypes := #[22] }), 3, "law.go:20", #[⟨8, .data⟩, ⟨6, .guard⟩], (some (6, true))⟩) (v := ?v11) rfl (by kernel_rfl) (by kernel_rfl) (by kernel_rfl) (fun _ _ _ h => h) (Or.inl ⟨rfl, ?hy11⟩) hHeld ?rest11
  case hy11 => (intro w hSw; (try dsimp only at hSw); go_simp <;> first | with_reducible rfl | rw [if_neg (by omega)] | rw [if_pos (by omega)])
  (try simp only [Act.put]); (try simp only [List.setIfInBounds_toArray]); (try simp only [List.set_cons_succ]); (try simp only [List.set_cons_zero])
  refine wpAnyH_take (i := 10) (oi := ⟨(some 47), (.binOp .eql 3 (.tmp 46) (.const (.int .i64 3)) 3), 4, "law.go:20", #[⟨9, .data⟩, ⟨6, .guard⟩], (some (6, true))⟩) (v := ?v12) rfl (by kernel_rfl) (by kernel_rfl) (by kernel_rfl) (fun _ _ _ h => h) (Or.inl ⟨rfl, ?hy12⟩) hHeld ?rest12
  case hy12 => (intro w hSw; (try dsimp only at hSw); go_simp <;> first | with_reducible rfl | rw [if_neg (by omega)] | rw [if_pos (by omega)])
  (try simp only [Act.put]); (try simp only [List.setIfInBounds_toArray]); (try simp only [List.set_cons_succ]); (try simp only [List.set_cons_zero])
  refine wpAnyH_take (i := 11) (oi := ⟨(some 48), (.pick (.tmp 43) (.tmp 47) (.const (.bool false))), 4, "law.go:20", #[⟨6, .data⟩, ⟨10, .data⟩], none⟩) (v := ?v13) rfl (by kernel_rfl) (by kernel_rfl) (by kernel_rfl) (fun _ _ _ h => h) (Or.inl ⟨rfl, ?hy13⟩) hHeld ?rest13
  case hy13 => (intro w hSw; (try dsimp only at hSw); go_simp <;> first | with_reducible rfl | rw [if_neg (by omega)] | rw [if_pos (by omega)])
  (try simp only [Act.put]); (try simp only [List.setIfInBounds_toArray]); (try simp only [List.set_cons_succ]); (try simp only [List.set_cons_zero])
  refine wpAnyH_take (i := 12) (oi := ⟨(some 49), (.move (.tmp 48)), 4, "law.go:20", #[⟨11, .data⟩, ⟨6, .chain⟩], none⟩) (v := ?v14) rfl (by kernel_rfl) (by kernel_rfl) (by kernel_rfl) (fun _ _ _ h => h) (Or.inl ⟨rfl, ?hy14⟩) hHeld ?rest14
  case hy14 => (intro w hSw; (try dsimp only at hSw); go_simp <;> first | with_reducible rfl | rw [if_neg (by omega)] | rw [if_pos (by omega)])
  (try simp only [Act.put]); (try simp only [List.setIfInBounds_toArray]); (try simp only [List.set_cons_succ]); (try simp only [List.set_cons_zero])
  refine wpAnyH_take (i := 13) (oi := ⟨(some 50), (.fieldAddr 25 (.tmp 3) 0), 0, "law.go:20", #[⟨12, .guard⟩], (some (12, true))⟩) (v := ?v15) rfl (by kernel_rfl) (by kernel_rfl) (by kernel_rfl) (fun _ _ _ h => h) (Or.inl ⟨rfl, ?hy15⟩) hHeld ?rest15
  case hy15 => (intro w hSw; (try dsimp only at hSw); go_simp <;> first | with_reducible rfl | rw [if_neg (by omega)] | rw [if_pos (by omega)])
  (try simp only [Act.put]); (try simp only [List.setIfInBounds_toArray]); (try simp only [List.set_cons_succ]); (try simp only [List.set_cons_zero])
  refine wpAnyH_take (i := 14) (oi := ⟨(some 51), (.load 22 (.tmp 50)), 22, "law.go:20", #[⟨13, .data⟩, ⟨12, .guard⟩], (some (12, true))⟩) (v := ?v16) rfl (by kernel_rfl) (by kernel_rfl) (by kernel_rfl) (fun _ _ _ h => h) (Or.inl ⟨rfl, ?hy16⟩) hHeld ?rest16
  case hy16 => (intro w hSw; (try dsimp only at hSw); go_simp <;> first | with_reducible rfl | rw [if_neg (by omega)] | rw [if_pos (by omega)])
  (try simp only [Act.put]); (try simp only [List.setIfInBounds_toArray]); (try simp only [List.set_cons_succ]); (try simp only [List.set_cons_zero])
  refine wpAnyH_take (i := 15) (oi := ⟨(some 52), (.indexAddr 22 (.tmp 51) (.const (.int .i64 2))), 0, "law.go:20", #[⟨14, .data⟩, ⟨12, .guard⟩], (some (12, true))⟩) (v := ?v17) rfl (by kernel_rfl) (by kernel_rfl) (by kernel_rfl) (fun _ _ _ h => h) (Or.inl ⟨rfl, ?hy17⟩) hHeld ?rest17
  case hy17 => (intro w hSw; (try dsimp only at hSw); go_simp <;> first | with_reducible rfl | rw [if_neg (by omega)] | rw [if_pos (by omega)])
  (try simp only [Act.put]); (try simp only [List.setIfInBounds_toArray]); (try simp only [List.set_cons_succ]); (try simp only [List.set_cons_zero])
  refine wpAnyH_take (i := 16) (oi := ⟨(some 53), (.load 9 (.tmp 52)), 9, "law.go:20", #[⟨15, .data⟩, ⟨12, .guard⟩], (some (12, true))⟩) (v := ?v18) rfl (by kernel_rfl) (by kernel_rfl) (by kernel_rfl) (fun _ _ _ h => h) (Or.inl ⟨rfl, ?hy18⟩) hHeld ?rest18
  case hy18 => (intro w hSw; (try dsimp only at hSw); go_simp <;> first | with_reducible rfl | rw [if_neg (by omega)] | rw [if_pos (by omega)])
  (try simp only [Act.put]); (try simp only [List.setIfInBounds_toArray]); (try simp only [List.set_cons_succ]); (try simp only [List.set_cons_zero])
  refine wpAnyH_take (i := 17) (oi := ⟨(some 54), (.binOp .eql 9 (.tmp 53) (.const (.string { data := #[122] })) 9), 4, "law.go:20", #[⟨16, .data⟩, ⟨12, .guard⟩], (some (12, true))⟩) (v := ?v19) rfl (by kernel_rfl) (by kernel_rfl) (by kernel_rfl) (fun _ _ _ h => h) (Or.inl ⟨rfl, ?hy19⟩) hHeld ?rest19
  case hy19 => (intro w hSw; (try dsimp only at hSw); go_simp <;> first | with_reducible rfl | rw [if_neg (by omega)] | rw [if_pos (by omega)])
  (try simp only [Act.put]); (try simp only [List.setIfInBounds_toArray]); (try simp only [List.set_cons_succ]); (try simp only [List.set_cons_zero])
  refine wpAnyH_take (i := 18) (oi := ⟨(some 55), (.pick (.tmp 49) (.tmp 54) (.const (.bool false))), 4, "law.go:20", #[⟨12, .data⟩, ⟨17, .data⟩], none⟩) (v := ?v20) rfl (by kernel_rfl) (by kernel_rfl) (by kernel_rfl) (fun _ _ _ h => h) (Or.inl ⟨rfl, ?hy20⟩) hHeld ?rest20
  case hy20 => (intro w hSw; (try dsimp only at hSw); go_simp <;> first | with_reducible rfl | rw [if_neg (by omega)] | rw [if_pos (by omega)])
  (try simp only [Act.put]); (try simp only [List.setIfInBounds_toArray]); (try simp only [List.set_cons_succ]); (try simp only [List.set_cons_zero])
  refine wpAnyH_take (i := 19) (oi := ⟨(some 56), (.move (.tmp 55)), 4, "law.go:20", #[⟨18, .data⟩, ⟨12, .chain⟩], none⟩) (v := ?v21) rfl (by kernel_rfl) (by kernel_rfl) (by kernel_rfl) (fun _ _ _ h => h) (Or.inl ⟨rfl, ?hy21⟩) hHeld ?rest21
  case hy21 => (intro w hSw; (try dsimp only at hSw); go_simp <;> first | with_reducible rfl | rw [if_neg (by omega)] | rw [if_pos (by omega)])
  (try simp only [Act.put]); (try simp only [List.setIfInBounds_toArray]); (try simp only [List.set_cons_succ]); (try simp only [List.set_cons_zero])
  refine wpAnyH_take (i := 20) (oi := ⟨(some 57), (.fieldAddr 25 (.tmp 3) 1), 0, "law.go:20", #[⟨19, .guard⟩], (some (19, true))⟩) (v := ?v22) rfl (by kernel_rfl) (by kernel_rfl) (by kernel_rfl) (fun _ _ _ h => h) (Or.inl ⟨rfl, ?hy22⟩) hHeld ?rest22
  case hy22 => (intro w hSw; (try dsimp only at hSw); go_simp <;> first | with_reducible rfl | rw [if_neg (by omega)] | rw [if_pos (by omega)])
  (try simp only [Act.put]); (try simp only [List.setIfInBounds_toArray]); (try simp only [List.set_cons_succ]); (try simp only [List.set_cons_zero])
  refine wpAnyH_take (i := 21) (oi := ⟨(some 58), (.load 23 (.tmp 57)), 23, "law.go:20", #[⟨20, .data⟩, ⟨19, .guard⟩], (some (19, true))⟩) (v := ?v23) rfl (by kernel_rfl) (by kernel_rfl) (by kernel_rfl) (fun _ _ _ h => h) (Or.inl ⟨rfl, ?hy23⟩) hHeld ?rest23
  case hy23 => (intro w hSw; (try dsimp only at hSw); go_simp <;> first | with_reducible rfl | rw [if_neg (by omega)] | rw [if_pos (by omega)])
  (try simp only [Act.put]); (try simp only [List.setIfInBounds_toArray]); (try simp only [List.set_cons_succ]); (try simp only [List.set_cons_zero])
  refine wpAnyH_ready (rs := [22]) (by kernel_rfl) (by simp) ?_
  refine AllReadyH.cons (o := ⟨(some 59), (.call { callee := (.value (.func 29)), args := #[(.const (.int .i64 1))], argTypes := #[3] }), 40, "law.go:20", #[⟨19, .chain⟩, ⟨19, .guard⟩], (some (19, true))⟩) rfl (fun K hK => ?step24x0) ?more24x0
  case more24x0 => exact AllReadyH.nil
  go_simp
  (refine (HN.out 1 _).mono ?_; rintro e w22 ⟨rfl, x22⟩; have y22 : Ext W20 w22 := Ext.trans (by repeat (first | with_reducible exact Ext.refl _ | with_reducible assumption | with_reducible refine Ext.drew ?_ | with_reducible refine Ext.drewN ?_ _ | with_reducible refine Ext.alloc ?_ _)) x22)
  refine hK.out _ _ ?hS24x0 (fun hHeld24 => ?rest24x0)
  case hS24x0 => first | (exact MKR.out _ (by repeat (first | with_reducible exact Ext.refl _ | with_reducible assumption | with_reducible refine Ext.drew ?_ | with_reducible refine Ext.drewN ?_ _ | with_reducible refine Ext.alloc ?_ _))) | ((try dsimp only); (exact MKR.out _ (by repeat (first | with_reducible exact Ext.refl _ | with_reducible assumption | with_reducible refine Ext.drew ?_ | with_reducible refine Ext.drewN ?_ _ | with_reducible refine Ext.alloc ?_ _))))
  clear hK K
  clear hHeld
  (try simp only [Act.put]); (try simp only [List.setIfInBounds_toArray]); (try simp only [List.set_cons_succ]); (try simp only [List.set_cons_zero])
  refine wpAnyH_ready (rs := [23]) (by kernel_rfl) (by simp) ?_
  refine AllReadyH.cons (o := ⟨(some 60), (.call { callee := (.value (.func 29)), args := #[(.const (.int .i64 2))], argTypes := #[3] }), 40, "law.go:20", #[⟨22, .chain⟩, ⟨19, .guard⟩], (some (19, true))⟩) rfl (fun K hK => ?step25x0) ?more25x0
  case more25x0 => exact AllReadyH.nil
  go_simp
  (refine (HN.out 2 _).mono ?_; rintro e w23 ⟨rfl, x23⟩; have y23 : Ext W20 w23 := Ext.trans (by repeat (first | with_reducible exact Ext.refl _ | with_reducible assumption | with_reducible refine Ext.drew ?_ | with_reducible refine Ext.drewN ?_ _ | with_reducible refine Ext.alloc ?_ _)) x23)
  refine hK.out _ _ ?hS25x0 (fun hHeld25 => ?rest25x0)
  case hS25x0 => first | (exact MKR.out _ (by repeat (first | with_reducible exact Ext.refl _ | with_reducible assumption | with_reducible refine Ext.drew ?_ | with_reducible refine Ext.drewN ?_ _ | with_reducible refine Ext.alloc ?_ _))) | ((try dsimp only); (exact MKR.out _ (by repeat (first | with_reducible exact Ext.refl _ | with_reducible assumption | with_reducible refine Ext.drew ?_ | with_reducible refine Ext.drewN ?_ _ | with_reducible refine Ext.alloc ?_ _))))
  clear hK K
  clear hHeld24
  (try simp only [Act.put]); (try simp only [List.setIfInBounds_toArray]); (try simp only [List.set_cons_succ]); (try simp only [List.set_cons_zero])
  refine wpAnyH_ready (rs := [24]) (by kernel_rfl) (by simp) ?_
  refine AllReadyH.cons (o := ⟨(some 61), (.call { callee := (.value (.func 29)), args := #[(.const (.int .i64 5))], argTypes := #[3] }), 40, "law.go:20", #[⟨23, .chain⟩, ⟨19, .guard⟩], (some (19, true))⟩) rfl (fun K hK => ?step26x0) ?more26x0
  case more26x0 => exact AllReadyH.nil
  go_simp
  (refine (HN.out 5 _).mono ?_; rintro e w24 ⟨rfl, x24⟩; have y24 : Ext W20 w24 := Ext.trans (by repeat (first | with_reducible exact Ext.refl _ | with_reducible assumption | with_reducible refine Ext.drew ?_ | with_reducible refine Ext.drewN ?_ _ | with_reducible refine Ext.alloc ?_ _)) x24)
  refine hK.out _ _ ?hS26x0 (fun hHeld26 => ?rest26x0)
  case hS26x0 => first | (exact MKR.out _ (by repeat (first | with_reducible exact Ext.refl _ | with_reducible assumption | with_reducible refine Ext.drew ?_ | with_reducible refine Ext.drewN ?_ _ | with_reducible refine Ext.alloc ?_ _))) | ((try dsimp only); (exact MKR.out _ (by repeat (first | with_reducible exact Ext.refl _ | with_reducible assumption | with_reducible refine Ext.drew ?_ | with_reducible refine Ext.drewN ?_ _ | with_reducible refine Ext.alloc ?_ _))))
  clear hK K
  clear hHeld25
  (try simp only [Act.put]); (try simp only [List.setIfInBounds_toArray]); (try simp only [List.set_cons_succ]); (try simp only [List.set_cons_zero])
  refine wpAnyH_ready (rs := [25, 26]) (by kernel_rfl) (by simp) ?_
  refine AllReadyH.cons (o := ⟨(some 62), (.buildSlice 37 3 #[(0, (.tmp 59)), (1, (.tmp 60)), (2, (.tmp 61))]), 37, "law.go:20", #[⟨22, .data⟩, ⟨23, .data⟩, ⟨24, .data⟩, ⟨19, .guard⟩], (some (19, true))⟩) rfl (fun K hK => ?step27x0) ?more27x0
  case more27x0 =>
    refine AllReadyH.cons (o := ⟨(some 63), (.call { callee := (.value (.func 29)), args := #[(.const (.int .i64 1))], argTypes := #[3] }), 40, "law.go:20", #[⟨24, .chain⟩, ⟨19, .guard⟩], (some (19, true))⟩) rfl (fun K hK => ?step27x1) ?more27x1
    case more27x1 => exact AllReadyH.nil
    go_simp
    (refine (HN.out 1 _).mono ?_; rintro e w26 ⟨rfl, x26⟩; have y26 : Ext W20 w26 := Ext.trans (by repeat (first | with_reducible exact Ext.refl _ | with_reducible assumption | with_reducible refine Ext.drew ?_ | with_reducible refine Ext.drewN ?_ _ | with_reducible refine Ext.alloc ?_ _)) x26)
    refine hK.out _ _ ?hS27x1 (fun hHeld27 => ?rest27x1)
    case hS27x1 => first | (exact MKR.out _ (by repeat (first | with_reducible exact Ext.refl _ | with_reducible assumption | with_reducible refine Ext.drew ?_ | with_reducible refine Ext.drewN ?_ _ | with_reducible refine Ext.alloc ?_ _))) | ((try dsimp only); (exact MKR.out _ (by repeat (first | with_reducible exact Ext.refl _ | with_reducible assumption | with_reducible refine Ext.drew ?_ | with_reducible refine Ext.drewN ?_ _ | with_reducible refine Ext.alloc ?_ _))))
    clear hK K
    clear hHeld26
    (try simp only [Act.put]); (try simp only [List.setIfInBounds_toArray]); (try simp only [List.set_cons_succ]); (try simp only [List.set_cons_zero])
    refine wpAnyH_ready (rs := [25, 27]) (by kernel_rfl) (by simp) ?_
    refine AllReadyH.cons (o := ⟨(some 62), (.buildSlice 37 3 #[(0, (.tmp 59)), (1, (.tmp 60)), (2, (.tmp 61))]), 37, "law.go:20", #[⟨22, .data⟩, ⟨23, .data⟩, ⟨24, .data⟩, ⟨19, .guard⟩], (some (19, true))⟩) rfl (fun K hK => ?step28x0) ?more28x0
    case more28x0 =>
      refine AllReadyH.cons (o := ⟨(some 64), (.call { callee := (.value (.func 29)), args := #[(.const (.int .i64 2))], argTypes := #[3] }), 40, "law.go:20", #[⟨26, .chain⟩, ⟨19, .guard⟩], (some (19, true))⟩) rfl (fun K hK => ?step28x1) ?more28x1
      case more28x1 => exact AllReadyH.nil
      go_simp
      (refine (HN.out 2 _).mono ?_; rintro e w27 ⟨rfl, x27⟩; have y27 : Ext W20 w27 := Ext.trans (by repeat (first | with_reducible exact Ext.refl _ | with_reducible assumption | with_reducible refine Ext.drew ?_ | with_reducible refine Ext.drewN ?_ _ | with_reducible refine Ext.alloc ?_ _)) x27)
      refine hK.out _ _ ?hS28x1 (fun hHeld28 => ?rest28x1)
      case hS28x1 => first | (exact MKR.out _ (by repeat (first | with_reducible exact Ext.refl _ | with_reducible assumption | with_reducible refine Ext.drew ?_ | with_reducible refine Ext.drewN ?_ _ | with_reducible refine Ext.alloc ?_ _))) | ((try dsimp only); (exact MKR.out _ (by repeat (first | with_reducible exact Ext.refl _ | with_reducible assumption | with_reducible refine Ext.drew ?_ | with_reducible refine Ext.drewN ?_ _ | with_reducible refine Ext.alloc ?_ _))))
      clear hK K
      clear hHeld27
      (try simp only [Act.put]); (try simp only [List.setIfInBounds_toArray]); (try simp only [List.set_cons_succ]); (try simp only [List.set_cons_zero])
      refine wpAnyH_ready (rs := [25, 28]) (by kernel_rfl) (by simp) ?_
      refine AllReadyH.cons (o := ⟨(some 62), (.buildSlice 37 3 #[(0, (.tmp 59)), (1, (.tmp 60)), (2, (.tmp 61))]), 37, "law.go:20", #[⟨22, .data⟩, ⟨23, .data⟩, ⟨24, .data⟩, ⟨19, .guard⟩], (some (19, true))⟩) rfl (fun K hK => ?step29x0) ?more29x0
      case more29x0 =>
        refine AllReadyH.cons (o := ⟨(some 65), (.call { callee := (.value (.func 29)), args := #[(.const (.int .i64 6))], argTypes := #[3] }), 40, "law.go:20", #[⟨27, .chain⟩, ⟨19, .guard⟩], (some (19, true))⟩) rfl (fun K hK => ?step29x1) ?more29x1
        case more29x1 => exact AllReadyH.nil
        go_simp
        (refine (HN.out 6 _).mono ?_; rintro e w28 ⟨rfl, x28⟩; have y28 : Ext W20 w28 := Ext.trans (by repeat (first | with_reducible exact Ext.refl _ | with_reducible assumption | with_reducible refine Ext.drew ?_ | with_reducible refine Ext.drewN ?_ _ | with_reducible refine Ext.alloc ?_ _)) x28)
        refine hK.out _ _ ?hS29x1 (fun hHeld29 => ?rest29x1)
        case hS29x1 => first | (exact MKR.out _ (by repeat (first | with_reducible exact Ext.refl _ | with_reducible assumption | with_reducible refine Ext.drew ?_ | with_reducible refine Ext.drewN ?_ _ | with_reducible refine Ext.alloc ?_ _))) | ((try dsimp only); (exact MKR.out _ (by repeat (first | with_reducible exact Ext.refl _ | with_reducible assumption | with_reducible refine Ext.drew ?_ | with_reducible refine Ext.drewN ?_ _ | with_reducible refine Ext.alloc ?_ _))))
        clear hK K
        clear hHeld28
        (try simp only [Act.put]); (try simp only [List.setIfInBounds_toArray]); (try simp only [List.set_cons_succ]); (try simp only [List.set_cons_zero])
        refine wpAnyH_ready (rs := [25, 29]) (by kernel_rfl) (by simp) ?_
        refine AllReadyH.cons (o := ⟨(some 62), (.buildSlice 37 3 #[(0, (.tmp 59)), (1, (.tmp 60)), (2, (.tmp 61))]), 37, "law.go:20", #[⟨22, .data⟩, ⟨23, .data⟩, ⟨24, .data⟩, ⟨19, .guard⟩], (some (19, true))⟩) rfl (fun K hK => ?step30x0) ?more30x0
        case more30x0 =>
          refine AllReadyH.cons (o := ⟨(some 66), (.buildSlice 37 3 #[(0, (.tmp 63)), (1, (.tmp 64)), (2, (.tmp 65))]), 37, "law.go:20", #[⟨26, .data⟩, ⟨27, .data⟩, ⟨28, .data⟩, ⟨19, .guard⟩], (some (19, true))⟩) rfl (fun K hK => ?step30x1) ?more30x1
          case more30x1 => exact AllReadyH.nil
          go_simp
          (obtain ⟨g29, w29, hg29, hw29, v29, x29⟩ := row_lit w28 [1, 2, 6] (by decide); change w29 = w28.alloc (.cells #[.int .i64 2, .int .i64 1, .int .i64 0, .string ByteArray.empty, .slice none 0 0, .int .i64 2, .int .i64 2, .int .i64 0, .string ByteArray.empty, .slice none 0 0, .int .i64 2, .int .i64 6, .int .i64 0, .string ByteArray.empty, .slice none 0 0] 40) at hw29; rw [← hw29, ← hg29]; clear hg29 hw29; have y29 : Ext W20 w29 := Ext.trans y28 x29)
          refine hK.out _ _ ?hS30x1 (fun hHeld30 => ?rest30x1)
          case hS30x1 => first | (exact MKR.out _ (by repeat (first | with_reducible exact Ext.refl _ | with_reducible assumption | with_reducible refine Ext.drew ?_ | with_reducible refine Ext.drewN ?_ _ | with_reducible refine Ext.alloc ?_ _))) | ((try dsimp only); (exact MKR.out _ (by repeat (first | with_reducible exact Ext.refl _ | with_reducible assumption | with_reducible refine Ext.drew ?_ | with_reducible refine Ext.drewN ?_ _ | with_reducible refine Ext.alloc ?_ _))))
          clear hK K
          clear hHeld29
          (try simp only [Act.put]); (try simp only [List.setIfInBounds_toArray]); (try simp only [List.set_cons_succ]); (try simp only [List.set_cons_zero])
          refine wpAnyH_ready (rs := [25]) (by kernel_rfl) (by simp) ?_
          refine AllReadyH.cons (o := ⟨(some 62), (.buildSlice 37 3 #[(0, (.tmp 59)), (1, (.tmp 60)), (2, (.tmp 61))]), 37, "law.go:20", #[⟨22, .data⟩, ⟨23, .data⟩, ⟨24, .data⟩, ⟨19, .guard⟩], (some (19, true))⟩) rfl (fun K hK => ?step31x0) ?more31x0
          case more31x0 => exact AllReadyH.nil
          go_simp
          (obtain ⟨g25, w25, hg25, hw25, v25, x25⟩ := row_lit w29 [1, 2, 5] (by decide); change w25 = w29.alloc (.cells #[.int .i64 2, .int .i64 1, .int .i64 0, .string ByteArray.empty, .slice none 0 0, .int .i64 2, .int .i64 2, .int .i64 0, .string ByteArray.empty, .slice none 0 0, .int .i64 2, .int .i64 5, .int .i64 0, .string ByteArray.empty, .slice none 0 0] 40) at hw25; rw [← hw25, ← hg25]; clear hg25 hw25; have y25 : Ext W20 w25 := Ext.trans y29 x25)
          refine hK.out _ _ ?hS31x0 (fun hHeld31 => ?rest31x0)
          case hS31x0 => first | (exact MKR.out _ (by repeat (first | with_reducible exact Ext.refl _ | with_reducible assumption | with_reducible refine Ext.drew ?_ | with_reducible refine Ext.drewN ?_ _ | with_reducible refine Ext.alloc ?_ _))) | ((try dsimp only); (exact MKR.out _ (by repeat (first | with_reducible exact Ext.refl _ | with_reducible assumption | with_reducible refine Ext.drew ?_ | with_reducible refine Ext.drewN ?_ _ | with_reducible refine Ext.alloc ?_ _))))
          clear hK K
          clear hHeld30
          (try simp only [Act.put]); (try simp only [List.setIfInBounds_toArray]); (try simp only [List.set_cons_succ]); (try simp only [List.set_cons_zero])
          refine wpAnyH_ready (rs := [30]) (by kernel_rfl) (by simp) ?_
          refine AllReadyH.cons (o := ⟨(some 67), (.buildSlice 23 2 #[(0, (.tmp 62)), (1, (.tmp 66))]), 23, "law.go:20", #[⟨25, .data⟩, ⟨29, .data⟩, ⟨19, .guard⟩], (some (19, true))⟩) rfl (fun K hK => ?step32x0) ?more32x0
          case more32x0 => exact AllReadyH.nil
          go_simp
          (obtain ⟨g30, w30, hg30, hw30, v30, x30⟩ := rows_lit w25 (some ⟨g25, 0, none⟩) (some ⟨g29, 0, none⟩) 3 3 [numV 1, numV 2, numV 5] [numV 1, numV 2, numV 6] (v25.ext (Ext.refl _)) (v29.ext x25) (by decide) (by decide); change w30 = w25.alloc (.cells #[.slice (some ⟨g25, 0, none⟩) 3 3, .slice (some ⟨g29, 0, none⟩) 3 3] 37) at hw30; rw [← hw30, ← hg30]; clear hg30 hw30; have y30 : Ext W20 w30 := Ext.trans y25 x30)
          refine hK.out _ _ ?hS32x0 (fun hHeld32 => ?rest32x0)
          case hS32x0 => first | (exact MKR.out _ (by repeat (first | with_reducible exact Ext.refl _ | with_reducible assumption | with_reducible refine Ext.drew ?_ | with_reducible refine Ext.drewN ?_ _ | with_reducible refine Ext.alloc ?_ _))) | ((try dsimp only); (exact MKR.out _ (by repeat (first | with_reducible exact Ext.refl _ | with_reducible assumption | with_reducible refine Ext.drew ?_ | with_reducible refine Ext.drewN ?_ _ | with_reducible refine Ext.alloc ?_ _))))
          clear hK K
          clear hHeld31
          (try simp only [Act.put]); (try simp only [List.setIfInBounds_toArray]); (try simp only [List.set_cons_succ]); (try simp only [List.set_cons_zero])
          refine wpAnyH_ready (rs := [31]) (by kernel_rfl) (by simp) ?_
          refine AllReadyH.cons (o := ⟨(some 68), (.call { callee := (.value (.func 26)), args := #[(.tmp 58), (.tmp 67)], argTypes := #[23, 23] }), 4, "law.go:20", #[⟨21, .data⟩, ⟨30, .data⟩, ⟨28, .chain⟩, ⟨19, .guard⟩], (some (19, true))⟩) rfl (fun K hK => ?step33x0) ?more33x0
          case more33x0 => exact AllReadyH.nil
          go_simp
          (refine (HSR.out w30 y30 g30 (v30.ext (Ext.refl _))).mono ?_; rintro e w31 ⟨rfl, x31⟩; have y31 : Ext W20 w31 := Ext.trans y30 x31)
          refine hK.out _ _ ?hS33x0 (fun hHeld33 => ?rest33x0)
          case hS33x0 => first | (exact MKR.out _ (by repeat (first | with_reducible exact Ext.refl _ | with_reducible assumption | with_reducible refine Ext.drew ?_ | with_reducible refine Ext.drewN ?_ _ | with_reducible refine Ext.alloc ?_ _))) | ((try dsimp only); (exact MKR.out _ (by repeat (first | with_reducible exact Ext.refl _ | with_reducible assumption | with_reducible refine Ext.drew ?_ | with_reducible refine Ext.drewN ?_ _ | with_reducible refine Ext.alloc ?_ _))))
          clear hK K
          clear hHeld32
          (try simp only [Act.put]); (try simp only [List.setIfInBounds_toArray]); (try simp only [List.set_cons_succ]); (try simp only [List.set_cons_zero])
          refine wpAnyH_take (i := 32) (oi := ⟨(some 69), (.pick (.tmp 56) (.tmp 68) (.const (.bool false))), 4, "law.go:20", #[⟨19, .data⟩, ⟨31, .data⟩], none⟩) (v := ?v34) rfl (by kernel_rfl) (by kernel_rfl) (by kernel_rfl) (fun _ _ _ h => h) (Or.inl ⟨rfl, ?hy34⟩) hHeld33 ?rest34
          case hy34 => (intro w hSw; (try dsimp only at hSw); go_simp <;> first | with_reducible rfl | rw [if_neg (by omega)] | rw [if_pos (by omega)])
          (try simp only [Act.put]); (try simp only [List.setIfInBounds_toArray]); (try simp only [List.set_cons_succ]); (try simp only [List.set_cons_zero])
          refine wpAnyH_take (i := 33) (oi := ⟨(some 70), (.move (.tmp 69)), 4, "law.go:20", #[⟨32, .data⟩, ⟨31, .chain⟩], none⟩) (v := ?v35) rfl (by kernel_rfl) (by kernel_rfl) (by kernel_rfl) (fun _ _ _ h => h) (Or.inl ⟨rfl, ?hy35⟩) hHeld33 ?rest35
          case hy35 => (intro w hSw; (try dsimp only at hSw); go_simp <;> first | with_reducible rfl | rw [if_neg (by omega)] | rw [if_pos (by omega)])
          (try simp only [Act.put]); (try simp only [List.setIfInBounds_toArray]); (try simp only [List.set_cons_succ]); (try simp only [List.set_cons_zero])
          refine wpAnyH_take (i := 34) (oi := ⟨(some 71), (.fieldAddr 25 (.tmp 5) 1), 0, "law.go:20", #[⟨33, .guard⟩], (some (33, true))⟩) (v := ?v36) rfl (by kernel_rfl) (by kernel_rfl) (by kernel_rfl) (fun _ _ _ h => h) (Or.inl ⟨rfl, ?hy36⟩) hHeld33 ?rest36
          case hy36 => (intro w hSw; (try dsimp only at hSw); go_simp <;> first | with_reducible rfl | rw [if_neg (by omega)] | rw [if_pos (by omega)])
          (try simp only [Act.put]); (try simp only [List.setIfInBounds_toArray]); (try simp only [List.set_cons_succ]); (try simp only [List.set_cons_zero])
          refine wpAnyH_take (i := 35) (oi := ⟨(some 72), (.load 23 (.tmp 71)), 23, "law.go:20", #[⟨34, .data⟩, ⟨33, .guard⟩], (some (33, true))⟩) (v := ?v37) rfl (by kernel_rfl) (by kernel_rfl) (by kernel_rfl) (fun _ _ _ h => h) (Or.inl ⟨rfl, ?hy37⟩) hHeld33 ?rest37
          case hy37 => (intro w hSw; (try dsimp only at hSw); go_simp <;> first | with_reducible rfl | rw [if_neg (by omega)] | rw [if_pos (by omega)])
          (try simp only [Act.put]); (try simp only [List.setIfInBounds_toArray]); (try simp only [List.set_cons_succ]); (try simp only [List.set_cons_zero])
          refine wpAnyH_take (i := 36) (oi := ⟨(some 73), (.call { callee := (.builtin .len), args := #[(.tmp 72)], argTypes := #[23] }), 3, "law.go:20", #[⟨35, .data⟩, ⟨33, .guard⟩], (some (33, true))⟩) (v := ?v38) rfl (by kernel_rfl) (by kernel_rfl) (by kernel_rfl) (fun _ _ _ h => h) (Or.inl ⟨rfl, ?hy38⟩) hHeld33 ?rest38
          case hy38 => (intro w hSw; (try dsimp only at hSw); go_simp <;> first | with_reducible rfl | rw [if_neg (by omega)] | rw [if_pos (by omega)])
          (try simp only [Act.put]); (try simp only [List.setIfInBounds_toArray]); (try simp only [List.set_cons_succ]); (try simp only [List.set_cons_zero])
          refine wpAnyH_take (i := 37) (oi := ⟨(some 74), (.binOp .eql 3 (.tmp 73) (.const (.int .i64 3)) 3), 4, "law.go:20", #[⟨36, .data⟩, ⟨33, .guard⟩], (some (33, true))⟩) (v := ?v39) rfl (by kernel_rfl) (by kernel_rfl) (by kernel_rfl) (fun _ _ _ h => h) (Or.inl ⟨rfl, ?hy39⟩) hHeld33 ?rest39
          case hy39 => (intro w hSw; (try dsimp only at hSw); go_simp <;> first | with_reducible rfl | rw [if_neg (by omega)] | rw [if_pos (by omega)])
          (try simp only [Act.put]); (try simp only [List.setIfInBounds_toArray]); (try simp only [List.set_cons_succ]); (try simp only [List.set_cons_zero])
          refine wpAnyH_take (i := 38) (oi := ⟨(some 75), (.pick (.tmp 70) (.tmp 74) (.const (.bool false))), 4, "law.go:20", #[⟨33, .data⟩, ⟨37, .data⟩], none⟩) (v := ?v40) rfl (by kernel_rfl) (by kernel_rfl) (by kernel_rfl) (fun _ _ _ h => h) (Or.inl ⟨rfl, ?hy40⟩) hHeld33 ?rest40
          case hy40 => (intro w hSw; (try dsimp only at hSw); go_simp <;> first | with_reducible rfl | rw [if_neg (by omega)] | rw [if_pos (by omega)])
          (try simp only [Act.put]); (try simp only [List.setIfInBounds_toArray]); (try simp only [List.set_cons_succ]); (try simp only [List.set_cons_zero])
          refine wpAnyH_take (i := 39) (oi := ⟨(some 0), (.assign (.tmp 75)), 4, "law.go:20", #[⟨38, .data⟩, ⟨33, .chain⟩, ⟨0, .phase⟩, ⟨1, .phase⟩, ⟨2, .phase⟩, ⟨3, .phase⟩, ⟨4, .phase⟩, ⟨5, .phase⟩, ⟨6, .phase⟩, ⟨7, .phase⟩, ⟨8, .phase⟩, ⟨9, .phase⟩, ⟨10, .phase⟩, ⟨11, .phase⟩, ⟨12, .phase⟩, ⟨13, .phase⟩, ⟨14, .phase⟩, ⟨15, .phase⟩, ⟨16, .phase⟩, ⟨17, .phase⟩, ⟨18, .phase⟩, ⟨19, .phase⟩, ⟨20, .phase⟩, ⟨21, .phase⟩, ⟨22, .phase⟩, ⟨23, .phase⟩, ⟨24, .phase⟩, ⟨25, .phase⟩, ⟨26, .phase⟩, ⟨27, .phase⟩, ⟨28, .phase⟩, ⟨29, .phase⟩, ⟨30, .phase⟩, ⟨31, .phase⟩, ⟨32, .phase⟩, ⟨33, .phase⟩, ⟨34, .phase⟩, ⟨35, .phase⟩, ⟨36, .phase⟩, ⟨37, .phase⟩, ⟨38, .phase⟩], none⟩) (v := ?v41) rfl (by kernel_rfl) (by kernel_rfl) (by kernel_rfl) (fun _ _ _ h => h) (Or.inl ⟨rfl, ?hy41⟩) hHeld33 ?rest41
          case hy41 => (intro w hSw; (try dsimp only at hSw); go_simp <;> first | with_reducible rfl | rw [if_neg (by omega)] | rw [if_pos (by omega)])
          (try simp only [Act.put]); (try simp only [List.setIfInBounds_toArray]); (try simp only [List.set_cons_succ]); (try simp only [List.set_cons_zero])
          refine wpAnyH_done (by kernel_rfl) ?_ _
          clear hHeld33
          go_wp2_with fail
          go_ret
          exact ⟨rfl, xE.trans y31⟩
        go_simp
        (obtain ⟨g25, w25, hg25, hw25, v25, x25⟩ := row_lit w28 [1, 2, 5] (by decide); change w25 = w28.alloc (.cells #[.int .i64 2, .int .i64 1, .int .i64 0, .string ByteArray.empty, .slice none 0 0, .int .i64 2, .int .i64 2, .int .i64 0, .string ByteArray.empty, .slice none 0 0, .int .i64 2, .int .i64 5, .int .i64 0, .string ByteArray.empty, .slice none 0 0] 40) at hw25; rw [← hw25, ← hg25]; clear hg25 hw25; have y25 : Ext W20 w25 := Ext.trans y28 x25)
        refine hK.out _ _ ?hS30x0 (fun hHeld30 => ?rest30x0)
        case hS30x0 => first | (exact MKR.out _ (by repeat (first | with_reducible exact Ext.refl _ | with_reducible assumption | with_reducible refine Ext.drew ?_ | with_reducible refine Ext.drewN ?_ _ | with_reducible refine Ext.alloc ?_ _))) | ((try dsimp only); (exact MKR.out _ (by repeat (first | with_reducible exact Ext.refl _ | with_reducible assumption | with_reducible refine Ext.drew ?_ | with_reducible refine Ext.drewN ?_ _ | with_reducible refine Ext.alloc ?_ _))))
        clear hK K
        clear hHeld29
        (try simp only [Act.put]); (try simp only [List.setIfInBounds_toArray]); (try simp only [List.set_cons_succ]); (try simp only [List.set_cons_zero])
        refine wpAnyH_ready (rs := [29]) (by kernel_rfl) (by simp) ?_
        refine AllReadyH.cons (o := ⟨(some 66), (.buildSlice 37 3 #[(0, (.tmp 63)), (1, (.tmp 64)), (2, (.tmp 65))]), 37, "law.go:20", #[⟨26, .data⟩, ⟨27, .data⟩, ⟨28, .data⟩, ⟨19, .guard⟩], (some (19, true))⟩) rfl (fun K hK => ?step42x0) ?more42x0
        case more42x0 => exact AllReadyH.nil
        go_simp
        (obtain ⟨g29, w29, hg29, hw29, v29, x29⟩ := row_lit w25 [1, 2, 6] (by decide); change w29 = w25.alloc (.cells #[.int .i64 2, .int .i64 1, .int .i64 0, .string ByteArray.empty, .slice none 0 0, .int .i64 2, .int .i64 2, .int .i64 0, .string ByteArray.empty, .slice none 0 0, .int .i64 2, .int .i64 6, .int .i64 0, .string ByteArray.empty, .slice none 0 0] 40) at hw29; rw [← hw29, ← hg29]; clear hg29 hw29; have y29 : Ext W20 w29 := Ext.trans y25 x29)
        refine hK.out _ _ ?hS42x0 (fun hHeld42 => ?rest42x0)
        case hS42x0 => first | (exact MKR.out _ (by repeat (first | with_reducible exact Ext.refl _ | with_reducible assumption | with_reducible refine Ext.drew ?_ | with_reducible refine Ext.drewN ?_ _ | with_reducible refine Ext.alloc ?_ _))) | ((try dsimp only); (exact MKR.out _ (by repeat (first | with_reducible exact Ext.refl _ | with_reducible assumption | with_reducible refine Ext.drew ?_ | with_reducible refine Ext.drewN ?_ _ | with_reducible refine Ext.alloc ?_ _))))
        clear hK K
        clear hHeld30
        (try simp only [Act.put]); (try simp only [List.setIfInBounds_toArray]); (try simp only [List.set_cons_succ]); (try simp only [List.set_cons_zero])
        refine wpAnyH_ready (rs := [30]) (by kernel_rfl) (by simp) ?_
        refine AllReadyH.cons (o := ⟨(some 67), (.buildSlice 23 2 #[(0, (.tmp 62)), (1, (.tmp 66))]), 23, "law.go:20", #[⟨25, .data⟩, ⟨29, .data⟩, ⟨19, .guard⟩], (some (19, true))⟩) rfl (fun K hK => ?step43x0) ?more43x0
        case more43x0 => exact AllReadyH.nil
        go_simp
        (obtain ⟨g30, w30, hg30, hw30, v30, x30⟩ := rows_lit w29 (some ⟨g25, 0, none⟩) (some ⟨g29, 0, none⟩) 3 3 [numV 1, numV 2, numV 5] [numV 1, numV 2, numV 6] (v25.ext x29) (v29.ext (Ext.refl _)) (by decide) (by decide); change w30 = w29.alloc (.cells #[.slice (some ⟨g25, 0, none⟩) 3 3, .slice (some ⟨g29, 0, none⟩) 3 3] 37) at hw30; rw [← hw30, ← hg30]; clear hg30 hw30; have y30 : Ext W20 w30 := Ext.trans y29 x30)
        refine hK.out _ _ ?hS43x0 (fun hHeld43 => ?rest43x0)
        case hS43x0 => first | (exact MKR.out _ (by repeat (first | with_reducible exact Ext.refl _ | with_reducible assumption | with_reducible refine Ext.drew ?_ | with_reducible refine Ext.drewN ?_ _ | with_reducible refine Ext.alloc ?_ _))) | ((try dsimp only); (exact MKR.out _ (by repeat (first | with_reducible exact Ext.refl _ | with_reducible assumption | with_reducible refine Ext.drew ?_ | with_reducible refine Ext.drewN ?_ _ | with_reducible refine Ext.alloc ?_ _))))
        clear hK K
        clear hHeld42
        (try simp only [Act.put]); (try simp only [List.setIfInBounds_toArray]); (try simp only [List.set_cons_succ]); (try simp only [List.set_cons_zero])
        refine wpAnyH_ready (rs := [31]) (by kernel_rfl) (by simp) ?_
        refine AllReadyH.cons (o := ⟨(some 68), (.call { callee := (.value (.func 26)), args := #[(.tmp 58), (.tmp 67)], argTypes := #[23, 23] }), 4, "law.go:20", #[⟨21, .data⟩, ⟨30, .data⟩, ⟨28, .chain⟩, ⟨19, .guard⟩], (some (19, true))⟩) rfl (fun K hK => ?step44x0) ?more44x0
        case more44x0 => exact AllReadyH.nil
        go_simp
        (refine (HSR.out w30 y30 g30 (v30.ext (Ext.refl _))).mono ?_; rintro e w31 ⟨rfl, x31⟩; have y31 : Ext W20 w31 := Ext.trans y30 x31)
        refine hK.out _ _ ?hS44x0 (fun hHeld44 => ?rest44x0)
        case hS44x0 => first | (exact MKR.out _ (by repeat (first | with_reducible exact Ext.refl _ | with_reducible assumption | with_reducible refine Ext.drew ?_ | with_reducible refine Ext.drewN ?_ _ | with_reducible refine Ext.alloc ?_ _))) | ((try dsimp only); (exact MKR.out _ (by repeat (first | with_reducible exact Ext.refl _ | with_reducible assumption | with_reducible refine Ext.drew ?_ | with_reducible refine Ext.drewN ?_ _ | with_reducible refine Ext.alloc ?_ _))))
        clear hK K
        clear hHeld43
        (try simp only [Act.put]); (try simp only [List.setIfInBounds_toArray]); (try simp only [List.set_cons_succ]); (try simp only [List.set_cons_zero])
        refine wpAnyH_take (i := 32) (oi := ⟨(some 69), (.pick (.tmp 56) (.tmp 68) (.const (.bool false))), 4, "law.go:20", #[⟨19, .data⟩, ⟨31, .data⟩], none⟩) (v := ?v45) rfl (by kernel_rfl) (by kernel_rfl) (by kernel_rfl) (fun _ _ _ h => h) (Or.inl ⟨rfl, ?hy45⟩) hHeld44 ?rest45
        case hy45 => (intro w hSw; (try dsimp only at hSw); go_simp <;> first | with_reducible rfl | rw [if_neg (by omega)] | rw [if_pos (by omega)])
        (try simp only [Act.put]); (try simp only [List.setIfInBounds_toArray]); (try simp only [List.set_cons_succ]); (try simp only [List.set_cons_zero])
        refine wpAnyH_take (i := 33) (oi := ⟨(some 70), (.move (.tmp 69)), 4, "law.go:20", #[⟨32, .data⟩, ⟨31, .chain⟩], none⟩) (v := ?v46) rfl (by kernel_rfl) (by kernel_rfl) (by kernel_rfl) (fun _ _ _ h => h) (Or.inl ⟨rfl, ?hy46⟩) hHeld44 ?rest46
        case hy46 => (intro w hSw; (try dsimp only at hSw); go_simp <;> first | with_reducible rfl | rw [if_neg (by omega)] | rw [if_pos (by omega)])
        (try simp only [Act.put]); (try simp only [List.setIfInBounds_toArray]); (try simp only [List.set_cons_succ]); (try simp only [List.set_cons_zero])
        refine wpAnyH_take (i := 34) (oi := ⟨(some 71), (.fieldAddr 25 (.tmp 5) 1), 0, "law.go:20", #[⟨33, .guard⟩], (some (33, true))⟩) (v := ?v47) rfl (by kernel_rfl) (by kernel_rfl) (by kernel_rfl) (fun _ _ _ h => h) (Or.inl ⟨rfl, ?hy47⟩) hHeld44 ?rest47
        case hy47 => (intro w hSw; (try dsimp only at hSw); go_simp <;> first | with_reducible rfl | rw [if_neg (by omega)] | rw [if_pos (by omega)])
        (try simp only [Act.put]); (try simp only [List.setIfInBounds_toArray]); (try simp only [List.set_cons_succ]); (try simp only [List.set_cons_zero])
        refine wpAnyH_take (i := 35) (oi := ⟨(some 72), (.load 23 (.tmp 71)), 23, "law.go:20", #[⟨34, .data⟩, ⟨33, .guard⟩], (some (33, true))⟩) (v := ?v48) rfl (by kernel_rfl) (by kernel_rfl) (by kernel_rfl) (fun _ _ _ h => h) (Or.inl ⟨rfl, ?hy48⟩) hHeld44 ?rest48
        case hy48 => (intro w hSw; (try dsimp only at hSw); go_simp <;> first | with_reducible rfl | rw [if_neg (by omega)] | rw [if_pos (by omega)])
        (try simp only [Act.put]); (try simp only [List.setIfInBounds_toArray]); (try simp only [List.set_cons_succ]); (try simp only [List.set_cons_zero])
        refine wpAnyH_take (i := 36) (oi := ⟨(some 73), (.call { callee := (.builtin .len), args := #[(.tmp 72)], argTypes := #[23] }), 3, "law.go:20", #[⟨35, .data⟩, ⟨33, .guard⟩], (some (33, true))⟩) (v := ?v49) rfl (by kernel_rfl) (by kernel_rfl) (by kernel_rfl) (fun _ _ _ h => h) (Or.inl ⟨rfl, ?hy49⟩) hHeld44 ?rest49
        case hy49 => (intro w hSw; (try dsimp only at hSw); go_simp <;> first | with_reducible rfl | rw [if_neg (by omega)] | rw [if_pos (by omega)])
        (try simp only [Act.put]); (try simp only [List.setIfInBounds_toArray]); (try simp only [List.set_cons_succ]); (try simp only [List.set_cons_zero])
        refine wpAnyH_take (i := 37) (oi := ⟨(some 74), (.binOp .eql 3 (.tmp 73) (.const (.int .i64 3)) 3), 4, "law.go:20", #[⟨36, .data⟩, ⟨33, .guard⟩], (some (33, true))⟩) (v := ?v50) rfl (by kernel_rfl) (by kernel_rfl) (by kernel_rfl) (fun _ _ _ h => h) (Or.inl ⟨rfl, ?hy50⟩) hHeld44 ?rest50
        case hy50 => (intro w hSw; (try dsimp only at hSw); go_simp <;> first | with_reducible rfl | rw [if_neg (by omega)] | rw [if_pos (by omega)])
        (try simp only [Act.put]); (try simp only [List.setIfInBounds_toArray]); (try simp only [List.set_cons_succ]); (try simp only [List.set_cons_zero])
        refine wpAnyH_take (i := 38) (oi := ⟨(some 75), (.pick (.tmp 70) (.tmp 74) (.const (.bool false))), 4, "law.go:20", #[⟨33, .data⟩, ⟨37, .data⟩], none⟩) (v := ?v51) rfl (by kernel_rfl) (by kernel_rfl) (by kernel_rfl) (fun _ _ _ h => h) (Or.inl ⟨rfl, ?hy51⟩) hHeld44 ?rest51
        case hy51 => (intro w hSw; (try dsimp only at hSw); go_simp <;> first | with_reducible rfl | rw [if_neg (by omega)] | rw [if_pos (by omega)])
        (try simp only [Act.put]); (try simp only [List.setIfInBounds_toArray]); (try simp only [List.set_cons_succ]); (try simp only [List.set_cons_zero])
        refine wpAnyH_take (i := 39) (oi := ⟨(some 0), (.assign (.tmp 75)), 4, "law.go:20", #[⟨38, .data⟩, ⟨33, .chain⟩, ⟨0, .phase⟩, ⟨1, .phase⟩, ⟨2, .phase⟩, ⟨3, .phase⟩, ⟨4, .phase⟩, ⟨5, .phase⟩, ⟨6, .phase⟩, ⟨7, .phase⟩, ⟨8, .phase⟩, ⟨9, .phase⟩, ⟨10, .phase⟩, ⟨11, .phase⟩, ⟨12, .phase⟩, ⟨13, .phase⟩, ⟨14, .phase⟩, ⟨15, .phase⟩, ⟨16, .phase⟩, ⟨17, .phase⟩, ⟨18, .phase⟩, ⟨19, .phase⟩, ⟨20, .phase⟩, ⟨21, .phase⟩, ⟨22, .phase⟩, ⟨23, .phase⟩, ⟨24, .phase⟩, ⟨25, .phase⟩, ⟨26, .phase⟩, ⟨27, .phase⟩, ⟨28, .phase⟩, ⟨29, .phase⟩, ⟨30, .phase⟩, ⟨31, .phase⟩, ⟨32, .phase⟩, ⟨33, .phase⟩, ⟨34, .phase⟩, ⟨35, .phase⟩, ⟨36, .phase⟩, ⟨37, .phase⟩, ⟨38, .phase⟩], none⟩) (v := ?v52) rfl (by kernel_rfl) (by kernel_rfl) (by kernel_rfl) (fun _ _ _ h => h) (Or.inl ⟨rfl, ?hy52⟩) hHeld44 ?rest52
        case hy52 => (intro w hSw; (try dsimp only at hSw); go_simp <;> first | with_reducible rfl | rw [if_neg (by omega)] | rw [if_pos (by omega)])
        (try simp only [Act.put]); (try simp only [List.setIfInBounds_toArray]); (try simp only [List.set_cons_succ]); (try simp only [List.set_cons_zero])
        refine wpAnyH_done (by kernel_rfl) ?_ _
        clear hHeld44
        go_wp2_with fail
        go_ret
        exact ⟨rfl, xE.trans y31⟩
      go_simp
      (obtain ⟨g25, w25, hg25, hw25, v25, x25⟩ := row_lit w27 [1, 2, 5] (by decide); change w25 = w27.alloc (.cells #[.int .i64 2, .int .i64 1, .int .i64 0, .string ByteArray.empty, .slice none 0 0, .int .i64 2, .int .i64 2, .int .i64 0, .string ByteArray.empty, .slice none 0 0, .int .i64 2, .int .i64 5, .int .i64 0, .string ByteArray.empty, .slice none 0 0] 40) at hw25; rw [← hw25, ← hg25]; clear hg25 hw25; have y25 : Ext W20 w25 := Ext.trans y27 x25)
      refine hK.out _ _ ?hS29x0 (fun hHeld29 => ?rest29x0)
      case hS29x0 => first | (exact MKR.out _ (by repeat (first | with_reducible exact Ext.refl _ | with_reducible assumption | with_reducible refine Ext.drew ?_ | with_reducible refine Ext.drewN ?_ _ | with_reducible refine Ext.alloc ?_ _))) | ((try dsimp only); (exact MKR.out _ (by repeat (first | with_reducible exact Ext.refl _ | with_reducible assumption | with_reducible refine Ext.drew ?_ | with_reducible refine Ext.drewN ?_ _ | with_reducible refine Ext.alloc ?_ _))))
      clear hK K
      clear hHeld28
      (try simp only [Act.put]); (try simp only [List.setIfInBounds_toArray]); (try simp only [List.set_cons_succ]); (try simp only [List.set_cons_zero])
      refine wpAnyH_ready (rs := [28]) (by kernel_rfl) (by simp) ?_
      refine AllReadyH.cons (o := ⟨(some 65), (.call { callee := (.value (.func 29)), args := #[(.const (.int .i64 6))], argTypes := #[3] }), 40, "law.go:20", #[⟨27, .chain⟩, ⟨19, .guard⟩], (some (19, true))⟩) rfl (fun K hK => ?step53x0) ?more53x0
      case more53x0 => exact AllReadyH.nil
      go_simp
      (refine (HN.out 6 _).mono ?_; rintro e w28 ⟨rfl, x28⟩; have y28 : Ext W20 w28 := Ext.trans (by repeat (first | with_reducible exact Ext.refl _ | with_reducible assumption | with_reducible refine Ext.drew ?_ | with_reducible refine Ext.drewN ?_ _ | with_reducible refine Ext.alloc ?_ _)) x28)
      refine hK.out _ _ ?hS53x0 (fun hHeld53 => ?rest53x0)
      case hS53x0 => first | (exact MKR.out _ (by repeat (first | with_reducible exact Ext.refl _ | with_reducible assumption | with_reducible refine Ext.drew ?_ | with_reducible refine Ext.drewN ?_ _ | with_reducible refine Ext.alloc ?_ _))) | ((try dsimp only); (exact MKR.out _ (by repeat (first | with_reducible exact Ext.refl _ | with_reducible assumption | with_reducible refine Ext.drew ?_ | with_reducible refine Ext.drewN ?_ _ | with_reducible refine Ext.alloc ?_ _))))
      clear hK K
      clear hHeld29
      (try simp only [Act.put]); (try simp only [List.setIfInBounds_toArray]); (try simp only [List.set_cons_succ]); (try simp only [List.set_cons_zero])
      refine wpAnyH_ready (rs := [29]) (by kernel_rfl) (by simp) ?_
      refine AllReadyH.cons (o := ⟨(some 66), (.buildSlice 37 3 #[(0, (.tmp 63)), (1, (.tmp 64)), (2, (.tmp 65))]), 37, "law.go:20", #[⟨26, .data⟩, ⟨27, .data⟩, ⟨28, .data⟩, ⟨19, .guard⟩], (some (19, true))⟩) rfl (fun K hK => ?step54x0) ?more54x0
      case more54x0 => exact AllReadyH.nil
      go_simp
      (obtain ⟨g29, w29, hg29, hw29, v29, x29⟩ := row_lit w28 [1, 2, 6] (by decide); change w29 = w28.alloc (.cells #[.int .i64 2, .int .i64 1, .int .i64 0, .string ByteArray.empty, .slice none 0 0, .int .i64 2, .int .i64 2, .int .i64 0, .string ByteArray.empty, .slice none 0 0, .int .i64 2, .int .i64 6, .int .i64 0, .string ByteArray.empty, .slice none 0 0] 40) at hw29; rw [← hw29, ← hg29]; clear hg29 hw29; have y29 : Ext W20 w29 := Ext.trans y28 x29)
      refine hK.out _ _ ?hS54x0 (fun hHeld54 => ?rest54x0)
      case hS54x0 => first | (exact MKR.out _ (by repeat (first | with_reducible exact Ext.refl _ | with_reducible assumption | with_reducible refine Ext.drew ?_ | with_reducible refine Ext.drewN ?_ _ | with_reducible refine Ext.alloc ?_ _))) | ((try dsimp only); (exact MKR.out _ (by repeat (first | with_reducible exact Ext.refl _ | with_reducible assumption | with_reducible refine Ext.drew ?_ | with_reducible refine Ext.drewN ?_ _ | with_reducible refine Ext.alloc ?_ _))))
      clear hK K
      clear hHeld53
      (try simp only [Act.put]); (try simp only [List.setIfInBounds_toArray]); (try simp only [List.set_cons_succ]); (try simp only [List.set_cons_zero])
      refine wpAnyH_ready (rs := [30]) (by kernel_rfl) (by simp) ?_
      refine AllReadyH.cons (o := ⟨(some 67), (.buildSlice 23 2 #[(0, (.tmp 62)), (1, (.tmp 66))]), 23, "law.go:20", #[⟨25, .data⟩, ⟨29, .data⟩, ⟨19, .guard⟩], (some (19, true))⟩) rfl (fun K hK => ?step55x0) ?more55x0
      case more55x0 => exact AllReadyH.nil
      go_simp
      (obtain ⟨g30, w30, hg30, hw30, v30, x30⟩ := rows_lit w29 (some ⟨g25, 0, none⟩) (some ⟨g29, 0, none⟩) 3 3 [numV 1, numV 2, numV 5] [numV 1, numV 2, numV 6] (v25.ext (x28.trans x29)) (v29.ext (Ext.refl _)) (by decide) (by decide); change w30 = w29.alloc (.cells #[.slice (some ⟨g25, 0, none⟩) 3 3, .slice (some ⟨g29, 0, none⟩) 3 3] 37) at hw30; rw [← hw30, ← hg30]; clear hg30 hw30; have y30 : Ext W20 w30 := Ext.trans y29 x30)
      refine hK.out _ _ ?hS55x0 (fun hHeld55 => ?rest55x0)
      case hS55x0 => first | (exact MKR.out _ (by repeat (first | with_reducible exact Ext.refl _ | with_reducible assumption | with_reducible refine Ext.drew ?_ | with_reducible refine Ext.drewN ?_ _ | with_reducible refine Ext.alloc ?_ _))) | ((try dsimp only); (exact MKR.out _ (by repeat (first | with_reducible exact Ext.refl _ | with_reducible assumption | with_reducible refine Ext.drew ?_ | with_reducible refine Ext.drewN ?_ _ | with_reducible refine Ext.alloc ?_ _))))
      clear hK K
      clear hHeld54
      (try simp only [Act.put]); (try simp only [List.setIfInBounds_toArray]); (try simp only [List.set_cons_succ]); (try simp only [List.set_cons_zero])
      refine wpAnyH_ready (rs := [31]) (by kernel_rfl) (by simp) ?_
      refine AllReadyH.cons (o := ⟨(some 68), (.call { callee := (.value (.func 26)), args := #[(.tmp 58), (.tmp 67)], argTypes := #[23, 23] }), 4, "law.go:20", #[⟨21, .data⟩, ⟨30, .data⟩, ⟨28, .chain⟩, ⟨19, .guard⟩], (some (19, true))⟩) rfl (fun K hK => ?step56x0) ?more56x0
      case more56x0 => exact AllReadyH.nil
      go_simp
      (refine (HSR.out w30 y30 g30 (v30.ext (Ext.refl _))).mono ?_; rintro e w31 ⟨rfl, x31⟩; have y31 : Ext W20 w31 := Ext.trans y30 x31)
      refine hK.out _ _ ?hS56x0 (fun hHeld56 => ?rest56x0)
      case hS56x0 => first | (exact MKR.out _ (by repeat (first | with_reducible exact Ext.refl _ | with_reducible assumption | with_reducible refine Ext.drew ?_ | with_reducible refine Ext.drewN ?_ _ | with_reducible refine Ext.alloc ?_ _))) | ((try dsimp only); (exact MKR.out _ (by repeat (first | with_reducible exact Ext.refl _ | with_reducible assumption | with_reducible refine Ext.drew ?_ | with_reducible refine Ext.drewN ?_ _ | with_reducible refine Ext.alloc ?_ _))))
      clear hK K
      clear hHeld55
      (try simp only [Act.put]); (try simp only [List.setIfInBounds_toArray]); (try simp only [List.set_cons_succ]); (try simp only [List.set_cons_zero])
      refine wpAnyH_take (i := 32) (oi := ⟨(some 69), (.pick (.tmp 56) (.tmp 68) (.const (.bool false))), 4, "law.go:20", #[⟨19, .data⟩, ⟨31, .data⟩], none⟩) (v := ?v57) rfl (by kernel_rfl) (by kernel_rfl) (by kernel_rfl) (fun _ _ _ h => h) (Or.inl ⟨rfl, ?hy57⟩) hHeld56 ?rest57
      case hy57 => (intro w hSw; (try dsimp only at hSw); go_simp <;> first | with_reducible rfl | rw [if_neg (by omega)] | rw [if_pos (by omega)])
      (try simp only [Act.put]); (try simp only [List.setIfInBounds_toArray]); (try simp only [List.set_cons_succ]); (try simp only [List.set_cons_zero])
      refine wpAnyH_take (i := 33) (oi := ⟨(some 70), (.move (.tmp 69)), 4, "law.go:20", #[⟨32, .data⟩, ⟨31, .chain⟩], none⟩) (v := ?v58) rfl (by kernel_rfl) (by kernel_rfl) (by kernel_rfl) (fun _ _ _ h => h) (Or.inl ⟨rfl, ?hy58⟩) hHeld56 ?rest58
      case hy58 => (intro w hSw; (try dsimp only at hSw); go_simp <;> first | with_reducible rfl | rw [if_neg (by omega)] | rw [if_pos (by omega)])
      (try simp only [Act.put]); (try simp only [List.setIfInBounds_toArray]); (try simp only [List.set_cons_succ]); (try simp only [List.set_cons_zero])
      refine wpAnyH_take (i := 34) (oi := ⟨(some 71), (.fieldAddr 25 (.tmp 5) 1), 0, "law.go:20", #[⟨33, .guard⟩], (some (33, true))⟩) (v := ?v59) rfl (by kernel_rfl) (by kernel_rfl) (by kernel_rfl) (fun _ _ _ h => h) (Or.inl ⟨rfl, ?hy59⟩) hHeld56 ?rest59
      case hy59 => (intro w hSw; (try dsimp only at hSw); go_simp <;> first | with_reducible rfl | rw [if_neg (by omega)] | rw [if_pos (by omega)])
      (try simp only [Act.put]); (try simp only [List.setIfInBounds_toArray]); (try simp only [List.set_cons_succ]); (try simp only [List.set_cons_zero])
      refine wpAnyH_take (i := 35) (oi := ⟨(some 72), (.load 23 (.tmp 71)), 23, "law.go:20", #[⟨34, .data⟩, ⟨33, .guard⟩], (some (33, true))⟩) (v := ?v60) rfl (by kernel_rfl) (by kernel_rfl) (by kernel_rfl) (fun _ _ _ h => h) (Or.inl ⟨rfl, ?hy60⟩) hHeld56 ?rest60
      case hy60 => (intro w hSw; (try dsimp only at hSw); go_simp <;> first | with_reducible rfl | rw [if_neg (by omega)] | rw [if_pos (by omega)])
      (try simp only [Act.put]); (try simp only [List.setIfInBounds_toArray]); (try simp only [List.set_cons_succ]); (try simp only [List.set_cons_zero])
      refine wpAnyH_take (i := 36) (oi := ⟨(some 73), (.call { callee := (.builtin .len), args := #[(.tmp 72)], argTypes := #[23] }), 3, "law.go:20", #[⟨35, .data⟩, ⟨33, .guard⟩], (some (33, true))⟩) (v := ?v61) rfl (by kernel_rfl) (by kernel_rfl) (by kernel_rfl) (fun _ _ _ h => h) (Or.inl ⟨rfl, ?hy61⟩) hHeld56 ?rest61
      case hy61 => (intro w hSw; (try dsimp only at hSw); go_simp <;> first | with_reducible rfl | rw [if_neg (by omega)] | rw [if_pos (by omega)])
      (try simp only [Act.put]); (try simp only [List.setIfInBounds_toArray]); (try simp only [List.set_cons_succ]); (try simp only [List.set_cons_zero])
      refine wpAnyH_take (i := 37) (oi := ⟨(some 74), (.binOp .eql 3 (.tmp 73) (.const (.int .i64 3)) 3), 4, "law.go:20", #[⟨36, .data⟩, ⟨33, .guard⟩], (some (33, true))⟩) (v := ?v62) rfl (by kernel_rfl) (by kernel_rfl) (by kernel_rfl) (fun _ _ _ h => h) (Or.inl ⟨rfl, ?hy62⟩) hHeld56 ?rest62
      case hy62 => (intro w hSw; (try dsimp only at hSw); go_simp <;> first | with_reducible rfl | rw [if_neg (by omega)] | rw [if_pos (by omega)])
      (try simp only [Act.put]); (try simp only [List.setIfInBounds_toArray]); (try simp only [List.set_cons_succ]); (try simp only [List.set_cons_zero])
      refine wpAnyH_take (i := 38) (oi := ⟨(some 75), (.pick (.tmp 70) (.tmp 74) (.const (.bool false))), 4, "law.go:20", #[⟨33, .data⟩, ⟨37, .data⟩], none⟩) (v := ?v63) rfl (by kernel_rfl) (by kernel_rfl) (by kernel_rfl) (fun _ _ _ h => h) (Or.inl ⟨rfl, ?hy63⟩) hHeld56 ?rest63
      case hy63 => (intro w hSw; (try dsimp only at hSw); go_simp <;> first | with_reducible rfl | rw [if_neg (by omega)] | rw [if_pos (by omega)])
      (try simp only [Act.put]); (try simp only [List.setIfInBounds_toArray]); (try simp only [List.set_cons_succ]); (try simp only [List.set_cons_zero])
      refine wpAnyH_take (i := 39) (oi := ⟨(some 0), (.assign (.tmp 75)), 4, "law.go:20", #[⟨38, .data⟩, ⟨33, .chain⟩, ⟨0, .phase⟩, ⟨1, .phase⟩, ⟨2, .phase⟩, ⟨3, .phase⟩, ⟨4, .phase⟩, ⟨5, .phase⟩, ⟨6, .phase⟩, ⟨7, .phase⟩, ⟨8, .phase⟩, ⟨9, .phase⟩, ⟨10, .phase⟩, ⟨11, .phase⟩, ⟨12, .phase⟩, ⟨13, .phase⟩, ⟨14, .phase⟩, ⟨15, .phase⟩, ⟨16, .phase⟩, ⟨17, .phase⟩, ⟨18, .phase⟩, ⟨19, .phase⟩, ⟨20, .phase⟩, ⟨21, .phase⟩, ⟨22, .phase⟩, ⟨23, .phase⟩, ⟨24, .phase⟩, ⟨25, .phase⟩, ⟨26, .phase⟩, ⟨27, .phase⟩, ⟨28, .phase⟩, ⟨29, .phase⟩, ⟨30, .phase⟩, ⟨31, .phase⟩, ⟨32, .phase⟩, ⟨33, .phase⟩, ⟨34, .phase⟩, ⟨35, .phase⟩, ⟨36, .phase⟩, ⟨37, .phase⟩, ⟨38, .phase⟩], none⟩) (v := ?v64) rfl (by kernel_rfl) (by kernel_rfl) (by kernel_rfl) (fun _ _ _ h => h) (Or.inl ⟨rfl, ?hy64⟩) hHeld56 ?rest64
      case hy64 => (intro w hSw; (try dsimp only at hSw); go_simp <;> first | with_reducible rfl | rw [if_neg (by omega)] | rw [if_pos (by omega)])
      (try simp only [Act.put]); (try simp only [List.setIfInBounds_toArray]); (try simp only [List.set_cons_succ]); (try simp only [List.set_cons_zero])
      refine wpAnyH_done (by kernel_rfl) ?_ _
      clear hHeld56
      go_wp2_with fail
      go_ret
      exact ⟨rfl, xE.trans y31⟩
    go_simp
    (obtain ⟨g25, w25, hg25, hw25, v25, x25⟩ := row_lit w26 [1, 2, 5] (by decide); change w25 = w26.alloc (.cells #[.int .i64 2, .int .i64 1, .int .i64 0, .string ByteArray.empty, .slice none 0 0, .int .i64 2, .int .i64 2, .int .i64 0, .string ByteArray.empty, .slice none 0 0, .int .i64 2, .int .i64 5, .int .i64 0, .string ByteArray.empty, .slice none 0 0] 40) at hw25; rw [← hw25, ← hg25]; clear hg25 hw25; have y25 : Ext W20 w25 := Ext.trans y26 x25)
    refine hK.out _ _ ?hS28x0 (fun hHeld28 => ?rest28x0)
    case hS28x0 => first | (exact MKR.out _ (by repeat (first | with_reducible exact Ext.refl _ | with_reducible assumption | with_reducible refine Ext.drew ?_ | with_reducible refine Ext.drewN ?_ _ | with_reducible refine Ext.alloc ?_ _))) | ((try dsimp only); (exact MKR.out _ (by repeat (first | with_reducible exact Ext.refl _ | with_reducible assumption | with_reducible refine Ext.drew ?_ | with_reducible refine Ext.drewN ?_ _ | with_reducible refine Ext.alloc ?_ _))))
    clear hK K
    clear hHeld27
    (try simp only [Act.put]); (try simp only [List.setIfInBounds_toArray]); (try simp only [List.set_cons_succ]); (try simp only [List.set_cons_zero])
    refine wpAnyH_ready (rs := [27]) (by kernel_rfl) (by simp) ?_
    refine AllReadyH.cons (o := ⟨(some 64), (.call { callee := (.value (.func 29)), args := #[(.const (.int .i64 2))], argTypes := #[3] }), 40, "law.go:20", #[⟨26, .chain⟩, ⟨19, .guard⟩], (some (19, true))⟩) rfl (fun K hK => ?step65x0) ?more65x0
    case more65x0 => exact AllReadyH.nil
    go_simp
    (refine (HN.out 2 _).mono ?_; rintro e w27 ⟨rfl, x27⟩; have y27 : Ext W20 w27 := Ext.trans (by repeat (first | with_reducible exact Ext.refl _ | with_reducible assumption | with_reducible refine Ext.drew ?_ | with_reducible refine Ext.drewN ?_ _ | with_reducible refine Ext.alloc ?_ _)) x27)
    refine hK.out _ _ ?hS65x0 (fun hHeld65 => ?rest65x0)
    case hS65x0 => first | (exact MKR.out _ (by repeat (first | with_reducible exact Ext.refl _ | with_reducible assumption | with_reducible refine Ext.drew ?_ | with_reducible refine Ext.drewN ?_ _ | with_reducible refine Ext.alloc ?_ _))) | ((try dsimp only); (exact MKR.out _ (by repeat (first | with_reducible exact Ext.refl _ | with_reducible assumption | with_reducible refine Ext.drew ?_ | with_reducible refine Ext.drewN ?_ _ | with_reducible refine Ext.alloc ?_ _))))
    clear hK K
    clear hHeld28
    (try simp only [Act.put]); (try simp only [List.setIfInBounds_toArray]); (try simp only [List.set_cons_succ]); (try simp only [List.set_cons_zero])
    refine wpAnyH_ready (rs := [28]) (by kernel_rfl) (by simp) ?_
    refine AllReadyH.cons (o := ⟨(some 65), (.call { callee := (.value (.func 29)), args := #[(.const (.int .i64 6))], argTypes := #[3] }), 40, "law.go:20", #[⟨27, .chain⟩, ⟨19, .guard⟩], (some (19, true))⟩) rfl (fun K hK => ?step66x0) ?more66x0
    case more66x0 => exact AllReadyH.nil
    go_simp
    (refine (HN.out 6 _).mono ?_; rintro e w28 ⟨rfl, x28⟩; have y28 : Ext W20 w28 := Ext.trans (by repeat (first | with_reducible exact Ext.refl _ | with_reducible assumption | with_reducible refine Ext.drew ?_ | with_reducible refine Ext.drewN ?_ _ | with_reducible refine Ext.alloc ?_ _)) x28)
    refine hK.out _ _ ?hS66x0 (fun hHeld66 => ?rest66x0)
    case hS66x0 => first | (exact MKR.out _ (by repeat (first | with_reducible exact Ext.refl _ | with_reducible assumption | with_reducible refine Ext.drew ?_ | with_reducible refine Ext.drewN ?_ _ | with_reducible refine Ext.alloc ?_ _))) | ((try dsimp only); (exact MKR.out _ (by repeat (first | with_reducible exact Ext.refl _ | with_reducible assumption | with_reducible refine Ext.drew ?_ | with_reducible refine Ext.drewN ?_ _ | with_reducible refine Ext.alloc ?_ _))))
    clear hK K
    clear hHeld65
    (try simp only [Act.put]); (try simp only [List.setIfInBounds_toArray]); (try simp only [List.set_cons_succ]); (try simp only [List.set_cons_zero])
    refine wpAnyH_ready (rs := [29]) (by kernel_rfl) (by simp) ?_
    refine AllReadyH.cons (o := ⟨(some 66), (.buildSlice 37 3 #[(0, (.tmp 63)), (1, (.tmp 64)), (2, (.tmp 65))]), 37, "law.go:20", #[⟨26, .data⟩, ⟨27, .data⟩, ⟨28, .data⟩, ⟨19, .guard⟩], (some (19, true))⟩) rfl (fun K hK => ?step67x0) ?more67x0
    case more67x0 => exact AllReadyH.nil
    go_simp
    (obtain ⟨g29, w29, hg29, hw29, v29, x29⟩ := row_lit w28 [1, 2, 6] (by decide); change w29 = w28.alloc (.cells #[.int .i64 2, .int .i64 1, .int .i64 0, .string ByteArray.empty, .slice none 0 0, .int .i64 2, .int .i64 2, .int .i64 0, .string ByteArray.empty, .slice none 0 0, .int .i64 2, .int .i64 6, .int .i64 0, .string ByteArray.empty, .slice none 0 0] 40) at hw29; rw [← hw29, ← hg29]; clear hg29 hw29; have y29 : Ext W20 w29 := Ext.trans y28 x29)
    refine hK.out _ _ ?hS67x0 (fun hHeld67 => ?rest67x0)
    case hS67x0 => first | (exact MKR.out _ (by repeat (first | with_reducible exact Ext.refl _ | with_reducible assumption | with_reducible refine Ext.drew ?_ | with_reducible refine Ext.drewN ?_ _ | with_reducible refine Ext.alloc ?_ _))) | ((try dsimp only); (exact MKR.out _ (by repeat (first | with_reducible exact Ext.refl _ | with_reducible assumption | with_reducible refine Ext.drew ?_ | with_reducible refine Ext.drewN ?_ _ | with_reducible refine Ext.alloc ?_ _))))
    clear hK K
    clear hHeld66
    (try simp only [Act.put]); (try simp only [List.setIfInBounds_toArray]); (try simp only [List.set_cons_succ]); (try simp only [List.set_cons_zero])
    refine wpAnyH_ready (rs := [30]) (by kernel_rfl) (by simp) ?_
    refine AllReadyH.cons (o := ⟨(some 67), (.buildSlice 23 2 #[(0, (.tmp 62)), (1, (.tmp 66))]), 23, "law.go:20", #[⟨25, .data⟩, ⟨29, .data⟩, ⟨19, .guard⟩], (some (19, true))⟩) rfl (fun K hK => ?step68x0) ?more68x0
    case more68x0 => exact AllReadyH.nil
    go_simp
    (obtain ⟨g30, w30, hg30, hw30, v30, x30⟩ := rows_lit w29 (some ⟨g25, 0, none⟩) (some ⟨g29, 0, none⟩) 3 3 [numV 1, numV 2, numV 5] [numV 1, numV 2, numV 6] (v25.ext (x27.trans (x28.trans x29))) (v29.ext (Ext.refl _)) (by decide) (by decide); change w30 = w29.alloc (.cells #[.slice (some ⟨g25, 0, none⟩) 3 3, .slice (some ⟨g29, 0, none⟩) 3 3] 37) at hw30; rw [← hw30, ← hg30]; clear hg30 hw30; have y30 : Ext W20 w30 := Ext.trans y29 x30)
    refine hK.out _ _ ?hS68x0 (fun hHeld68 => ?rest68x0)
    case hS68x0 => first | (exact MKR.out _ (by repeat (first | with_reducible exact Ext.refl _ | with_reducible assumption | with_reducible refine Ext.drew ?_ | with_reducible refine Ext.drewN ?_ _ | with_reducible refine Ext.alloc ?_ _))) | ((try dsimp only); (exact MKR.out _ (by repeat (first | with_reducible exact Ext.refl _ | with_reducible assumption | with_reducible refine Ext.drew ?_ | with_reducible refine Ext.drewN ?_ _ | with_reducible refine Ext.alloc ?_ _))))
    clear hK K
    clear hHeld67
    (try simp only [Act.put]); (try simp only [List.setIfInBounds_toArray]); (try simp only [List.set_cons_succ]); (try simp only [List.set_cons_zero])
    refine wpAnyH_ready (rs := [31]) (by kernel_rfl) (by simp) ?_
    refine AllReadyH.cons (o := ⟨(some 68), (.call { callee := (.value (.func 26)), args := #[(.tmp 58), (.tmp 67)], argTypes := #[23, 23] }), 4, "law.go:20", #[⟨21, .data⟩, ⟨30, .data⟩, ⟨28, .chain⟩, ⟨19, .guard⟩], (some (19, true))⟩) rfl (fun K hK => ?step69x0) ?more69x0
    case more69x0 => exact AllReadyH.nil
    go_simp
    (refine (HSR.out w30 y30 g30 (v30.ext (Ext.refl _))).mono ?_; rintro e w31 ⟨rfl, x31⟩; have y31 : Ext W20 w31 := Ext.trans y30 x31)
    refine hK.out _ _ ?hS69x0 (fun hHeld69 => ?rest69x0)
    case hS69x0 => first | (exact MKR.out _ (by repeat (first | with_reducible exact Ext.refl _ | with_reducible assumption | with_reducible refine Ext.drew ?_ | with_reducible refine Ext.drewN ?_ _ | with_reducible refine Ext.alloc ?_ _))) | ((try dsimp only); (exact MKR.out _ (by repeat (first | with_reducible exact Ext.refl _ | with_reducible assumption | with_reducible refine Ext.drew ?_ | with_reducible refine Ext.drewN ?_ _ | with_reducible refine Ext.alloc ?_ _))))
    clear hK K
    clear hHeld68
    (try simp only [Act.put]); (try simp only [List.setIfInBounds_toArray]); (try simp only [List.set_cons_succ]); (try simp only [List.set_cons_zero])
    refine wpAnyH_take (i := 32) (oi := ⟨(some 69), (.pick (.tmp 56) (.tmp 68) (.const (.bool false))), 4, "law.go:20", #[⟨19, .data⟩, ⟨31, .data⟩], none⟩) (v := ?v70) rfl (by kernel_rfl) (by kernel_rfl) (by kernel_rfl) (fun _ _ _ h => h) (Or.inl ⟨rfl, ?hy70⟩) hHeld69 ?rest70
    case hy70 => (intro w hSw; (try dsimp only at hSw); go_simp <;> first | with_reducible rfl | rw [if_neg (by omega)] | rw [if_pos (by omega)])
    (try simp only [Act.put]); (try simp only [List.setIfInBounds_toArray]); (try simp only [List.set_cons_succ]); (try simp only [List.set_cons_zero])
    refine wpAnyH_take (i := 33) (oi := ⟨(some 70), (.move (.tmp 69)), 4, "law.go:20", #[⟨32, .data⟩, ⟨31, .chain⟩], none⟩) (v := ?v71) rfl (by kernel_rfl) (by kernel_rfl) (by kernel_rfl) (fun _ _ _ h => h) (Or.inl ⟨rfl, ?hy71⟩) hHeld69 ?rest71
    case hy71 => (intro w hSw; (try dsimp only at hSw); go_simp <;> first | with_reducible rfl | rw [if_neg (by omega)] | rw [if_pos (by omega)])
    (try simp only [Act.put]); (try simp only [List.setIfInBounds_toArray]); (try simp only [List.set_cons_succ]); (try simp only [List.set_cons_zero])
    refine wpAnyH_take (i := 34) (oi := ⟨(some 71), (.fieldAddr 25 (.tmp 5) 1), 0, "law.go:20", #[⟨33, .guard⟩], (some (33, true))⟩) (v := ?v72) rfl (by kernel_rfl) (by kernel_rfl) (by kernel_rfl) (fun _ _ _ h => h) (Or.inl ⟨rfl, ?hy72⟩) hHeld69 ?rest72
    case hy72 => (intro w hSw; (try dsimp only at hSw); go_simp <;> first | with_reducible rfl | rw [if_neg (by omega)] | rw [if_pos (by omega)])
    (try simp only [Act.put]); (try simp only [List.setIfInBounds_toArray]); (try simp only [List.set_cons_succ]); (try simp only [List.set_cons_zero])
    refine wpAnyH_take (i := 35) (oi := ⟨(some 72), (.load 23 (.tmp 71)), 23, "law.go:20", #[⟨34, .data⟩, ⟨33, .guard⟩], (some (33, true))⟩) (v := ?v73) rfl (by kernel_rfl) (by kernel_rfl) (by kernel_rfl) (fun _ _ _ h => h) (Or.inl ⟨rfl, ?hy73⟩) hHeld69 ?rest73
    case hy73 => (intro w hSw; (try dsimp only at hSw); go_simp <;> first | with_reducible rfl | rw [if_neg (by omega)] | rw [if_pos (by omega)])
    (try simp only [Act.put]); (try simp only [List.setIfInBounds_toArray]); (try simp only [List.set_cons_succ]); (try simp only [List.set_cons_zero])
    refine wpAnyH_take (i := 36) (oi := ⟨(some 73), (.call { callee := (.builtin .len), args := #[(.tmp 72)], argTypes := #[23] }), 3, "law.go:20", #[⟨35, .data⟩, ⟨33, .guard⟩], (some (33, true))⟩) (v := ?v74) rfl (by kernel_rfl) (by kernel_rfl) (by kernel_rfl) (fun _ _ _ h => h) (Or.inl ⟨rfl, ?hy74⟩) hHeld69 ?rest74
    case hy74 => (intro w hSw; (try dsimp only at hSw); go_simp <;> first | with_reducible rfl | rw [if_neg (by omega)] | rw [if_pos (by omega)])
    (try simp only [Act.put]); (try simp only [List.setIfInBounds_toArray]); (try simp only [List.set_cons_succ]); (try simp only [List.set_cons_zero])
    refine wpAnyH_take (i := 37) (oi := ⟨(some 74), (.binOp .eql 3 (.tmp 73) (.const (.int .i64 3)) 3), 4, "law.go:20", #[⟨36, .data⟩, ⟨33, .guard⟩], (some (33, true))⟩) (v := ?v75) rfl (by kernel_rfl) (by kernel_rfl) (by kernel_rfl) (fun _ _ _ h => h) (Or.inl ⟨rfl, ?hy75⟩) hHeld69 ?rest75
    case hy75 => (intro w hSw; (try dsimp only at hSw); go_simp <;> first | with_reducible rfl | rw [if_neg (by omega)] | rw [if_pos (by omega)])
    (try simp only [Act.put]); (try simp only [List.setIfInBounds_toArray]); (try simp only [List.set_cons_succ]); (try simp only [List.set_cons_zero])
    refine wpAnyH_take (i := 38) (oi := ⟨(some 75), (.pick (.tmp 70) (.tmp 74) (.const (.bool false))), 4, "law.go:20", #[⟨33, .data⟩, ⟨37, .data⟩], none⟩) (v := ?v76) rfl (by kernel_rfl) (by kernel_rfl) (by kernel_rfl) (fun _ _ _ h => h) (Or.inl ⟨rfl, ?hy76⟩) hHeld69 ?rest76
    case hy76 => (intro w hSw; (try dsimp only at hSw); go_simp <;> first | with_reducible rfl | rw [if_neg (by omega)] | rw [if_pos (by omega)])
    (try simp only [Act.put]); (try simp only [List.setIfInBounds_toArray]); (try simp only [List.set_cons_succ]); (try simp only [List.set_cons_zero])
    refine wpAnyH_take (i := 39) (oi := ⟨(some 0), (.assign (.tmp 75)), 4, "law.go:20", #[⟨38, .data⟩, ⟨33, .chain⟩, ⟨0, .phase⟩, ⟨1, .phase⟩, ⟨2, .phase⟩, ⟨3, .phase⟩, ⟨4, .phase⟩, ⟨5, .phase⟩, ⟨6, .phase⟩, ⟨7, .phase⟩, ⟨8, .phase⟩, ⟨9, .phase⟩, ⟨10, .phase⟩, ⟨11, .phase⟩, ⟨12, .phase⟩, ⟨13, .phase⟩, ⟨14, .phase⟩, ⟨15, .phase⟩, ⟨16, .phase⟩, ⟨17, .phase⟩, ⟨18, .phase⟩, ⟨19, .phase⟩, ⟨20, .phase⟩, ⟨21, .phase⟩, ⟨22, .phase⟩, ⟨23, .phase⟩, ⟨24, .phase⟩, ⟨25, .phase⟩, ⟨26, .phase⟩, ⟨27, .phase⟩, ⟨28, .phase⟩, ⟨29, .phase⟩, ⟨30, .phase⟩, ⟨31, .phase⟩, ⟨32, .phase⟩, ⟨33, .phase⟩, ⟨34, .phase⟩, ⟨35, .phase⟩, ⟨36, .phase⟩, ⟨37, .phase⟩, ⟨38, .phase⟩], none⟩) (v := ?v77) rfl (by kernel_rfl) (by kernel_rfl) (by kernel_rfl) (fun _ _ _ h => h) (Or.inl ⟨rfl, ?hy77⟩) hHeld69 ?rest77
    case hy77 => (intro w hSw; (try dsimp only at hSw); go_simp <;> first | with_reducible rfl | rw [if_neg (by omega)] | rw [if_pos (by omega)])
    (try simp only [Act.put]); (try simp only [List.setIfInBounds_toArray]); (try simp only [List.set_cons_succ]); (try simp only [List.set_cons_zero])
    refine wpAnyH_done (by kernel_rfl) ?_ _
    clear hHeld69
    go_wp2_with fail
    go_ret
    exact ⟨rfl, xE.trans y31⟩
  go_simp
  (obtain ⟨g25, w25, hg25, hw25, v25, x25⟩ := row_lit w24 [1, 2, 5] (by decide); change w25 = w24.alloc (.cells #[.int .i64 2, .int .i64 1, .int .i64 0, .string ByteArray.empty, .slice none 0 0, .int .i64 2, .int .i64 2, .int .i64 0, .string ByteArray.empty, .slice none 0 0, .int .i64 2, .int .i64 5, .int .i64 0, .string ByteArray.empty, .slice none 0 0] 40) at hw25; rw [← hw25, ← hg25]; clear hg25 hw25; have y25 : Ext W20 w25 := Ext.trans y24 x25)
  refine hK.out _ _ ?hS27x0 (fun hHeld27 => ?rest27x0)
  case hS27x0 => first | (exact MKR.out _ (by repeat (first | with_reducible exact Ext.refl _ | with_reducible assumption | with_reducible refine Ext.drew ?_ | with_reducible refine Ext.drewN ?_ _ | with_reducible refine Ext.alloc ?_ _))) | ((try dsimp only); (exact MKR.out _ (by repeat (first | with_reducible exact Ext.refl _ | with_reducible assumption | with_reducible refine Ext.drew ?_ | with_reducible refine Ext.drewN ?_ _ | with_reducible refine Ext.alloc ?_ _))))
  clear hK K
  clear hHeld26
  (try simp only [Act.put]); (try simp only [List.setIfInBounds_toArray]); (try simp only [List.set_cons_succ]); (try simp only [List.set_cons_zero])
  refine wpAnyH_ready (rs := [26]) (by kernel_rfl) (by simp) ?_
  refine AllReadyH.cons (o := ⟨(some 63), (.call { callee := (.value (.func 29)), args := #[(.const (.int .i64 1))], argTypes := #[3] }), 40, "law.go:20", #[⟨24, .chain⟩, ⟨19, .guard⟩], (some (19, true))⟩) rfl (fun K hK => ?step78x0) ?more78x0
  case more78x0 => exact AllReadyH.nil
  go_simp
  (refine (HN.out 1 _).mono ?_; rintro e w26 ⟨rfl, x26⟩; have y26 : Ext W20 w26 := Ext.trans (by repeat (first | with_reducible exact Ext.refl _ | with_reducible assumption | with_reducible refine Ext.drew ?_ | with_reducible refine Ext.drewN ?_ _ | with_reducible refine Ext.alloc ?_ _)) x26)
  refine hK.out _ _ ?hS78x0 (fun hHeld78 => ?rest78x0)
  case hS78x0 => first | (exact MKR.out _ (by repeat (first | with_reducible exact Ext.refl _ | with_reducible assumption | with_reducible refine Ext.drew ?_ | with_reducible refine Ext.drewN ?_ _ | with_reducible refine Ext.alloc ?_ _))) | ((try dsimp only); (exact MKR.out _ (by repeat (first | with_reducible exact Ext.refl _ | with_reducible assumption | with_reducible refine Ext.drew ?_ | with_reducible refine Ext.drewN ?_ _ | with_reducible refine Ext.alloc ?_ _))))
  clear hK K
  clear hHeld27
  (try simp only [Act.put]); (try simp only [List.setIfInBounds_toArray]); (try simp only [List.set_cons_succ]); (try simp only [List.set_cons_zero])
  refine wpAnyH_ready (rs := [27]) (by kernel_rfl) (by simp) ?_
  refine AllReadyH.cons (o := ⟨(some 64), (.call { callee := (.value (.func 29)), args := #[(.const (.int .i64 2))], argTypes := #[3] }), 40, "law.go:20", #[⟨26, .chain⟩, ⟨19, .guard⟩], (some (19, true))⟩) rfl (fun K hK => ?step79x0) ?more79x0
  case more79x0 => exact AllReadyH.nil
  go_simp
  (refine (HN.out 2 _).mono ?_; rintro e w27 ⟨rfl, x27⟩; have y27 : Ext W20 w27 := Ext.trans (by repeat (first | with_reducible exact Ext.refl _ | with_reducible assumption | with_reducible refine Ext.drew ?_ | with_reducible refine Ext.drewN ?_ _ | with_reducible refine Ext.alloc ?_ _)) x27)
  refine hK.out _ _ ?hS79x0 (fun hHeld79 => ?rest79x0)
  case hS79x0 => first | (exact MKR.out _ (by repeat (first | with_reducible exact Ext.refl _ | with_reducible assumption | with_reducible refine Ext.drew ?_ | with_reducible refine Ext.drewN ?_ _ | with_reducible refine Ext.alloc ?_ _))) | ((try dsimp only); (exact MKR.out _ (by repeat (first | with_reducible exact Ext.refl _ | with_reducible assumption | with_reducible refine Ext.drew ?_ | with_reducible refine Ext.drewN ?_ _ | with_reducible refine Ext.alloc ?_ _))))
  clear hK K
  clear hHeld78
  (try simp only [Act.put]); (try simp only [List.setIfInBounds_toArray]); (try simp only [List.set_cons_succ]); (try simp only [List.set_cons_zero])
  refine wpAnyH_ready (rs := [28]) (by kernel_rfl) (by simp) ?_
  refine AllReadyH.cons (o := ⟨(some 65), (.call { callee := (.value (.func 29)), args := #[(.const (.int .i64 6))], argTypes := #[3] }), 40, "law.go:20", #[⟨27, .chain⟩, ⟨19, .guard⟩], (some (19, true))⟩) rfl (fun K hK => ?step80x0) ?more80x0
  case more80x0 => exact AllReadyH.nil
  go_simp
  (refine (HN.out 6 _).mono ?_; rintro e w28 ⟨rfl, x28⟩; have y28 : Ext W20 w28 := Ext.trans (by repeat (first | with_reducible exact Ext.refl _ | with_reducible assumption | with_reducible refine Ext.drew ?_ | with_reducible refine Ext.drewN ?_ _ | with_reducible refine Ext.alloc ?_ _)) x28)
  refine hK.out _ _ ?hS80x0 (fun hHeld80 => ?rest80x0)
  case hS80x0 => first | (exact MKR.out _ (by repeat (first | with_reducible exact Ext.refl _ | with_reducible assumption | with_reducible refine Ext.drew ?_ | with_reducible refine Ext.drewN ?_ _ | with_reducible refine Ext.alloc ?_ _))) | ((try dsimp only); (exact MKR.out _ (by repeat (first | with_reducible exact Ext.refl _ | with_reducible assumption | with_reducible refine Ext.drew ?_ | with_reducible refine Ext.drewN ?_ _ | with_reducible refine Ext.alloc ?_ _))))
  clear hK K
  clear hHeld79
  (try simp only [Act.put]); (try simp only [List.setIfInBounds_toArray]); (try simp only [List.set_cons_succ]); (try simp only [List.set_cons_zero])
  refine wpAnyH_ready (rs := [29]) (by kernel_rfl) (by simp) ?_
  refine AllReadyH.cons (o := ⟨(some 66), (.buildSlice 37 3 #[(0, (.tmp 63)), (1, (.tmp 64)), (2, (.tmp 65))]), 37, "law.go:20", #[⟨26, .data⟩, ⟨27, .data⟩, ⟨28, .data⟩, ⟨19, .guard⟩], (some (19, true))⟩) rfl (fun K hK => ?step81x0) ?more81x0
  case more81x0 => exact AllReadyH.nil
  go_simp
  (obtain ⟨g29, w29, hg29, hw29, v29, x29⟩ := row_lit w28 [1, 2, 6] (by decide); change w29 = w28.alloc (.cells #[.int .i64 2, .int .i64 1, .int .i64 0, .string ByteArray.empty, .slice none 0 0, .int .i64 2, .int .i64 2, .int .i64 0, .string ByteArray.empty, .slice none 0 0, .int .i64 2, .int .i64 6, .int .i64 0, .string ByteArray.empty, .slice none 0 0] 40) at hw29; rw [← hw29, ← hg29]; clear hg29 hw29; have y29 : Ext W20 w29 := Ext.trans y28 x29)
  refine hK.out _ _ ?hS81x0 (fun hHeld81 => ?rest81x0)
  case hS81x0 => first | (exact MKR.out _ (by repeat (first | with_reducible exact Ext.refl _ | with_reducible assumption | with_reducible refine Ext.drew ?_ | with_reducible refine Ext.drewN ?_ _ | with_reducible refine Ext.alloc ?_ _))) | ((try dsimp only); (exact MKR.out _ (by repeat (first | with_reducible exact Ext.refl _ | with_reducible assumption | with_reducible refine Ext.drew ?_ | with_reducible refine Ext.drewN ?_ _ | with_reducible refine Ext.alloc ?_ _))))
  clear hK K
  clear hHeld80
  (try simp only [Act.put]); (try simp only [List.setIfInBounds_toArray]); (try simp only [List.set_cons_succ]); (try simp only [List.set_cons_zero])
  refine wpAnyH_ready (rs := [30]) (by kernel_rfl) (by simp) ?_
  refine AllReadyH.cons (o := ⟨(some 67), (.buildSlice 23 2 #[(0, (.tmp 62)), (1, (.tmp 66))]), 23, "law.go:20", #[⟨25, .data⟩, ⟨29, .data⟩, ⟨19, .guard⟩], (some (19, true))⟩) rfl (fun K hK => ?step82x0) ?more82x0
  case more82x0 => exact AllReadyH.nil
  go_simp
  (obtain ⟨g30, w30, hg30, hw30, v30, x30⟩ := rows_lit w29 (some ⟨g25, 0, none⟩) (some ⟨g29, 0, none⟩) 3 3 [numV 1, numV 2, numV 5] [numV 1, numV 2, numV 6] (v25.ext (x26.trans (x27.trans (x28.trans x29)))) (v29.ext (Ext.refl _)) (by decide) (by decide); change w30 = w29.alloc (.cells #[.slice (some ⟨g25, 0, none⟩) 3 3, .slice (some ⟨g29, 0, none⟩) 3 3] 37) at hw30; rw [← hw30, ← hg30]; clear hg30 hw30; have y30 : Ext W20 w30 := Ext.trans y29 x30)
  refine hK.out _ _ ?hS82x0 (fun hHeld82 => ?rest82x0)
  case hS82x0 => first | (exact MKR.out _ (by repeat (first | with_reducible exact Ext.refl _ | with_reducible assumption | with_reducible refine Ext.drew ?_ | with_reducible refine Ext.drewN ?_ _ | with_reducible refine Ext.alloc ?_ _))) | ((try dsimp only); (exact MKR.out _ (by repeat (first | with_reducible exact Ext.refl _ | with_reducible assumption | with_reducible refine Ext.drew ?_ | with_reducible refine Ext.drewN ?_ _ | with_reducible refine Ext.alloc ?_ _))))
  clear hK K
  clear hHeld81
  (try simp only [Act.put]); (try simp only [List.setIfInBounds_toArray]); (try simp only [List.set_cons_succ]); (try simp only [List.set_cons_zero])
  refine wpAnyH_ready (rs := [31]) (by kernel_rfl) (by simp) ?_
  refine AllReadyH.cons (o := ⟨(some 68), (.call { callee := (.value (.func 26)), args := #[(.tmp 58), (.tmp 67)], argTypes := #[23, 23] }), 4, "law.go:20", #[⟨21, .data⟩, ⟨30, .data⟩, ⟨28, .chain⟩, ⟨19, .guard⟩], (some (19, true))⟩) rfl (fun K hK => ?step83x0) ?more83x0
  case more83x0 => exact AllReadyH.nil
  go_simp
  (refine (HSR.out w30 y30 g30 (v30.ext (Ext.refl _))).mono ?_; rintro e w31 ⟨rfl, x31⟩; have y31 : Ext W20 w31 := Ext.trans y30 x31)
  refine hK.out _ _ ?hS83x0 (fun hHeld83 => ?rest83x0)
  case hS83x0 => first | (exact MKR.out _ (by repeat (first | with_reducible exact Ext.refl _ | with_reducible assumption | with_reducible refine Ext.drew ?_ | with_reducible refine Ext.drewN ?_ _ | with_reducible refine Ext.alloc ?_ _))) | ((try dsimp only); (exact MKR.out _ (by repeat (first | with_reducible exact Ext.refl _ | with_reducible assumption | with_reducible refine Ext.drew ?_ | with_reducible refine Ext.drewN ?_ _ | with_reducible refine Ext.alloc ?_ _))))
  clear hK K
  clear hHeld82
  (try simp only [Act.put]); (try simp only [List.setIfInBounds_toArray]); (try simp only [List.set_cons_succ]); (try simp only [List.set_cons_zero])
  refine wpAnyH_take (i := 32) (oi := ⟨(some 69), (.pick (.tmp 56) (.tmp 68) (.const (.bool false))), 4, "law.go:20", #[⟨19, .data⟩, ⟨31, .data⟩], none⟩) (v := ?v84) rfl (by kernel_rfl) (by kernel_rfl) (by kernel_rfl) (fun _ _ _ h => h) (Or.inl ⟨rfl, ?hy84⟩) hHeld83 ?rest84
  case hy84 => (intro w hSw; (try dsimp only at hSw); go_simp <;> first | with_reducible rfl | rw [if_neg (by omega)] | rw [if_pos (by omega)])
  (try simp only [Act.put]); (try simp only [List.setIfInBounds_toArray]); (try simp only [List.set_cons_succ]); (try simp only [List.set_cons_zero])
  refine wpAnyH_take (i := 33) (oi := ⟨(some 70), (.move (.tmp 69)), 4, "law.go:20", #[⟨32, .data⟩, ⟨31, .chain⟩], none⟩) (v := ?v85) rfl (by kernel_rfl) (by kernel_rfl) (by kernel_rfl) (fun _ _ _ h => h) (Or.inl ⟨rfl, ?hy85⟩) hHeld83 ?rest85
  case hy85 => (intro w hSw; (try dsimp only at hSw); go_simp <;> first | with_reducible rfl | rw [if_neg (by omega)] | rw [if_pos (by omega)])
  (try simp only [Act.put]); (try simp only [List.setIfInBounds_toArray]); (try simp only [List.set_cons_succ]); (try simp only [List.set_cons_zero])
  refine wpAnyH_take (i := 34) (oi := ⟨(some 71), (.fieldAddr 25 (.tmp 5) 1), 0, "law.go:20", #[⟨33, .guard⟩], (some (33, true))⟩) (v := ?v86) rfl (by kernel_rfl) (by kernel_rfl) (by kernel_rfl) (fun _ _ _ h => h) (Or.inl ⟨rfl, ?hy86⟩) hHeld83 ?rest86
  case hy86 => (intro w hSw; (try dsimp only at hSw); go_simp <;> first | with_reducible rfl | rw [if_neg (by omega)] | rw [if_pos (by omega)])
  (try simp only [Act.put]); (try simp only [List.setIfInBounds_toArray]); (try simp only [List.set_cons_succ]); (try simp only [List.set_cons_zero])
  refine wpAnyH_take (i := 35) (oi := ⟨(some 72), (.load 23 (.tmp 71)), 23, "law.go:20", #[⟨34, .data⟩, ⟨33, .guard⟩], (some (33, true))⟩) (v := ?v87) rfl (by kernel_rfl) (by kernel_rfl) (by kernel_rfl) (fun _ _ _ h => h) (Or.inl ⟨rfl, ?hy87⟩) hHeld83 ?rest87
  case hy87 => (intro w hSw; (try dsimp only at hSw); go_simp <;> first | with_reducible rfl | rw [if_neg (by omega)] | rw [if_pos (by omega)])
  (try simp only [Act.put]); (try simp only [List.setIfInBounds_toArray]); (try simp only [List.set_cons_succ]); (try simp only [List.set_cons_zero])
  refine wpAnyH_take (i := 36) (oi := ⟨(some 73), (.call { callee := (.builtin .len), args := #[(.tmp 72)], argTypes := #[23] }), 3, "law.go:20", #[⟨35, .data⟩, ⟨33, .guard⟩], (some (33, true))⟩) (v := ?v88) rfl (by kernel_rfl) (by kernel_rfl) (by kernel_rfl) (fun _ _ _ h => h) (Or.inl ⟨rfl, ?hy88⟩) hHeld83 ?rest88
  case hy88 => (intro w hSw; (try dsimp only at hSw); go_simp <;> first | with_reducible rfl | rw [if_neg (by omega)] | rw [if_pos (by omega)])
  (try simp only [Act.put]); (try simp only [List.setIfInBounds_toArray]); (try simp only [List.set_cons_succ]); (try simp only [List.set_cons_zero])
  refine wpAnyH_take (i := 37) (oi := ⟨(some 74), (.binOp .eql 3 (.tmp 73) (.const (.int .i64 3)) 3), 4, "law.go:20", #[⟨36, .data⟩, ⟨33, .guard⟩], (some (33, true))⟩) (v := ?v89) rfl (by kernel_rfl) (by kernel_rfl) (by kernel_rfl) (fun _ _ _ h => h) (Or.inl ⟨rfl, ?hy89⟩) hHeld83 ?rest89
  case hy89 => (intro w hSw; (try dsimp only at hSw); go_simp <;> first | with_reducible rfl | rw [if_neg (by omega)] | rw [if_pos (by omega)])
  (try simp only [Act.put]); (try simp only [List.setIfInBounds_toArray]); (try simp only [List.set_cons_succ]); (try simp only [List.set_cons_zero])
  refine wpAnyH_take (i := 38) (oi := ⟨(some 75), (.pick (.tmp 70) (.tmp 74) (.const (.bool false))), 4, "law.go:20", #[⟨33, .data⟩, ⟨37, .data⟩], none⟩) (v := ?v90) rfl (by kernel_rfl) (by kernel_rfl) (by kernel_rfl) (fun _ _ _ h => h) (Or.inl ⟨rfl, ?hy90⟩) hHeld83 ?rest90
  case hy90 => (intro w hSw; (try dsimp only at hSw); go_simp <;> first | with_reducible rfl | rw [if_neg (by omega)] | rw [if_pos (by omega)])
  (try simp only [Act.put]); (try simp only [List.setIfInBounds_toArray]); (try simp only [List.set_cons_succ]); (try simp only [List.set_cons_zero])
  refine wpAnyH_take (i := 39) (oi := ⟨(some 0), (.assign (.tmp 75)), 4, "law.go:20", #[⟨38, .data⟩, ⟨33, .chain⟩, ⟨0, .phase⟩, ⟨1, .phase⟩, ⟨2, .phase⟩, ⟨3, .phase⟩, ⟨4, .phase⟩, ⟨5, .phase⟩, ⟨6, .phase⟩, ⟨7, .phase⟩, ⟨8, .phase⟩, ⟨9, .phase⟩, ⟨10, .phase⟩, ⟨11, .phase⟩, ⟨12, .phase⟩, ⟨13, .phase⟩, ⟨14, .phase⟩, ⟨15, .phase⟩, ⟨16, .phase⟩, ⟨17, .phase⟩, ⟨18, .phase⟩, ⟨19, .phase⟩, ⟨20, .phase⟩, ⟨21, .phase⟩, ⟨22, .phase⟩, ⟨23, .phase⟩, ⟨24, .phase⟩, ⟨25, .phase⟩, ⟨26, .phase⟩, ⟨27, .phase⟩, ⟨28, .phase⟩, ⟨29, .phase⟩, ⟨30, .phase⟩, ⟨31, .phase⟩, ⟨32, .phase⟩, ⟨33, .phase⟩, ⟨34, .phase⟩, ⟨35, .phase⟩, ⟨36, .phase⟩, ⟨37, .phase⟩, ⟨38, .phase⟩], none⟩) (v := ?v91) rfl (by kernel_rfl) (by kernel_rfl) (by kernel_rfl) (fun _ _ _ h => h) (Or.inl ⟨rfl, ?hy91⟩) hHeld83 ?rest91
  case hy91 => (intro w hSw; (try dsimp only at hSw); go_simp <;> first | with_reducible rfl | rw [if_neg (by omega)] | rw [if_pos (by omega)])
  (try simp only [Act.put]); (try simp only [List.setIfInBounds_toArray]); (try simp only [List.set_cons_succ]); (try simp only [List.set_cons_zero])
  refine wpAnyH_done (by kernel_rfl) ?_ _
  clear hHeld83
  go_wp2_with fail
  go_ret
  exact ⟨rfl, xE.trans y31⟩
end Go.Proofs.YtbjddimafilflaaGreatDoor

/- THE WALK over the law JoinTells. -/
namespace Go.Proofs.YtbjddimafilflaaGreatDoor
open Go.RowKit Go.Sort
theorem sameT_self (t : Tab) : sameT t t = true := by unfold sameT; simp
theorem szR_sort {l : List (List Val)} (h : ∀ r ∈ l, szL r) : ∀ r ∈ sortO ordL l, szL r := fun r hr => h r (sortO_mem hr)
theorem halfT_sz {a b : Tab} (ha : TabFit a) (wt : Bool) : ∀ r ∈ (halfT a b wt).rows, szL r := by
  unfold halfT
  by_cases h : errJ a b = 0
  · rw [if_pos h]
    exact szR_sort (fun r hr => (ha.2.2 r (List.mem_filter.1 hr).1).1)
  · rw [if_neg h]
    exact fun r hr => absurd hr (by simp [noTab])
theorem leftT_sz {a b : Tab} (ha : TabFit a) (hb : TabFit b) : ∀ r ∈ (leftT a b).rows, szL r := by
  unfold leftT
  by_cases h : errJ a b = 0
  · rw [if_pos h]
    exact szR_sort (fun r hr => (leftR_fit ha hb (errJ_zero h).2.2 r hr).2)
  · rw [if_neg h]
    exact fun r hr => absurd hr (by simp [noTab])
end Go.Proofs.YtbjddimafilflaaGreatDoor

/- THE WALK over the law JoinHalves. -/
namespace Go.Proofs.YtbjddimafilflaaGreatDoor
open Go.RowKit Go.Sort
set_option maxRecDepth 100000 in
set_option maxHeartbeats 6400000 in
theorem l_JoinHalves (a b : Tab) (ok ok' : Nat → Prop) (A A' B B' : Option Addr) (c c' d d' : Nat) (w : World) (hz : ZeroAt w) (ha : TabAt w ok A B a) (hb : TabAt w ok' A' B' b) (hsa : ∀ s ∈ a.cols, s.size ≤ maxLen) (hsb : ∀ s ∈ b.cols, s.size ≤ maxLen) (hra : ∀ r ∈ a.rows, szL r) (hrb : ∀ r ∈ b.rows, szL r) (hcp : a.cols.length ≤ c) (hcp' : b.cols.length ≤ c') :
    Calls Tryz.prog 7 #[.agg #[.slice A a.cols.length c, .slice B a.rows.length d], .agg #[.slice A' b.cols.length c', .slice B' b.rows.length d']] w fun e w' => e = .returned (.bool true) ∧ Ext w w' := by
  obtain ⟨q, w2, hq, hw2, q0, q1, p0, p1, hxw⟩ := box_tab2 w A B A' B' a.cols.length c a.rows.length d b.cols.length c' b.rows.length d' 25 25
  have HS1 := Lib.hid (fun W (e : Ext w2 W) => l_small a ok A B c d W (ha.ext (hxw.trans e)) hra)
  have HS2 := Lib.hid (fun W (e : Ext w2 W) => l_small b ok' A' B' c' d' W (hb.ext (hxw.trans e)) hrb)
  have HAL := Lib.hid (fun W (e : Ext w2 W) => l_alive W (hz.ext (hxw.trans e)))
  have HC1 := Lib.hid (fun W (e : Ext w2 W) (h1 : Sm a) (h2 : Sm b) => j_Left a b ok ok' A A' B B' c c' d d' W (hz.ext (hxw.trans e)) (ha.ext (hxw.trans e)) (hb.ext (hxw.trans e)) (h1.fit hra) (h2.fit hrb) hsa hsb)
  have HC2 := Lib.hid (fun W (e : Ext w2 W) (h1 : Sm a) (h2 : Sm b) => r_Left a b ok ok' A A' B B' c c' d d' W (ha.ext (hxw.trans e)) (hb.ext (hxw.trans e)) (h1.fit hra) (h2.fit hrb) hcp hcp')
  have HC3 := Lib.hid (fun W (e : Ext w2 W) (h1 : Sm a) (h2 : Sm b) => j_Semi a b ok ok' A A' B B' c c' d d' W (hz.ext (hxw.trans e)) (ha.ext (hxw.trans e)) (hb.ext (hxw.trans e)) (h1.fit hra) (h2.fit hrb) hsa hsb)
  have HC4 := Lib.hid (fun W (e : Ext w2 W) (h1 : Sm a) (h2 : Sm b) => r_Semi a b ok ok' A A' B B' c c' d d' W (ha.ext (hxw.trans e)) (hb.ext (hxw.trans e)) (h1.fit hra) (h2.fit hrb) hcp hcp')
  have HC5 := Lib.hid (fun W (e : Ext w2 W) (h1 : Sm a) (h2 : Sm b) => j_Anti a b ok ok' A A' B B' c c' d d' W (hz.ext (hxw.trans e)) (ha.ext (hxw.trans e)) (hb.ext (hxw.trans e)) (h1.fit hra) (h2.fit hrb) hsa hsb)
  have HC6 := Lib.hid (fun W (e : Ext w2 W) (h1 : Sm a) (h2 : Sm b) => r_Anti a b ok ok' A A' B B' c c' d d' W (ha.ext (hxw.trans e)) (hb.ext (hxw.trans e)) (h1.fit hra) (h2.fit hrb) hcp hcp')
  have HSZtL := Lib.hid (fun (h1 : Sm a) (h2 : Sm b) => leftT_sz (h1.fit hra) (h2.fit hrb))
  have HSZtS := Lib.hid (fun (h1 : Sm a) (_ : Sm b) => halfT_sz (b := b) (h1.fit hra) true)
  have HSZtT := Lib.hid (fun (h1 : Sm a) (_ : Sm b) => halfT_sz (b := b) (h1.fit hra) false)
  have HW2 := Lib.hid hw2
  have HG := Lib.hid hq
  clear ha hb hz hsa hsb hra hrb hcp hcp' hw2 hq
  generalize leftT a b = tL at *
  generalize halfT a b true = tS at *
  generalize halfT a b false = tT at *
  generalize errJ a b = er at *
  go_enter Tryz.func7, Tryz.ntmps7
  go_upto_region 1 with (fail)
  rw [← HW2.out, ← HG.out]
  clear HW2 HG
  go_wp2_with fail
  refine (HS1.out _ (Ext.refl _)).mono ?_
  rintro e w3 ⟨s1, rfl, hs1, hx3⟩
  cases s1
  · clear hs1
    go_wp2_with (go_at_call 11; ((with_reducible refine (HAL.out _ hx3).mono ?_); rintro e w4 ⟨rfl, hx4⟩))
    go_ret
    exact ⟨rfl, hxw.trans (hx3.trans hx4)⟩
  have h1 := Lib.hid (hs1 rfl)
  have u0 := hx3.cell q0
  have u1 := hx3.cell q1
  have v0 := hx3.cell p0
  have v1 := hx3.cell p1
  clear hs1
  go_wp2_with fail
  refine (HS2.out _ hx3).mono ?_
  rintro e w4 ⟨s2, rfl, hs2, hx4⟩
  replace hx4 : Ext w2 w4 := hx3.trans hx4
  clear hx3 u0 u1 v0 v1
  cases s2
  · clear hs2
    go_wp2_with (go_at_call 11; ((with_reducible refine (HAL.out _ hx4).mono ?_); rintro e w5 ⟨rfl, hx5⟩))
    go_ret
    exact ⟨rfl, hxw.trans (hx4.trans hx5)⟩
  have h2 := Lib.hid (hs2 rfl)
  clear hs2
  have u0 := (hx4).cell q0
  have u1 := (hx4).cell q1
  have v0 := (hx4).cell p0
  have v1 := (hx4).cell p1
  go_wp2_with fail
  refine (HC1.out w4 hx4 h1.out h2.out).mono ?_
  rintro e x1 ⟨A1, B1, c1, d1, rfl, -, -, hT1, hx1⟩
  have ex1 : Ext w2 x1 := hx4.trans hx1
  clear u0 u1 v0 v1
  have u0 := (ex1).cell q0
  have u1 := (ex1).cell q1
  have v0 := (ex1).cell p0
  have v1 := (ex1).cell p1
  have kx1 : q + 1 < x1.heap.size := block_lt_of_cell v0
  have lx1 : q < x1.heap.size := block_lt_of_cell u0
  go_wp2_with fail
  obtain ⟨g1, y1, hg1, hV1, g10, g11, hxy1⟩ := box_tab x1 A1 B1 tL.cols.length c1 tL.rows.length d1 25
  rw [← hV1, ← hg1]
  have ey1 : Ext w2 y1 := ex1.trans hxy1
  replace hT1 := hT1.ext hxy1
  clear hg1 hV1 kx1 lx1 u0 u1 v0 v1
  clear hx1 ex1 hxy1
  refine (HC2.out y1 ey1 h1.out h2.out).mono ?_
  rintro e x2 ⟨A2, B2, c2, d2, rfl, -, -, hT2, hx2⟩
  have ex2 : Ext w2 x2 := ey1.trans hx2

  have u0 := (ex2).cell q0
  have u1 := (ex2).cell q1
  have v0 := (ex2).cell p0
  have v1 := (ex2).cell p1
  have kx2 : q + 1 < x2.heap.size := block_lt_of_cell v0
  have lx2 : q < x2.heap.size := block_lt_of_cell u0
  go_wp2_with fail
  obtain ⟨g2, y2, hg2, hV2, g20, g21, hxy2⟩ := box_tab x2 A2 B2 tL.cols.length c2 tL.rows.length d2 25
  rw [← hV2, ← hg2]
  have ey2 : Ext w2 y2 := ex2.trans hxy2
  replace hT2 := hT2.ext hxy2
  clear hg2 hV2 kx2 lx2 u0 u1 v0 v1
  replace g10 := hxy2.cell (hx2.cell g10)
  replace g11 := hxy2.cell (hx2.cell g11)
  replace hT1 := (hT1.ext hx2).ext hxy2
  clear hx2 ex2 hxy2
  refine (HC3.out y2 ey2 h1.out h2.out).mono ?_
  rintro e x3 ⟨A3, B3, c3, d3, rfl, -, -, hT3, hx3⟩
  have ex3 : Ext w2 x3 := ey2.trans hx3

  have u0 := (ex3).cell q0
  have u1 := (ex3).cell q1
  have v0 := (ex3).cell p0
  have v1 := (ex3).cell p1
  have kx3 : q + 1 < x3.heap.size := block_lt_of_cell v0
  have lx3 : q < x3.heap.size := block_lt_of_cell u0
  go_wp2_with fail
  obtain ⟨g3, y3, hg3, hV3, g30, g31, hxy3⟩ := box_tab x3 A3 B3 tS.cols.length c3 tS.rows.length d3 25
  rw [← hV3, ← hg3]
  have ey3 : Ext w2 y3 := ex3.trans hxy3
  replace hT3 := hT3.ext hxy3
  clear hg3 hV3 kx3 lx3 u0 u1 v0 v1
  replace g10 := hxy3.cell (hx3.cell g10)
  replace g11 := hxy3.cell (hx3.cell g11)
  replace hT1 := (hT1.ext hx3).ext hxy3
  replace g20 := hxy3.cell (hx3.cell g20)
  replace g21 := hxy3.cell (hx3.cell g21)
  replace hT2 := (hT2.ext hx3).ext hxy3
  clear hx3 ex3 hxy3
  refine (HC4.out y3 ey3 h1.out h2.out).mono ?_
  rintro e x4 ⟨A4, B4, c4, d4, rfl, -, -, hT4, hx4⟩
  have ex4 : Ext w2 x4 := ey3.trans hx4

  have u0 := (ex4).cell q0
  have u1 := (ex4).cell q1
  have v0 := (ex4).cell p0
  have v1 := (ex4).cell p1
  have kx4 : q + 1 < x4.heap.size := block_lt_of_cell v0
  have lx4 : q < x4.heap.size := block_lt_of_cell u0
  go_wp2_with fail
  obtain ⟨g4, y4, hg4, hV4, g40, g41, hxy4⟩ := box_tab x4 A4 B4 tS.cols.length c4 tS.rows.length d4 25
  rw [← hV4, ← hg4]
  have ey4 : Ext w2 y4 := ex4.trans hxy4
  replace hT4 := hT4.ext hxy4
  clear hg4 hV4 kx4 lx4 u0 u1 v0 v1
  replace g10 := hxy4.cell (hx4.cell g10)
  replace g11 := hxy4.cell (hx4.cell g11)
  replace hT1 := (hT1.ext hx4).ext hxy4
  replace g20 := hxy4.cell (hx4.cell g20)
  replace g21 := hxy4.cell (hx4.cell g21)
  replace hT2 := (hT2.ext hx4).ext hxy4
  replace g30 := hxy4.cell (hx4.cell g30)
  replace g31 := hxy4.cell (hx4.cell g31)
  replace hT3 := (hT3.ext hx4).ext hxy4
  clear hx4 ex4 hxy4
  refine (HC5.out y4 ey4 h1.out h2.out).mono ?_
  rintro e x5 ⟨A5, B5, c5, d5, rfl, -, -, hT5, hx5⟩
  have ex5 : Ext w2 x5 := ey4.trans hx5

  have u0 := (ex5).cell q0
  have u1 := (ex5).cell q1
  have v0 := (ex5).cell p0
  have v1 := (ex5).cell p1
  have kx5 : q + 1 < x5.heap.size := block_lt_of_cell v0
  have lx5 : q < x5.heap.size := block_lt_of_cell u0
  go_wp2_with fail
  obtain ⟨g5, y5, hg5, hV5, g50, g51, hxy5⟩ := box_tab x5 A5 B5 tT.cols.length c5 tT.rows.length d5 25
  rw [← hV5, ← hg5]
  have ey5 : Ext w2 y5 := ex5.trans hxy5
  replace hT5 := hT5.ext hxy5
  clear hg5 hV5 kx5 lx5 u0 u1 v0 v1
  replace g10 := hxy5.cell (hx5.cell g10)
  replace g11 := hxy5.cell (hx5.cell g11)
  replace hT1 := (hT1.ext hx5).ext hxy5
  replace g20 := hxy5.cell (hx5.cell g20)
  replace g21 := hxy5.cell (hx5.cell g21)
  replace hT2 := (hT2.ext hx5).ext hxy5
  replace g30 := hxy5.cell (hx5.cell g30)
  replace g31 := hxy5.cell (hx5.cell g31)
  replace hT3 := (hT3.ext hx5).ext hxy5
  replace g40 := hxy5.cell (hx5.cell g40)
  replace g41 := hxy5.cell (hx5.cell g41)
  replace hT4 := (hT4.ext hx5).ext hxy5
  clear hx5 ex5 hxy5
  refine (HC6.out y5 ey5 h1.out h2.out).mono ?_
  rintro e x6 ⟨A6, B6, c6, d6, rfl, -, -, hT6, hx6⟩
  have ex6 : Ext w2 x6 := ey5.trans hx6

  have u0 := (ex6).cell q0
  have u1 := (ex6).cell q1
  have v0 := (ex6).cell p0
  have v1 := (ex6).cell p1
  have kx6 : q + 1 < x6.heap.size := block_lt_of_cell v0
  have lx6 : q < x6.heap.size := block_lt_of_cell u0
  go_upto_region 9 with (fail)
  obtain ⟨g6, y6, hg6, hV6, g60, g61, hxy6⟩ := box_tab x6 A6 B6 tT.cols.length c6 tT.rows.length d6 25
  rw [← hV6, ← hg6]
  have ey6 : Ext w2 y6 := ex6.trans hxy6
  replace hT6 := hT6.ext hxy6
  clear hg6 hV6 kx6 lx6 u0 u1 v0 v1
  replace g10 := hxy6.cell (hx6.cell g10)
  replace g11 := hxy6.cell (hx6.cell g11)
  replace hT1 := (hT1.ext hx6).ext hxy6
  replace g20 := hxy6.cell (hx6.cell g20)
  replace g21 := hxy6.cell (hx6.cell g21)
  replace hT2 := (hT2.ext hx6).ext hxy6
  replace g30 := hxy6.cell (hx6.cell g30)
  replace g31 := hxy6.cell (hx6.cell g31)
  replace hT3 := (hT3.ext hx6).ext hxy6
  replace g40 := hxy6.cell (hx6.cell g40)
  replace g41 := hxy6.cell (hx6.cell g41)
  replace hT4 := (hT4.ext hx6).ext hxy6
  replace g50 := hxy6.cell (hx6.cell g50)
  replace g51 := hxy6.cell (hx6.cell g51)
  replace hT5 := (hT5.ext hx6).ext hxy6
  clear hx6 ex6 hxy6
  have HM1 := Lib.hid (fun W (e : Ext y6 W) => r_Same tL tL _ _ A1 B1 A2 B2 c1 d1 c2 d2 W (hT1.ext e) (hT2.ext e) (HSZtL.out h1.out h2.out) (HSZtL.out h1.out h2.out))
  rw [sameT_self] at HM1
  have HM2 := Lib.hid (fun W (e : Ext y6 W) => r_Same tS tS _ _ A3 B3 A4 B4 c3 d3 c4 d4 W (hT3.ext e) (hT4.ext e) (HSZtS.out h1.out h2.out) (HSZtS.out h1.out h2.out))
  rw [sameT_self] at HM2
  have HM3 := Lib.hid (fun W (e : Ext y6 W) => r_Same tT tT _ _ A5 B5 A6 B6 c5 d5 c6 d6 W (hT5.ext e) (hT6.ext e) (HSZtT.out h1.out h2.out) (HSZtT.out h1.out h2.out))
  rw [sameT_self] at HM3
  go_wp2_with fail
  refine (HM1.out _ (Ext.refl _)).mono ?_
  rintro e z1 ⟨rfl, hz1⟩
  have f1 : Ext y6 z1 := hz1
  have m130 := f1.cell g30
  have m131 := f1.cell g31
  have m140 := f1.cell g40
  have m141 := f1.cell g41
  go_wp2_with fail
  refine (HM2.out _ f1).mono ?_
  rintro e z2 ⟨rfl, hz2⟩
  have f2 : Ext y6 z2 := f1.trans hz2
  have m250 := f2.cell g50
  have m251 := f2.cell g51
  have m260 := f2.cell g60
  have m261 := f2.cell g61
  go_wp2_with fail
  refine (HM3.out _ f2).mono ?_
  rintro e z3 ⟨rfl, hz3⟩
  have f3 : Ext y6 z3 := f2.trans hz3
  go_wp2_with fail
  refine (HAL.out _ (ey6.trans f3)).mono ?_
  rintro e z4 ⟨rfl, hz4⟩
  go_wp2_with fail
  go_ret
  exact ⟨rfl, hxw.trans (ey6.trans (f3.trans hz4))⟩
end Go.Proofs.YtbjddimafilflaaGreatDoor
