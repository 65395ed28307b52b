/- THE WALKS over the laws: FracComputes. -/
import Derived.Test.YtemmgehaddghfaaDoorFracTe
import Derived.Test.YtemmgehaddghfaaDoorFracY
namespace Go.Proofs.YtemmgehaddghfaaDoor
open Go.RowKit

theorem LivesSt.conj4 {w V : World} {x1 x2 x3 x4 : Nat × Int × Int} (h : LivesSt w [x1, x2, x3, x4] V) : (V.cell? ⟨x1.1, 0, none⟩ = some (.int .i64 x1.2.1) ∧ V.cell? ⟨x1.1, 1, none⟩ = some (.int .i64 x1.2.2)) ∧ (V.cell? ⟨x2.1, 0, none⟩ = some (.int .i64 x2.2.1) ∧ V.cell? ⟨x2.1, 1, none⟩ = some (.int .i64 x2.2.2)) ∧ (V.cell? ⟨x3.1, 0, none⟩ = some (.int .i64 x3.2.1) ∧ V.cell? ⟨x3.1, 1, none⟩ = some (.int .i64 x3.2.2)) ∧ (V.cell? ⟨x4.1, 0, none⟩ = some (.int .i64 x4.2.1) ∧ V.cell? ⟨x4.1, 1, none⟩ = some (.int .i64 x4.2.2)) ∧ LivesSt w [x1, x2, x3, x4] V :=
  ⟨⟨h.2.1.1.1, h.2.1.1.2.1⟩, ⟨h.2.1.2.1.1, h.2.1.2.1.2.1⟩, ⟨h.2.1.2.2.1.1, h.2.1.2.2.1.2.1⟩, ⟨h.2.1.2.2.2.1.1, h.2.1.2.2.2.1.2.1⟩, h⟩

set_option maxRecDepth 100000 in
set_option maxHeartbeats 12800000 in
theorem law_FracComputes (an ad bn bd : Int) (w : World) (hz : ZeroAt w) (hw : LaidW w) (b1 : -9223372036854775808 ≤ bn) (b2 : bn ≤ 9223372036854775807) :
    Calls Tryd.prog 4 #[.agg #[.int .i64 an, .int .i64 ad], .agg #[.int .i64 bn, .int .i64 bd]] w fun e w' => e = .returned (.bool true) ∧ Below w.heap.size w w' := by
  have HZ := Lib.hid hz
  have HL := Lib.hid hw
  have B1 := Lib.hid b1
  have B2 := Lib.hid b2
  obtain ⟨⟨x, y, e⟩, hA⟩ : ∃ r, addS an ad bn bd = r := ⟨_, rfl⟩
  obtain ⟨⟨x2, y2, e2⟩, hS⟩ : ∃ r, subS an ad bn bd = r := ⟨_, rfl⟩
  obtain ⟨⟨x3, y3, e3⟩, hM⟩ : ∃ r, mulS an ad bn bd = r := ⟨_, rfl⟩
  obtain ⟨⟨x4, y4, e4⟩, hD⟩ : ∃ r, divS an ad bn bd = r := ⟨_, rfl⟩
  have st0 := Lib.hid (((LivesSt.start hz hw).push' w.heap.size rfl an ad 23).push' (w.heap.size + 1) (by simp) bn bd 23)
  clear hz hw b1 b2
  go_enter Tryd.func4, Tryd.ntmps4
  go_wp2_with fail
  refine (frac_Add an ad bn bd _ st0.out.zero).mono ?_
  rintro e w1 ⟨rfl, hb⟩
  have su1 := Lib.hid (st0.out.step hb)
  clear hb
  obtain ⟨⟨p1a, p1b, p1c⟩, ⟨p2a, p2b, p2c⟩, -⟩ := su1.out.2.1
  have p1cn := Nat.ne_of_lt p1c; have p1cm := Nat.ne_of_gt p1c
  have p2cn := Nat.ne_of_lt p2c; have p2cm := Nat.ne_of_gt p2c
  have st1 := Lib.hid (su1.out.push' w1.heap.size rfl x y 23)
  have ft1b1 := Lib.hid (Frz.alloc (V := w1) (.int .i64 x) (.int .i64 y) 23)
  have hordx := Lib.hid su1.out.2.1.lt
  have hlex : Hid (w.heap.size ≤ w1.heap.size) := Lib.hid su1.out.1.size
  go_wp2_with fail
  refine (r3_Add an ad bn bd _).mono ?_
  rintro e w2 ⟨rfl, hb⟩
  clear p1a p1b p1c p2a p2b p2c p1cn p1cm p2cn p2cm
  have su2 := Lib.hid (st1.out.step hb)
  have fz2b1 := Lib.hid (ft1b1.out.step hb)
  clear hb
  obtain ⟨⟨p3a, p3b, p3c⟩, ⟨p4a, p4b, p4c⟩, ⟨p5a, p5b, p5c⟩, -⟩ := su2.out.2.1
  have p3cn := Nat.ne_of_lt p3c; have p3cm := Nat.ne_of_gt p3c
  have p4cn := Nat.ne_of_lt p4c; have p4cm := Nat.ne_of_gt p4c
  have p5cn := Nat.ne_of_lt p5c; have p5cm := Nat.ne_of_gt p5c
  have st2 := Lib.hid (su2.out.push' w2.heap.size rfl x y 23)
  have ft2b1 := Lib.hid (fz2b1.out.step ((Below.refl _ _).alloc (Nat.le_refl _) (.cells #[.int .i64 x, .int .i64 y] 23)))
  have ft2b2 := Lib.hid (Frz.alloc (V := w2) (.int .i64 x) (.int .i64 y) 23)
  have hordy := Lib.hid su2.out.2.1.lt
  have hley : Hid (w.heap.size ≤ w2.heap.size) := Lib.hid su2.out.1.size
  have hxy : Hid (w1.heap.size < w2.heap.size) := Lib.hid (hordy.out _ (List.mem_cons_self ..))
  have nx0 := Nat.ne_of_lt (hordx.out _ (List.mem_cons_self ..)); have mx0 := Nat.ne_of_gt (hordx.out _ (List.mem_cons_self ..))
  have ny0 := Nat.ne_of_lt (hordy.out _ (List.mem_cons_of_mem _ (List.mem_cons_self ..))); have my0 := Nat.ne_of_gt (hordy.out _ (List.mem_cons_of_mem _ (List.mem_cons_self ..)))
  have nx1 := Nat.ne_of_lt (hordx.out _ (List.mem_cons_of_mem _ (List.mem_cons_self ..))); have mx1 := Nat.ne_of_gt (hordx.out _ (List.mem_cons_of_mem _ (List.mem_cons_self ..)))
  have ny1 := Nat.ne_of_lt (hordy.out _ (List.mem_cons_of_mem _ (List.mem_cons_of_mem _ (List.mem_cons_self ..)))); have my1 := Nat.ne_of_gt (hordy.out _ (List.mem_cons_of_mem _ (List.mem_cons_of_mem _ (List.mem_cons_self ..))))
  have nxy := Nat.ne_of_lt hxy.out; have mxy := Nat.ne_of_gt hxy.out
  go_wp2_with fail
  refine (frac_Sub an ad bn bd _ st2.out.zero B1.out B2.out).mono ?_
  rintro e w3 ⟨rfl, hb⟩
  clear p3a p3b p3c p4a p4b p4c p5a p5b p5c p3cn p3cm p4cn p4cm p5cn p5cm
  have su3 := Lib.hid (st2.out.step hb)
  have fz3b1 := Lib.hid (ft2b1.out.step hb)
  have fz3b2 := Lib.hid (ft2b2.out.step hb)
  clear hb
  obtain ⟨⟨p6a, p6b, p6c⟩, ⟨p7a, p7b, p7c⟩, ⟨p8a, p8b, p8c⟩, ⟨p9a, p9b, p9c⟩, -⟩ := su3.out.2.1
  have p6cn := Nat.ne_of_lt p6c; have p6cm := Nat.ne_of_gt p6c
  have p7cn := Nat.ne_of_lt p7c; have p7cm := Nat.ne_of_gt p7c
  have p8cn := Nat.ne_of_lt p8c; have p8cm := Nat.ne_of_gt p8c
  have p9cn := Nat.ne_of_lt p9c; have p9cm := Nat.ne_of_gt p9c
  obtain ⟨g3a, g3b, g3c⟩ := fz3b1.out
  have st3 := Lib.hid (LivesSt.set (su3.out.swap) HZ.out HL.out hlex.out (List.forall_mem_cons.2 ⟨Nat.ne_of_gt hxy.out, fun z hz => Nat.ne_of_lt (hordx.out z hz)⟩) x2 y2)
  have ft3b1 := Lib.hid (fz3b1.out.set w1.heap.size (.int .i64 x2) (.int .i64 y2))
  have ft3b2 := Lib.hid (fz3b2.out.set w1.heap.size (.int .i64 x2) (.int .i64 y2))
  go_wp2_with fail
  refine (r3_Sub an ad bn bd _).mono ?_
  rintro e w4 ⟨rfl, hb⟩
  clear p6a p6b p6c p7a p7b p7c p8a p8b p8c p9a p9b p9c p6cn p6cm p7cn p7cm p8cn p8cm p9cn p9cm g3a g3b g3c
  have su4 := Lib.hid (st3.out.step hb)
  have fz4b1 := Lib.hid (ft3b1.out.step hb)
  have fz4b2 := Lib.hid (ft3b2.out.step hb)
  clear hb
  obtain ⟨⟨p10a, p10b, p10c⟩, ⟨p11a, p11b, p11c⟩, ⟨p12a, p12b, p12c⟩, ⟨p13a, p13b, p13c⟩, -⟩ := su4.out.2.1
  have p10cn := Nat.ne_of_lt p10c; have p10cm := Nat.ne_of_gt p10c
  have p11cn := Nat.ne_of_lt p11c; have p11cm := Nat.ne_of_gt p11c
  have p12cn := Nat.ne_of_lt p12c; have p12cm := Nat.ne_of_gt p12c
  have p13cn := Nat.ne_of_lt p13c; have p13cm := Nat.ne_of_gt p13c
  obtain ⟨g4a, g4b, g4c⟩ := fz4b2.out
  have st4 := Lib.hid (LivesSt.set (su4.out.swap) HZ.out HL.out hley.out (List.forall_mem_cons.2 ⟨Nat.ne_of_lt hxy.out, fun z hz => Nat.ne_of_lt (Nat.lt_trans (hordx.out z hz) hxy.out)⟩) x2 y2)
  have ft4b1 := Lib.hid (fz4b1.out.set w2.heap.size (.int .i64 x2) (.int .i64 y2))
  have ft4b2 := Lib.hid (fz4b2.out.set w2.heap.size (.int .i64 x2) (.int .i64 y2))
  go_wp2_with fail
  refine (frac_Mul an ad bn bd _).mono ?_
  rintro e w5 ⟨rfl, hb⟩
  clear p10a p10b p10c p11a p11b p11c p12a p12b p12c p13a p13b p13c p10cn p10cm p11cn p11cm p12cn p12cm p13cn p13cm g4a g4b g4c
  have su5 := Lib.hid (st4.out.step hb)
  have fz5b1 := Lib.hid (ft4b1.out.step hb)
  have fz5b2 := Lib.hid (ft4b2.out.step hb)
  clear hb
  obtain ⟨⟨p14a, p14b, p14c⟩, ⟨p15a, p15b, p15c⟩, ⟨p16a, p16b, p16c⟩, ⟨p17a, p17b, p17c⟩, -⟩ := su5.out.2.1
  have p14cn := Nat.ne_of_lt p14c; have p14cm := Nat.ne_of_gt p14c
  have p15cn := Nat.ne_of_lt p15c; have p15cm := Nat.ne_of_gt p15c
  have p16cn := Nat.ne_of_lt p16c; have p16cm := Nat.ne_of_gt p16c
  have p17cn := Nat.ne_of_lt p17c; have p17cm := Nat.ne_of_gt p17c
  obtain ⟨g5a, g5b, g5c⟩ := fz5b1.out
  have st5 := Lib.hid (LivesSt.set (su5.out.swap) HZ.out HL.out hlex.out (List.forall_mem_cons.2 ⟨Nat.ne_of_gt hxy.out, fun z hz => Nat.ne_of_lt (hordx.out z hz)⟩) x3 y3)
  have ft5b1 := Lib.hid (fz5b1.out.set w1.heap.size (.int .i64 x3) (.int .i64 y3))
  have ft5b2 := Lib.hid (fz5b2.out.set w1.heap.size (.int .i64 x3) (.int .i64 y3))
  go_wp2_with fail
  refine (r3_Mul an ad bn bd _).mono ?_
  rintro e w6 ⟨rfl, hb⟩
  clear p14a p14b p14c p15a p15b p15c p16a p16b p16c p17a p17b p17c p14cn p14cm p15cn p15cm p16cn p16cm p17cn p17cm g5a g5b g5c
  have su6 := Lib.hid (st5.out.step hb)
  have fz6b1 := Lib.hid (ft5b1.out.step hb)
  have fz6b2 := Lib.hid (ft5b2.out.step hb)
  clear hb
  obtain ⟨⟨p18a, p18b, p18c⟩, ⟨p19a, p19b, p19c⟩, ⟨p20a, p20b, p20c⟩, ⟨p21a, p21b, p21c⟩, -⟩ := su6.out.2.1
  have p18cn := Nat.ne_of_lt p18c; have p18cm := Nat.ne_of_gt p18c
  have p19cn := Nat.ne_of_lt p19c; have p19cm := Nat.ne_of_gt p19c
  have p20cn := Nat.ne_of_lt p20c; have p20cm := Nat.ne_of_gt p20c
  have p21cn := Nat.ne_of_lt p21c; have p21cm := Nat.ne_of_gt p21c
  obtain ⟨g6a, g6b, g6c⟩ := fz6b2.out
  have st6 := Lib.hid (LivesSt.set (su6.out.swap) HZ.out HL.out hley.out (List.forall_mem_cons.2 ⟨Nat.ne_of_lt hxy.out, fun z hz => Nat.ne_of_lt (Nat.lt_trans (hordx.out z hz) hxy.out)⟩) x3 y3)
  have ft6b1 := Lib.hid (fz6b1.out.set w2.heap.size (.int .i64 x3) (.int .i64 y3))
  have ft6b2 := Lib.hid (fz6b2.out.set w2.heap.size (.int .i64 x3) (.int .i64 y3))
  go_wp2_with fail
  refine (frac_Div an ad bn bd _).mono ?_
  rintro e w7 ⟨rfl, hb⟩
  clear p18a p18b p18c p19a p19b p19c p20a p20b p20c p21a p21b p21c p18cn p18cm p19cn p19cm p20cn p20cm p21cn p21cm g6a g6b g6c
  have su7 := Lib.hid (st6.out.step hb)
  have fz7b1 := Lib.hid (ft6b1.out.step hb)
  have fz7b2 := Lib.hid (ft6b2.out.step hb)
  clear hb
  obtain ⟨⟨p22a, p22b, p22c⟩, ⟨p23a, p23b, p23c⟩, ⟨p24a, p24b, p24c⟩, ⟨p25a, p25b, p25c⟩, -⟩ := su7.out.2.1
  have p22cn := Nat.ne_of_lt p22c; have p22cm := Nat.ne_of_gt p22c
  have p23cn := Nat.ne_of_lt p23c; have p23cm := Nat.ne_of_gt p23c
  have p24cn := Nat.ne_of_lt p24c; have p24cm := Nat.ne_of_gt p24c
  have p25cn := Nat.ne_of_lt p25c; have p25cm := Nat.ne_of_gt p25c
  obtain ⟨g7a, g7b, g7c⟩ := fz7b1.out
  have st7 := Lib.hid (LivesSt.set (su7.out.swap) HZ.out HL.out hlex.out (List.forall_mem_cons.2 ⟨Nat.ne_of_gt hxy.out, fun z hz => Nat.ne_of_lt (hordx.out z hz)⟩) x4 y4)
  have ft7b1 := Lib.hid (fz7b1.out.set w1.heap.size (.int .i64 x4) (.int .i64 y4))
  have ft7b2 := Lib.hid (fz7b2.out.set w1.heap.size (.int .i64 x4) (.int .i64 y4))
  go_wp2_with fail
  refine (r3_Div an ad bn bd _).mono ?_
  rintro e w8 ⟨rfl, hb⟩
  clear p22a p22b p22c p23a p23b p23c p24a p24b p24c p25a p25b p25c p22cn p22cm p23cn p23cm p24cn p24cm p25cn p25cm g7a g7b g7c
  have su8 := Lib.hid (st7.out.step hb)
  have fz8b1 := Lib.hid (ft7b1.out.step hb)
  have fz8b2 := Lib.hid (ft7b2.out.step hb)
  clear hb
  obtain ⟨⟨p26a, p26b, p26c⟩, ⟨p27a, p27b, p27c⟩, ⟨p28a, p28b, p28c⟩, ⟨p29a, p29b, p29c⟩, -⟩ := su8.out.2.1
  have p26cn := Nat.ne_of_lt p26c; have p26cm := Nat.ne_of_gt p26c
  have p27cn := Nat.ne_of_lt p27c; have p27cm := Nat.ne_of_gt p27c
  have p28cn := Nat.ne_of_lt p28c; have p28cm := Nat.ne_of_gt p28c
  have p29cn := Nat.ne_of_lt p29c; have p29cm := Nat.ne_of_gt p29c
  obtain ⟨g8a, g8b, g8c⟩ := fz8b2.out
  have st8 := Lib.hid (LivesSt.set (su8.out.swap) HZ.out HL.out hley.out (List.forall_mem_cons.2 ⟨Nat.ne_of_lt hxy.out, fun z hz => Nat.ne_of_lt (Nat.lt_trans (hordx.out z hz) hxy.out)⟩) x4 y4)
  have ft8b1 := Lib.hid (fz8b1.out.set w2.heap.size (.int .i64 x4) (.int .i64 y4))
  have ft8b2 := Lib.hid (fz8b2.out.set w2.heap.size (.int .i64 x4) (.int .i64 y4))
  go_wp2_with fail
  have hlast := st8.out
  clear p26a p26b p26c p27a p27b p27c p28a p28b p28c p29a p29b p29c p26cn p26cm p27cn p27cm p28cn p28cm p29cn p29cm g8a g8b g8c
  refine forget_world (LivesSt w [(w2.heap.size, x4, y4), (w1.heap.size, x4, y4), (w.heap.size + 1, bn, bd), (w.heap.size, an, ad)]) hlast ?_
  clear hlast
  intro V hV
  go_region_held3 (fun V => (V.cell? ⟨w2.heap.size, 0, none⟩ = some (.int .i64 x4) ∧ V.cell? ⟨w2.heap.size, 1, none⟩ = some (.int .i64 y4)) ∧ (V.cell? ⟨w1.heap.size, 0, none⟩ = some (.int .i64 x4) ∧ V.cell? ⟨w1.heap.size, 1, none⟩ = some (.int .i64 y4)) ∧ (V.cell? ⟨w.heap.size + 1, 0, none⟩ = some (.int .i64 bn) ∧ V.cell? ⟨w.heap.size + 1, 1, none⟩ = some (.int .i64 bd)) ∧ (V.cell? ⟨w.heap.size, 0, none⟩ = some (.int .i64 an) ∧ V.cell? ⟨w.heap.size, 1, none⟩ = some (.int .i64 ad)) ∧ LivesSt w [(w2.heap.size, x4, y4), (w1.heap.size, x4, y4), (w.heap.size + 1, bn, bd), (w.heap.size, an, ad)] V) (first | exact (LivesSt.drew hV).conj4 | exact LivesSt.conj4 (by assumption)) (first | (go_at_call 22; refine (frac_Cmp _ _ _ _ _ (‹(_ ∧ _) ∧ (_ ∧ _) ∧ (_ ∧ _) ∧ (_ ∧ _) ∧ LivesSt _ _ _›.2.2.2.2).zero).mono ?_; rintro e w' ⟨rfl, hbb⟩; have hst := LivesSt.step (‹(_ ∧ _) ∧ (_ ∧ _) ∧ (_ ∧ _) ∧ (_ ∧ _) ∧ LivesSt _ _ _›.2.2.2.2) hbb) | (go_at_call 23; refine (r3_Cmp _ _ _ _ _).mono ?_; rintro e w' ⟨rfl, hbb⟩; have hst := LivesSt.step (‹(_ ∧ _) ∧ (_ ∧ _) ∧ (_ ∧ _) ∧ (_ ∧ _) ∧ LivesSt _ _ _›.2.2.2.2) hbb) | (go_at_call 13; refine (law_lives _ (‹(_ ∧ _) ∧ (_ ∧ _) ∧ (_ ∧ _) ∧ (_ ∧ _) ∧ LivesSt _ _ _›.2.2.2.2).zero (‹(_ ∧ _) ∧ (_ ∧ _) ∧ (_ ∧ _) ∧ (_ ∧ _) ∧ LivesSt _ _ _›.2.2.2.2).laid).mono ?_; rintro e w' ⟨rfl, hbb⟩; have hst := LivesSt.step (‹(_ ∧ _) ∧ (_ ∧ _) ∧ (_ ∧ _) ∧ (_ ∧ _) ∧ LivesSt _ _ _›.2.2.2.2) hbb))
  all_goals go_wp2_with fail
  all_goals go_ret
  all_goals exact ⟨rfl, (‹(_ ∧ _) ∧ (_ ∧ _) ∧ (_ ∧ _) ∧ (_ ∧ _) ∧ LivesSt _ _ _›.2.2.2.2).1⟩

end Go.Proofs.YtemmgehaddghfaaDoor
