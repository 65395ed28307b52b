/- THE LAW Order. -/
import Derived.Test.YtanclhcoiagcfaaDoorSchLLen
namespace Go.Proofs.YtanclhcoiagcfaaDoor
open Go.RowKit

theorem ordR_cases (a b : RuleP) : ordR a b = -1 ∨ ordR a b = 0 ∨ ordR a b = 1 := TotC.rule.rng a b
theorem three_boxes (w : World) (a b c : RuleP) : ∃ (g1 g2 g3 : Nat) (w4 : World), g1 = w.heap.size ∧ g2 = w.heap.size + 1 ∧ g3 = w.heap.size + 1 + 1 ∧ w4 = ((w.alloc (.cells #[.int .i64 a.kind, .int .i64 a.n, .string a.name, .string a.key, .string a.frm, .string a.tov] 23)).alloc (.cells #[.int .i64 b.kind, .int .i64 b.n, .string b.name, .string b.key, .string b.frm, .string b.tov] 23)).alloc (.cells #[.int .i64 c.kind, .int .i64 c.n, .string c.name, .string c.key, .string c.frm, .string c.tov] 23) ∧ CellsR w4 g1 0 a ∧ CellsR w4 g2 0 b ∧ CellsR w4 g3 0 c ∧ Ext w w4 := by
  obtain ⟨g1, w2, hg1, hw2, hb1, hx1, -⟩ := box_rule w a 23
  obtain ⟨g2, w3, hg2, hw3, hb2, hx2, -⟩ := box_rule w2 b 23
  obtain ⟨g3, w4, hg3, hw4, hb3, hx3, -⟩ := box_rule w3 c 23
  exact ⟨g1, g2, g3, w4, hg1, by rw [hg2, hw2]; go_simp, by rw [hg3, hw3, hw2]; go_simp, by rw [hw4, hw3, hw2], hb1.ext (hx2.trans hx3), hb2.ext hx3, hb3, hx1.trans (hx2.trans hx3)⟩
theorem ord_le_trans {a b c : RuleP} (h1 : ordR a b ≤ 0) (h2 : ordR b c ≤ 0) : ordR a c ≤ 0 := TotC.rule.trans a b c h1 h2



set_option maxRecDepth 100000 in
set_option maxHeartbeats 3200000 in
theorem l_Orderm (a b c : RuleP) (w : World) (hw : LaidS w) (hab : ordR a b = (-1)) : Calls Tryd.prog 3 #[a.val, b.val, c.val] w fun e w' => e = .returned (.bool true) ∧ Ext w w' := by
  have hba : ordR b a = 1 := by rw [ord_swap, hab]; rfl
  have hq : decide (a = b) = false := decide_eq_false (fun h => by subst h; rw [ord_irr] at hab; omega)
  have hyz : ¬ 0 < ordR b c → ordR a c ≤ 0 := fun h => ord_le_trans (b := b) (by omega) (by omega)
  have C1 := fun W => s_Order a b W
  have C2 := fun W => s_Order b a W
  have C3 := fun W => s_Order b c W
  have C4 := fun W => s_Order a c W
  have HPQ := fun W => (eql_rule a b W).trans (by rw [hq])
  rw [hab] at C1
  rw [hba] at C2
  generalize ordR b c = y at *
  generalize ordR a c = z at *
  obtain ⟨ak, an, anm, aky, afr, ato⟩ := a
  obtain ⟨bk, bn, bnm, bky, bfr, bto⟩ := b
  obtain ⟨ck, cn, cnm, cky, cfr, cto⟩ := c
  simp only [RuleP.val] at C1 C2 C3 C4
  simp only [RuleP.val]
  dsimp only at HPQ
  obtain ⟨g1, g2, g3, w4, hg1, hg2, hg3, hw4, hb1, hb2, hb3, hx⟩ := three_boxes w ⟨ak, an, anm, aky, afr, ato⟩ ⟨bk, bn, bnm, bky, bfr, bto⟩ ⟨ck, cn, cnm, cky, cfr, cto⟩
  have Hg1 := Lib.hid hg1
  have Hg2 := Lib.hid hg2
  have Hg3 := Lib.hid hg3
  have Hw4 := Lib.hid hw4
  clear hg1 hg2 hg3 hw4
  have hw' := hw.ext hx
  have HAB := Lib.hid C1
  have HBA := Lib.hid C2
  have HBC := Lib.hid C3
  have HAC := Lib.hid C4
  have HGR := guard_rule
  have HZ := Lib.hid hyz
  have HB1 := Lib.hid (fun V (e : Ext w4 V) => hb1.ext e)
  have HB2 := Lib.hid (fun V (e : Ext w4 V) => hb2.ext e)
  have HB3 := Lib.hid (fun V (e : Ext w4 V) => hb3.ext e)
  clear hb1 hb2 hb3 C1 C2 C3 C4 hw hab hba
  go_enter Tryd.func3, Tryd.ntmps3
  go_upto_region 1 with (fail)
  rw [← Hw4.out, ← Hg3.out, ← Hg2.out, ← Hg1.out]
  clear Hw4 Hg3 Hg2 Hg1
  obtain ⟨a0, a1, a2, a3, a4, a5⟩ := HB1.out w4 (Ext.refl _)
  dsimp only at a0 a1 a2 a3 a4 a5
  obtain ⟨b0, b1, b2, b3, b4, b5⟩ := HB2.out w4 (Ext.refl _)
  dsimp only at b0 b1 b2 b3 b4 b5
  obtain ⟨c0, c1, c2, c3, c4, c5⟩ := HB3.out w4 (Ext.refl _)
  dsimp only at c0 c1 c2 c3 c4 c5
  go_wp2_with fail
  refine (HAB.out w4).mono ?_
  rintro e w5 ⟨rfl, hE5⟩
  replace hE5 : Ext w4 w5 := hE5
  clear a0 a1 a2 a3 a4 a5 b0 b1 b2 b3 b4 b5 c0 c1 c2 c3 c4 c5
  obtain ⟨a0, a1, a2, a3, a4, a5⟩ := HB1.out w5 (hE5)
  dsimp only at a0 a1 a2 a3 a4 a5
  obtain ⟨b0, b1, b2, b3, b4, b5⟩ := HB2.out w5 (hE5)
  dsimp only at b0 b1 b2 b3 b4 b5
  obtain ⟨c0, c1, c2, c3, c4, c5⟩ := HB3.out w5 (hE5)
  dsimp only at c0 c1 c2 c3 c4 c5
  go_wp2_with fail
  refine (HBA.out w5).mono ?_
  rintro e w6 ⟨rfl, hE6⟩
  replace hE6 := hE5.trans hE6
  clear hE5
  clear a0 a1 a2 a3 a4 a5 b0 b1 b2 b3 b4 b5 c0 c1 c2 c3 c4 c5
  obtain ⟨a0, a1, a2, a3, a4, a5⟩ := HB1.out w6 (hE6)
  dsimp only at a0 a1 a2 a3 a4 a5
  obtain ⟨b0, b1, b2, b3, b4, b5⟩ := HB2.out w6 (hE6)
  dsimp only at b0 b1 b2 b3 b4 b5
  obtain ⟨c0, c1, c2, c3, c4, c5⟩ := HB3.out w6 (hE6)
  dsimp only at c0 c1 c2 c3 c4 c5
  by_cases hy : 0 < y
  · go_wp2_with fail
    refine (HBC.out w6).mono ?_
    rintro e w7 ⟨rfl, hE7⟩
    replace hE7 := hE6.trans hE7
    clear hE6
    have HLv := Lib.hid (l_lives w7 (hw'.ext hE7))
    go_wp2_with fail
    refine (HLv.out).mono ?_
    rintro e w8 ⟨rfl, hE8⟩
    go_wp2_with fail
    exact bodyPost_ret (v := .bool true) (by simp [results, Tryd.results3, go_sem] <;> rfl) rfl ⟨rfl, hx.trans (hE7.trans hE8)⟩
  · go_wp2_with fail
    refine (HBC.out w6).mono ?_
    rintro e w7 ⟨rfl, hE7⟩
    replace hE7 := hE6.trans hE7
    clear hE6
    have hz := HZ.out hy
    clear a0 a1 a2 a3 a4 a5 b0 b1 b2 b3 b4 b5 c0 c1 c2 c3 c4 c5
    obtain ⟨a0, a1, a2, a3, a4, a5⟩ := HB1.out w7 (hE7)
    dsimp only at a0 a1 a2 a3 a4 a5
    obtain ⟨b0, b1, b2, b3, b4, b5⟩ := HB2.out w7 (hE7)
    dsimp only at b0 b1 b2 b3 b4 b5
    obtain ⟨c0, c1, c2, c3, c4, c5⟩ := HB3.out w7 (hE7)
    dsimp only at c0 c1 c2 c3 c4 c5
    go_wp2_with fail
    refine (HAC.out w7).mono ?_
    rintro e w8 ⟨rfl, hE8⟩
    replace hE8 := hE7.trans hE8
    clear hE7
    have HLv := Lib.hid (l_lives w8 (hw'.ext hE8))
    go_wp2_with fail
    refine (HLv.out).mono ?_
    rintro e w9 ⟨rfl, hE9⟩
    go_wp2_with fail
    exact bodyPost_ret (v := .bool true) (by simp [results, Tryd.results3, go_sem] <;> rfl) rfl ⟨rfl, hx.trans (hE8.trans hE9)⟩

set_option maxRecDepth 100000 in
set_option maxHeartbeats 3200000 in
theorem l_Orderz (a b c : RuleP) (w : World) (hw : LaidS w) (hab : ordR a b = 0) : Calls Tryd.prog 3 #[a.val, b.val, c.val] w fun e w' => e = .returned (.bool true) ∧ Ext w w' := by
  have hba : ordR b a = 0 := by rw [ord_swap, hab]; rfl
  have hq : decide (a = b) = true := decide_eq_true ((TotC.rule.zero _ _).1 hab)
  have hyz : ¬ 0 < ordR b c → ordR a c ≤ 0 := fun h => ord_le_trans (b := b) (by omega) (by omega)
  have C1 := fun W => s_Order a b W
  have C2 := fun W => s_Order b a W
  have C3 := fun W => s_Order b c W
  have C4 := fun W => s_Order a c W
  have HPQ := fun W => (eql_rule a b W).trans (by rw [hq])
  rw [hab] at C1
  rw [hba] at C2
  generalize ordR b c = y at *
  generalize ordR a c = z at *
  obtain ⟨ak, an, anm, aky, afr, ato⟩ := a
  obtain ⟨bk, bn, bnm, bky, bfr, bto⟩ := b
  obtain ⟨ck, cn, cnm, cky, cfr, cto⟩ := c
  simp only [RuleP.val] at C1 C2 C3 C4
  simp only [RuleP.val]
  dsimp only at HPQ
  obtain ⟨g1, g2, g3, w4, hg1, hg2, hg3, hw4, hb1, hb2, hb3, hx⟩ := three_boxes w ⟨ak, an, anm, aky, afr, ato⟩ ⟨bk, bn, bnm, bky, bfr, bto⟩ ⟨ck, cn, cnm, cky, cfr, cto⟩
  have Hg1 := Lib.hid hg1
  have Hg2 := Lib.hid hg2
  have Hg3 := Lib.hid hg3
  have Hw4 := Lib.hid hw4
  clear hg1 hg2 hg3 hw4
  have hw' := hw.ext hx
  have HAB := Lib.hid C1
  have HBA := Lib.hid C2
  have HBC := Lib.hid C3
  have HAC := Lib.hid C4
  have HGR := guard_rule
  have HZ := Lib.hid hyz
  have HB1 := Lib.hid (fun V (e : Ext w4 V) => hb1.ext e)
  have HB2 := Lib.hid (fun V (e : Ext w4 V) => hb2.ext e)
  have HB3 := Lib.hid (fun V (e : Ext w4 V) => hb3.ext e)
  clear hb1 hb2 hb3 C1 C2 C3 C4 hw hab hba
  go_enter Tryd.func3, Tryd.ntmps3
  go_upto_region 1 with (fail)
  rw [← Hw4.out, ← Hg3.out, ← Hg2.out, ← Hg1.out]
  clear Hw4 Hg3 Hg2 Hg1
  obtain ⟨a0, a1, a2, a3, a4, a5⟩ := HB1.out w4 (Ext.refl _)
  dsimp only at a0 a1 a2 a3 a4 a5
  obtain ⟨b0, b1, b2, b3, b4, b5⟩ := HB2.out w4 (Ext.refl _)
  dsimp only at b0 b1 b2 b3 b4 b5
  obtain ⟨c0, c1, c2, c3, c4, c5⟩ := HB3.out w4 (Ext.refl _)
  dsimp only at c0 c1 c2 c3 c4 c5
  go_wp2_with fail
  refine (HAB.out w4).mono ?_
  rintro e w5 ⟨rfl, hE5⟩
  replace hE5 : Ext w4 w5 := hE5
  clear a0 a1 a2 a3 a4 a5 b0 b1 b2 b3 b4 b5 c0 c1 c2 c3 c4 c5
  obtain ⟨a0, a1, a2, a3, a4, a5⟩ := HB1.out w5 (hE5)
  dsimp only at a0 a1 a2 a3 a4 a5
  obtain ⟨b0, b1, b2, b3, b4, b5⟩ := HB2.out w5 (hE5)
  dsimp only at b0 b1 b2 b3 b4 b5
  obtain ⟨c0, c1, c2, c3, c4, c5⟩ := HB3.out w5 (hE5)
  dsimp only at c0 c1 c2 c3 c4 c5
  go_wp2_with fail
  refine (HBA.out w5).mono ?_
  rintro e w6 ⟨rfl, hE6⟩
  replace hE6 := hE5.trans hE6
  clear hE5
  clear a0 a1 a2 a3 a4 a5 b0 b1 b2 b3 b4 b5 c0 c1 c2 c3 c4 c5
  obtain ⟨a0, a1, a2, a3, a4, a5⟩ := HB1.out w6 (hE6)
  dsimp only at a0 a1 a2 a3 a4 a5
  obtain ⟨b0, b1, b2, b3, b4, b5⟩ := HB2.out w6 (hE6)
  dsimp only at b0 b1 b2 b3 b4 b5
  obtain ⟨c0, c1, c2, c3, c4, c5⟩ := HB3.out w6 (hE6)
  dsimp only at c0 c1 c2 c3 c4 c5
  by_cases hy : 0 < y
  · go_wp2_with fail
    refine (HBC.out w6).mono ?_
    rintro e w7 ⟨rfl, hE7⟩
    replace hE7 := hE6.trans hE7
    clear hE6
    have HLv := Lib.hid (l_lives w7 (hw'.ext hE7))
    go_wp2_with fail
    refine (HLv.out).mono ?_
    rintro e w8 ⟨rfl, hE8⟩
    go_wp2_with fail
    exact bodyPost_ret (v := .bool true) (by simp [results, Tryd.results3, go_sem] <;> rfl) rfl ⟨rfl, hx.trans (hE7.trans hE8)⟩
  · go_wp2_with fail
    refine (HBC.out w6).mono ?_
    rintro e w7 ⟨rfl, hE7⟩
    replace hE7 := hE6.trans hE7
    clear hE6
    have hz := HZ.out hy
    clear a0 a1 a2 a3 a4 a5 b0 b1 b2 b3 b4 b5 c0 c1 c2 c3 c4 c5
    obtain ⟨a0, a1, a2, a3, a4, a5⟩ := HB1.out w7 (hE7)
    dsimp only at a0 a1 a2 a3 a4 a5
    obtain ⟨b0, b1, b2, b3, b4, b5⟩ := HB2.out w7 (hE7)
    dsimp only at b0 b1 b2 b3 b4 b5
    obtain ⟨c0, c1, c2, c3, c4, c5⟩ := HB3.out w7 (hE7)
    dsimp only at c0 c1 c2 c3 c4 c5
    go_wp2_with fail
    refine (HAC.out w7).mono ?_
    rintro e w8 ⟨rfl, hE8⟩
    replace hE8 := hE7.trans hE8
    clear hE7
    have HLv := Lib.hid (l_lives w8 (hw'.ext hE8))
    go_wp2_with fail
    refine (HLv.out).mono ?_
    rintro e w9 ⟨rfl, hE9⟩
    go_wp2_with fail
    exact bodyPost_ret (v := .bool true) (by simp [results, Tryd.results3, go_sem] <;> rfl) rfl ⟨rfl, hx.trans (hE8.trans hE9)⟩

set_option maxRecDepth 100000 in
set_option maxHeartbeats 3200000 in
theorem l_Orderp (a b c : RuleP) (w : World) (hw : LaidS w) (hab : ordR a b = 1) : Calls Tryd.prog 3 #[a.val, b.val, c.val] w fun e w' => e = .returned (.bool true) ∧ Ext w w' := by
  have hba : ordR b a = (-1) := by rw [ord_swap, hab]
  have hq : decide (a = b) = false := decide_eq_false (fun h => by subst h; rw [ord_irr] at hab; omega)
  have _ := c
  have C1 := fun W => s_Order a b W
  have C2 := fun W => s_Order b a W
  have C3 := fun W => s_Order b c W
  have C4 := fun W => s_Order a c W
  have HPQ := fun W => (eql_rule a b W).trans (by rw [hq])
  rw [hab] at C1
  rw [hba] at C2
  generalize ordR b c = y at *
  generalize ordR a c = z at *
  obtain ⟨ak, an, anm, aky, afr, ato⟩ := a
  obtain ⟨bk, bn, bnm, bky, bfr, bto⟩ := b
  obtain ⟨ck, cn, cnm, cky, cfr, cto⟩ := c
  simp only [RuleP.val] at C1 C2 C3 C4
  simp only [RuleP.val]
  dsimp only at HPQ
  obtain ⟨g1, g2, g3, w4, hg1, hg2, hg3, hw4, hb1, hb2, hb3, hx⟩ := three_boxes w ⟨ak, an, anm, aky, afr, ato⟩ ⟨bk, bn, bnm, bky, bfr, bto⟩ ⟨ck, cn, cnm, cky, cfr, cto⟩
  have Hg1 := Lib.hid hg1
  have Hg2 := Lib.hid hg2
  have Hg3 := Lib.hid hg3
  have Hw4 := Lib.hid hw4
  clear hg1 hg2 hg3 hw4
  have hw' := hw.ext hx
  have HAB := Lib.hid C1
  have HBA := Lib.hid C2
  have HBC := Lib.hid C3
  have HAC := Lib.hid C4
  have HGR := guard_rule
  clear hq
  have HB1 := Lib.hid (fun V (e : Ext w4 V) => hb1.ext e)
  have HB2 := Lib.hid (fun V (e : Ext w4 V) => hb2.ext e)
  have HB3 := Lib.hid (fun V (e : Ext w4 V) => hb3.ext e)
  clear hb1 hb2 hb3 C1 C2 C3 C4 hw hab hba
  go_enter Tryd.func3, Tryd.ntmps3
  go_upto_region 1 with (fail)
  rw [← Hw4.out, ← Hg3.out, ← Hg2.out, ← Hg1.out]
  clear Hw4 Hg3 Hg2 Hg1
  obtain ⟨a0, a1, a2, a3, a4, a5⟩ := HB1.out w4 (Ext.refl _)
  dsimp only at a0 a1 a2 a3 a4 a5
  obtain ⟨b0, b1, b2, b3, b4, b5⟩ := HB2.out w4 (Ext.refl _)
  dsimp only at b0 b1 b2 b3 b4 b5
  obtain ⟨c0, c1, c2, c3, c4, c5⟩ := HB3.out w4 (Ext.refl _)
  dsimp only at c0 c1 c2 c3 c4 c5
  go_wp2_with fail
  refine (HAB.out w4).mono ?_
  rintro e w5 ⟨rfl, hE5⟩
  replace hE5 : Ext w4 w5 := hE5
  clear a0 a1 a2 a3 a4 a5 b0 b1 b2 b3 b4 b5 c0 c1 c2 c3 c4 c5
  obtain ⟨a0, a1, a2, a3, a4, a5⟩ := HB1.out w5 (hE5)
  dsimp only at a0 a1 a2 a3 a4 a5
  obtain ⟨b0, b1, b2, b3, b4, b5⟩ := HB2.out w5 (hE5)
  dsimp only at b0 b1 b2 b3 b4 b5
  obtain ⟨c0, c1, c2, c3, c4, c5⟩ := HB3.out w5 (hE5)
  dsimp only at c0 c1 c2 c3 c4 c5
  go_wp2_with fail
  refine (HBA.out w5).mono ?_
  rintro e w6 ⟨rfl, hE6⟩
  replace hE6 := hE5.trans hE6
  clear hE5
  clear a0 a1 a2 a3 a4 a5 b0 b1 b2 b3 b4 b5 c0 c1 c2 c3 c4 c5
  obtain ⟨a0, a1, a2, a3, a4, a5⟩ := HB1.out w6 (hE6)
  dsimp only at a0 a1 a2 a3 a4 a5
  obtain ⟨b0, b1, b2, b3, b4, b5⟩ := HB2.out w6 (hE6)
  dsimp only at b0 b1 b2 b3 b4 b5
  obtain ⟨c0, c1, c2, c3, c4, c5⟩ := HB3.out w6 (hE6)
  dsimp only at c0 c1 c2 c3 c4 c5
  have HLv := Lib.hid (l_lives w6 (hw'.ext hE6))
  go_wp2_with fail
  refine (HLv.out).mono ?_
  rintro e w7 ⟨rfl, hE7⟩
  go_wp2_with fail
  exact bodyPost_ret (v := .bool true) (by simp [results, Tryd.results3, go_sem] <;> rfl) rfl ⟨rfl, hx.trans (hE6.trans hE7)⟩

theorem l_Order (a b c : RuleP) (w : World) (hw : LaidS w) : Calls Tryd.prog 3 #[a.val, b.val, c.val] w fun e w' => e = .returned (.bool true) ∧ Ext w w' := by
  rcases ordR_cases a b with h | h | h
  · exact l_Orderm a b c w hw h
  · exact l_Orderz a b c w hw h
  · exact l_Orderp a b c w hw h

end Go.Proofs.YtanclhcoiagcfaaDoor
