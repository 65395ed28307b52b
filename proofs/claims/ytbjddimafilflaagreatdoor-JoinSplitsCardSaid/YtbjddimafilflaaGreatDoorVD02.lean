/- PARTS OF THE WALKS, joined: Lj. -/
import Derived.Test.YtbjddimafilflaaGreatDoorV00
import Derived.Test.YtbjddimafilflaaGreatDoorV01
import Derived.Test.YtbjddimafilflaaGreatDoorV02
import Derived.Test.YtbjddimafilflaaGreatDoorV03
import Derived.Test.YtbjddimafilflaaGreatDoorV04
import Derived.Test.YtbjddimafilflaaGreatDoorV05
import Derived.Test.YtbjddimafilflaaGreatDoorV06
import Derived.Test.YtbjddimafilflaaGreatDoorV07
import Derived.Test.YtbjddimafilflaaGreatDoorV08
import Derived.Test.YtbjddimafilflaaGreatDoorV09
import Derived.Test.YtbjddimafilflaaGreatDoorV10
import Derived.Test.YtbjddimafilflaaGreatDoorV11
import Derived.Test.YtbjddimafilflaaGreatDoorV12
import Derived.Test.YtbjddimafilflaaGreatDoorV13
import Derived.Test.YtbjddimafilflaaGreatDoorV14
import Derived.Test.YtbjddimafilflaaGreatDoorV15
import Derived.Test.YtbjddimafilflaaGreatDoorV16
import Derived.Test.YtbjddimafilflaaGreatDoorV17
import Derived.Test.YtbjddimafilflaaGreatDoorV18
import Derived.Test.YtbjddimafilflaaGreatDoorV19
import Derived.Test.YtbjddimafilflaaGreatDoorV20
import Derived.Test.YtbjddimafilflaaGreatDoorV21
import Derived.Test.YtbjddimafilflaaGreatDoorVD01
/- THE WALK over the law JoinSplits. -/
namespace Go.Proofs.YtbjddimafilflaaGreatDoor
open Go.RowKit Go.Sort
theorem CopyTo.rep (w : World) (ok : Nat → Prop) : ∀ n, CopyTo w ok (List.replicate n nullV) (List.replicate n (nullV.cells none 0))
  | 0 => CopyTo.nil _ _ _
  | n + 1 => CopyTo.cons (CopyTo.rep w ok n) nullV (Nat.le_refl _) (SliceR.nil _ _ _)
theorem rep_snoc (cs : List (List Value)) (j : Nat) : (cs ++ List.replicate (j + 1) (nullV.cells none 0)).flatten = (cs ++ List.replicate j (nullV.cells none 0)).flatten ++ nullV.cells none 0 := by
  rw [List.replicate_succ', ← List.append_assoc, List.flatten_append]; simp
theorem splits_wt {a b : Tab} (ca : chkT a = 0) (cb : chkT b = 0) (ha : Sm a) (hb : Sm b) (hra : ∀ r ∈ a.rows, szL r) (fn : TabFit (natT a b)) : ∀ r ∈ (natT a b).rows ++ (halfT a b false).rows.map (extJ a.cols b.cols), wtL r ≤ 8000000 ∧ szL r := fun r hr => by
  rcases List.mem_append.1 hr with h | h
  · exact ⟨Nat.le_trans (fn.2.2 r h).2 (by decide), (fn.2.2 r h).1⟩
  · obtain ⟨x, hx, rfl⟩ := List.mem_map.1 h
    have hm := half_mem ca cb hx
    exact ext_fit (Nat.le_trans hb.1 (by decide)) (hra x hm) (Nat.le_trans (wtR_mem hm) (Nat.le_trans ha.2.1 (by decide)))
set_option maxRecDepth 100000 in
set_option maxHeartbeats 6400000 in
theorem l_JoinSplits (a b : Tab) (ok ok' : Nat → Prop) (A A' B B' : Option Addr) (c c' d d' : Nat) (w : World) (hz : ZeroAt w) (ha : TabAt w ok A B a) (hb : TabAt w ok' A' B' b) (hsa : ∀ s ∈ a.cols, s.size ≤ maxLen) (hsb : ∀ s ∈ b.cols, s.size ≤ maxLen) (hra : ∀ r ∈ a.rows, szL r) (hrb : ∀ r ∈ b.rows, szL r) (hcp : a.cols.length ≤ c) (hcp' : b.cols.length ≤ c') :
    Calls Tryz.prog 8 #[.agg #[.slice A a.cols.length c, .slice B a.rows.length d], .agg #[.slice A' b.cols.length c', .slice B' b.rows.length d']] w fun e w' => e = .returned (.bool true) ∧ Ext w w' := by
  obtain ⟨q, w2, hq, hw2, q0, q1, p0, p1, hxw⟩ := box_tab2 w A B A' B' a.cols.length c a.rows.length d b.cols.length c' b.rows.length d' 25 25
  have HAL := Lib.hid (fun W (e : Ext w2 W) => l_alive W (hz.ext (hxw.trans e)))
  have HZ := Lib.hid (hz.ext hxw)
  have HS1 := Lib.hid (fun W (e : Ext w2 W) => l_small a ok A B c d W (ha.ext (hxw.trans e)) hra)
  have HK1 := Lib.hid (fun W (e : Ext w2 W) => r_Check a ok A B c d W (ha.ext (hxw.trans e)) hcp)
  have HT1 := Lib.hid (ha.ext hxw)
  have HR1 := Lib.hid hra
  have HM1 := Lib.hid hsa
  have hml1 := ha.rows.len
  have HS2 := Lib.hid (fun W (e : Ext w2 W) => l_small b ok' A' B' c' d' W (hb.ext (hxw.trans e)) hrb)
  have HK2 := Lib.hid (fun W (e : Ext w2 W) => r_Check b ok' A' B' c' d' W (hb.ext (hxw.trans e)) hcp')
  have HT2 := Lib.hid (hb.ext hxw)
  have HR2 := Lib.hid hrb
  have HM2 := Lib.hid hsb
  have hml2 := hb.rows.len
  have HW2 := Lib.hid hw2
  have HG := Lib.hid hq
  clear ha hb hz hsa hsb hra hrb hcp hcp' hw2 hq
  obtain ⟨z1, hz1⟩ : ∃ z, z = chkT a := ⟨_, rfl⟩
  obtain ⟨z2, hz2⟩ : ∃ z, z = chkT b := ⟨_, rfl⟩
  rw [← hz1] at HK1
  rw [← hz2] at HK2
  have HZ1 := Lib.hid hz1
  have HZ2 := Lib.hid hz2
  clear hz1 hz2
  go_enter Tryz.func8, Tryz.ntmps8
  go_upto_region 1 with (fail)
  rw [← HW2.out, ← HG.out]
  clear HW2 HG
  go_wp2_with fail
  refine (HS1.out _ (Ext.refl _)).mono ?_
  rintro e m1 ⟨s1, rfl, hs1, hm1⟩
  have u0 := (hm1).cell q0
  have u1 := (hm1).cell q1
  have v0 := (hm1).cell p0
  have v1 := (hm1).cell p1
  cases s1
  · clear hs1
    go_wp2_with (go_at_call 11; ((with_reducible refine (HAL.out _ hm1).mono ?_); rintro e wE ⟨rfl, hxE⟩))
    go_ret
    exact ⟨rfl, hxw.trans (hm1.trans hxE)⟩
  have h1 := Lib.hid (hs1 rfl)
  clear hs1
  go_wp2_with fail
  refine (HS2.out _ hm1).mono ?_
  rintro e m2 ⟨s2, rfl, hs2, hm2⟩
  replace hm2 : Ext w2 m2 := hm1.trans hm2
  clear u0 u1 v0 v1
  have u0 := (hm2).cell q0
  have u1 := (hm2).cell q1
  have v0 := (hm2).cell p0
  have v1 := (hm2).cell p1
  cases s2
  · clear hs2
    go_wp2_with (go_at_call 11; ((with_reducible refine (HAL.out _ hm2).mono ?_); rintro e wE ⟨rfl, hxE⟩))
    go_ret
    exact ⟨rfl, hxw.trans (hm2.trans hxE)⟩
  have h2 := Lib.hid (hs2 rfl)
  clear hs2
  go_wp2_with fail
  refine (HK1.out _ hm2).mono ?_
  rintro e n1 ⟨rfl, hn1⟩
  replace hn1 : Ext w2 n1 := hm2.trans hn1
  clear u0 u1 v0 v1
  have u0 := (hn1).cell q0
  have u1 := (hn1).cell q1
  have v0 := (hn1).cell p0
  have v1 := (hn1).cell p1
  by_cases k1 : z1 = 0
  case neg =>
    go_wp2_with (go_at_call 11; ((with_reducible refine (HAL.out _ hn1).mono ?_); rintro e wE ⟨rfl, hxE⟩))
    go_ret
    exact ⟨rfl, hxw.trans (hn1.trans hxE)⟩
  subst k1
  go_wp2_with fail
  refine (HK2.out _ hn1).mono ?_
  rintro e n2 ⟨rfl, hn2⟩
  replace hn2 : Ext w2 n2 := hn1.trans hn2
  clear u0 u1 v0 v1
  have u0 := (hn2).cell q0
  have u1 := (hn2).cell q1
  have v0 := (hn2).cell p0
  have v1 := (hn2).cell p1
  by_cases k2 : z2 = 0
  case neg =>
    have kk : (z2 != 0) = true := by simp [k2]
    go_wp2_with (go_at_call 11; ((with_reducible refine (HAL.out _ hn2).mono ?_); rintro e wE ⟨rfl, hxE⟩))
    go_ret
    exact ⟨rfl, hxw.trans (hn2.trans hxE)⟩
  subst k2
  have FN := Lib.hid (natT_fit40 h1.out h2.out HR1.out HR2.out HZ1.out.symm HZ2.out.symm)
  have HC1 := Lib.hid (fun W (e : Ext w2 W) => j_Semi a b ok ok' A A' B B' c c' d d' W (HZ.out.ext e) (HT1.out.ext e) (HT2.out.ext e) (h1.out.fit HR1.out) (h2.out.fit HR2.out) HM1.out HM2.out)
  have HC2 := Lib.hid (fun W (e : Ext w2 W) => j_Anti a b ok ok' A A' B B' c c' d d' W (HZ.out.ext e) (HT1.out.ext e) (HT2.out.ext e) (h1.out.fit HR1.out) (h2.out.fit HR2.out) HM1.out HM2.out)
  have HC3 := Lib.hid (fun W (e : Ext w2 W) => j_Natural a b ok ok' A A' B B' c c' d d' W (HZ.out.ext e) (HT1.out.ext e) (HT2.out.ext e) (h1.out.fit HR1.out) (h2.out.fit HR2.out) HM1.out HM2.out)
  have HC4 := Lib.hid (fun W (e : Ext w2 W) => j_Left a b ok ok' A A' B B' c c' d d' W (HZ.out.ext e) (HT1.out.ext e) (HT2.out.ext e) (h1.out.fit HR1.out) (h2.out.fit HR2.out) HM1.out HM2.out)
  rw [errJ_ok HZ1.out.symm HZ2.out.symm] at HC1 HC2 HC3 HC4
  have HWT := Lib.hid (splits_wt HZ1.out.symm HZ2.out.symm h1.out h2.out HR1.out FN.out)
  have HSL := Lib.hid (splits_left HZ1.out.symm HZ2.out.symm)
  have HSB := Lib.hid (splits_bag HZ1.out.symm HZ2.out.symm)
  have hls := half_len HZ1.out.symm HZ2.out.symm true
  have hlt := half_len HZ1.out.symm HZ2.out.symm false
  have hln := FN.out.2.1
  have hla := h1.out.2.2
  have hca := h1.out.1
  have HNC := Lib.hid (show (natT a b).cols.length = a.cols.length + othN a.cols b.cols by rw [natT_ok HZ1.out.symm HZ2.out.symm]; exact cols_len _ _)
  have HMS := Lib.hid (fun r (h : r ∈ (halfT a b true).rows) => half_mem HZ1.out.symm HZ2.out.symm h)
  have HMT := Lib.hid (fun r (h : r ∈ (halfT a b false).rows) => half_mem HZ1.out.symm HZ2.out.symm h)
  have HWA := Lib.hid (fun r (h : r ∈ a.rows) => (And.intro (Nat.le_trans (wtR_mem h) (Nat.le_trans h1.out.2.1 (by decide))) (HR1.out r h) : wtL r ≤ 8000000 ∧ szL r))
  have hon : othN a.cols b.cols ≤ 10 := Nat.le_trans (othN_le _ _) h2.out.1
  have HTA := Lib.hid HT1.out.rows
  generalize halfT a b true = tS at *
  generalize halfT a b false = tT at *
  generalize natT a b = tN at *
  generalize leftT a b = tL at *
  clear FN HT1 HT2 HK1 HK2 HS1 HS2 HZ1 HZ2 HM1 HM2 HR1 HR2 h1 h2
  go_wp2_with fail
  refine (HC1.out _ hn2).mono ?_
  rintro e f1 ⟨A1x, B1x, c1x, d1x, rfl, -, -, T1x, hf1⟩
  have ef1 : Ext w2 f1 := hn2.trans hf1
  clear u0 u1 v0 v1
  have u0 := (ef1).cell q0
  have u1 := (ef1).cell q1
  have v0 := (ef1).cell p0
  have v1 := (ef1).cell p1
  have rf11 : q + 1 < f1.heap.size := block_lt_of_cell v0
  have rf10 : q < f1.heap.size := block_lt_of_cell u0
  go_upto_region 4 with (fail)
  obtain ⟨g1, y1, hg1, hV1, g10, g11, hxy1⟩ := box_tab f1 A1x B1x tS.cols.length c1x tS.rows.length d1x 25
  rw [← hV1, ← hg1]
  have ey1 : Ext w2 y1 := ef1.trans hxy1
  replace T1x := T1x.ext hxy1
  clear hg1 hV1 rf10 rf11 hf1
  clear u0 u1 v0 v1
  have u0 := (ey1).cell q0
  have u1 := (ey1).cell q1
  have v0 := (ey1).cell p0
  have v1 := (ey1).cell p1
  clear ef1 hxy1
  go_wp2_with fail
  refine (HC2.out _ ey1).mono ?_
  rintro e f2 ⟨A2x, B2x, c2x, d2x, rfl, -, -, T2x, hf2⟩
  have ef2 : Ext w2 f2 := ey1.trans hf2
  clear u0 u1 v0 v1
  have u0 := (ef2).cell q0
  have u1 := (ef2).cell q1
  have v0 := (ef2).cell p0
  have v1 := (ef2).cell p1
  have rf21 : q + 1 < f2.heap.size := block_lt_of_cell v0
  have rf20 : q < f2.heap.size := block_lt_of_cell u0
  replace g10 := hf2.cell g10
  replace g11 := hf2.cell g11
  have rg1f2 : g1 < f2.heap.size := block_lt_of_cell g10
  replace T1x := T1x.ext hf2
  go_upto_region 5 with (fail)
  obtain ⟨g2, y2, hg2, hV2, g20, g21, hxy2⟩ := box_tab f2 A2x B2x tT.cols.length c2x tT.rows.length d2x 25
  rw [← hV2, ← hg2]
  have ey2 : Ext w2 y2 := ef2.trans hxy2
  replace T2x := T2x.ext hxy2
  replace g10 := hxy2.cell g10
  replace g11 := hxy2.cell g11
  replace T1x := T1x.ext hxy2
  clear hg2 hV2 rf20 rf21 hf2 rg1f2
  clear u0 u1 v0 v1
  have u0 := (ey2).cell q0
  have u1 := (ey2).cell q1
  have v0 := (ey2).cell p0
  have v1 := (ey2).cell p1
  clear ef2 hxy2
  go_wp2_with fail
  refine (HC3.out _ ey2).mono ?_
  rintro e f3 ⟨A3x, B3x, c3x, d3x, rfl, -, -, T3x, hf3⟩
  have ef3 : Ext w2 f3 := ey2.trans hf3
  clear u0 u1 v0 v1
  have u0 := (ef3).cell q0
  have u1 := (ef3).cell q1
  have v0 := (ef3).cell p0
  have v1 := (ef3).cell p1
  have rf31 : q + 1 < f3.heap.size := block_lt_of_cell v0
  have rf30 : q < f3.heap.size := block_lt_of_cell u0
  replace g10 := hf3.cell g10
  replace g11 := hf3.cell g11
  have rg1f3 : g1 < f3.heap.size := block_lt_of_cell g10
  replace T1x := T1x.ext hf3
  replace g20 := hf3.cell g20
  replace g21 := hf3.cell g21
  have rg2f3 : g2 < f3.heap.size := block_lt_of_cell g20
  replace T2x := T2x.ext hf3
  go_upto_region 6 with (fail)
  obtain ⟨g3, y3, hg3, hV3, g30, g31, hxy3⟩ := box_tab f3 A3x B3x tN.cols.length c3x tN.rows.length d3x 25
  rw [← hV3, ← hg3]
  have ey3 : Ext w2 y3 := ef3.trans hxy3
  replace T3x := T3x.ext hxy3
  replace g10 := hxy3.cell g10
  replace g11 := hxy3.cell g11
  replace T1x := T1x.ext hxy3
  replace g20 := hxy3.cell g20
  replace g21 := hxy3.cell g21
  replace T2x := T2x.ext hxy3
  clear hg3 hV3 rf30 rf31 hf3 rg1f3 rg2f3
  clear u0 u1 v0 v1
  have u0 := (ey3).cell q0
  have u1 := (ey3).cell q1
  have v0 := (ey3).cell p0
  have v1 := (ey3).cell p1
  clear ef3 hxy3
  go_wp2_with fail
  refine (HC4.out _ ey3).mono ?_
  rintro e f4 ⟨A4x, B4x, c4x, d4x, rfl, -, -, T4x, hf4⟩
  have ef4 : Ext w2 f4 := ey3.trans hf4
  clear u0 u1 v0 v1
  have u0 := (ef4).cell q0
  have u1 := (ef4).cell q1
  have v0 := (ef4).cell p0
  have v1 := (ef4).cell p1
  have rf41 : q + 1 < f4.heap.size := block_lt_of_cell v0
  have rf40 : q < f4.heap.size := block_lt_of_cell u0
  replace g10 := hf4.cell g10
  replace g11 := hf4.cell g11
  have rg1f4 : g1 < f4.heap.size := block_lt_of_cell g10
  replace T1x := T1x.ext hf4
  replace g20 := hf4.cell g20
  replace g21 := hf4.cell g21
  have rg2f4 : g2 < f4.heap.size := block_lt_of_cell g20
  replace T2x := T2x.ext hf4
  replace g30 := hf4.cell g30
  replace g31 := hf4.cell g31
  have rg3f4 : g3 < f4.heap.size := block_lt_of_cell g30
  replace T3x := T3x.ext hf4
  go_upto_region 7 with (fail)
  obtain ⟨g4, y4, hg4, hV4, g40, g41, hxy4⟩ := box_tab f4 A4x B4x tL.cols.length c4x tL.rows.length d4x 25
  rw [← hV4, ← hg4]
  have ey4 : Ext w2 y4 := ef4.trans hxy4
  replace T4x := T4x.ext hxy4
  replace g10 := hxy4.cell g10
  replace g11 := hxy4.cell g11
  replace T1x := T1x.ext hxy4
  replace g20 := hxy4.cell g20
  replace g21 := hxy4.cell g21
  replace T2x := T2x.ext hxy4
  replace g30 := hxy4.cell g30
  replace g31 := hxy4.cell g31
  replace T3x := T3x.ext hxy4
  clear hg4 hV4 rf40 rf41 hf4 rg1f4 rg2f4 rg3f4
  clear u0 u1 v0 v1
  have u0 := (ey4).cell q0
  have u1 := (ey4).cell q1
  have v0 := (ey4).cell p0
  have v1 := (ey4).cell p1
  clear ef4 hxy4
  clear HC1 HC2 HC3 HC4
  have hnl : ¬ ((tN.cols.length : Int) < (a.cols.length : Int)) := by have := HNC.out; omega
  go_upto_region 9 with (fail)
  clear hnl
  have MKR1 := Lib.hid (fun V (e : Ext y4 V) => (⟨e.cell g11, e.cell g21, e⟩ : V.cell? ⟨g1, 1, none⟩ = some (.slice B1x tS.rows.length d1x) ∧ V.cell? ⟨g2, 1, none⟩ = some (.slice B2x tT.rows.length d2x) ∧ Ext y4 V))
  refine wp_region_held_drew (S := (fun V => V.cell? ⟨g1, 1, none⟩ = some (.slice B1x tS.rows.length d1x) ∧ V.cell? ⟨g2, 1, none⟩ = some (.slice B2x tT.rows.length d2x) ∧ Ext y4 V)) (by kernel_rfl) ?hs1 (fun hHeld => ?go1)
  case hs1 => (exact MKR1.out _ (by repeat (first | with_reducible exact Ext.refl _ | with_reducible assumption | with_reducible refine Ext.drew ?_ | with_reducible refine Ext.drewN ?_ _ | with_reducible refine Ext.alloc ?_ _)))
  refine wpAnyH_take (i := 1) (oi := ⟨(some 85), (.fieldAddr 25 (.tmp 5) 1), 0, "law.go:123", #[], none⟩) (v := ?v2) rfl (by kernel_rfl) (by kernel_rfl) (by kernel_rfl) (fun _ _ _ h => h) (Or.inl ⟨rfl, ?hy2⟩) hHeld ?rest2
  case hy2 => (intro w hSw; (try dsimp only at hSw); go_simp <;> first | with_reducible rfl | rw [if_neg (by omega)] | rw [if_pos (by omega)])
  (try simp only [Act.put]); (try simp only [List.setIfInBounds_toArray]); (try simp only [List.set_cons_succ]); (try simp only [List.set_cons_zero])
  refine wpAnyH_take (i := 2) (oi := ⟨(some 86), (.load 23 (.tmp 85)), 23, "law.go:123", #[⟨1, .data⟩], none⟩) (v := ?v3) rfl (by kernel_rfl) (by kernel_rfl) (by kernel_rfl) (fun _ _ _ h => h) (Or.inl ⟨rfl, ?hy3⟩) hHeld ?rest3
  case hy3 => (intro w hSw; (try dsimp only at hSw); go_simp <;> first | with_reducible rfl | rw [if_neg (by omega)] | rw [if_pos (by omega)])
  (try simp only [Act.put]); (try simp only [List.setIfInBounds_toArray]); (try simp only [List.set_cons_succ]); (try simp only [List.set_cons_zero])
  refine wpAnyH_take (i := 4) (oi := ⟨(some 88), (.fieldAddr 25 (.tmp 7) 1), 0, "law.go:123", #[], none⟩) (v := ?v4) rfl (by kernel_rfl) (by kernel_rfl) (by kernel_rfl) (fun _ _ _ h => h) (Or.inl ⟨rfl, ?hy4⟩) hHeld ?rest4
  case hy4 => (intro w hSw; (try dsimp only at hSw); go_simp <;> first | with_reducible rfl | rw [if_neg (by omega)] | rw [if_pos (by omega)])
  (try simp only [Act.put]); (try simp only [List.setIfInBounds_toArray]); (try simp only [List.set_cons_succ]); (try simp only [List.set_cons_zero])
  refine wpAnyH_take (i := 5) (oi := ⟨(some 89), (.load 23 (.tmp 88)), 23, "law.go:123", #[⟨4, .data⟩], none⟩) (v := ?v5) rfl (by kernel_rfl) (by kernel_rfl) (by kernel_rfl) (fun _ _ _ h => h) (Or.inl ⟨rfl, ?hy5⟩) hHeld ?rest5
  case hy5 => (intro w hSw; (try dsimp only at hSw); go_simp <;> first | with_reducible rfl | rw [if_neg (by omega)] | rw [if_pos (by omega)])
  (try simp only [Act.put]); (try simp only [List.setIfInBounds_toArray]); (try simp only [List.set_cons_succ]); (try simp only [List.set_cons_zero])
  refine wpAnyH_ready (rs := [0]) (by kernel_rfl) (by simp) ?_
  refine AllReadyH.cons (o := ⟨(some 84), (.buildSlice 23 0 #[]), 23, "law.go:123", #[], none⟩) rfl (fun K hK => ?step6x0) ?more6x0
  case more6x0 => exact AllReadyH.nil
  go_simp
  refine hK.out _ _ ?hS6x0 (fun hHeld6 => ?rest6x0)
  case hS6x0 => first | (exact MKR1.out _ (by repeat (first | with_reducible exact Ext.refl _ | with_reducible assumption | with_reducible refine Ext.drew ?_ | with_reducible refine Ext.drewN ?_ _ | with_reducible refine Ext.alloc ?_ _))) | ((try dsimp only); (exact MKR1.out _ (by repeat (first | with_reducible exact Ext.refl _ | with_reducible assumption | with_reducible refine Ext.drew ?_ | with_reducible refine Ext.drewN ?_ _ | with_reducible refine Ext.alloc ?_ _))))
  clear hK K
  clear hHeld
  (try simp only [Act.put]); (try simp only [List.setIfInBounds_toArray]); (try simp only [List.set_cons_succ]); (try simp only [List.set_cons_zero])
  refine wpAnyH_ready (rs := [3]) (by kernel_rfl) (by simp) ?_
  refine AllReadyH.cons (o := ⟨(some 87), (.call { callee := (.builtin .append), args := #[(.tmp 84), (.tmp 86)], argTypes := #[23, 23] }), 23, "law.go:123", #[⟨0, .data⟩, ⟨2, .data⟩], none⟩) rfl (fun K hK => ?step7x0) ?more7x0
  case more7x0 => exact AllReadyH.nil
  (refine step_catR rfl (.tmp 84) (.tmp 86) rfl y4.heap.size (fun _ => True) _ [] tS.rows B1x d1x rfl (OwnRows.ext (own_made _ _) (by repeat (first | with_reducible exact Ext.refl _ | with_reducible assumption | with_reducible refine Ext.drew ?_ | with_reducible refine Ext.drewN ?_ _ | with_reducible refine Ext.alloc ?_ _))) (by simp) rfl ((T1x.rows.bnd.ext (by repeat (first | with_reducible exact Ext.refl _ | with_reducible assumption | with_reducible refine Ext.drew ?_ | with_reducible refine Ext.drewN ?_ _ | with_reducible refine Ext.alloc ?_ _))).to (fun b hb => ⟨trivial, fun e => by have h1 := hb.2; have h2 := Option.some.inj e; simp at h2; omega⟩)) (by simp; omega) ?_; intro v5 w5 hO5 hg5; have hx5 : Ext y4 w5 := Ext.grown (a := y4) (by repeat (first | with_reducible exact Ext.refl _ | with_reducible assumption | with_reducible refine Ext.drew ?_ | with_reducible refine Ext.drewN ?_ _ | with_reducible refine Ext.alloc ?_ _)) hg5 (fun k hk => by have h2 := Option.some.inj hk; simp at h2; omega); clear hg5)
  refine hK.out _ _ ?hS7x0 (fun hHeld7 => ?rest7x0)
  case hS7x0 => first | (exact MKR1.out _ (by repeat (first | with_reducible exact Ext.refl _ | with_reducible assumption | with_reducible refine Ext.drew ?_ | with_reducible refine Ext.drewN ?_ _ | with_reducible refine Ext.alloc ?_ _))) | ((try dsimp only); (exact MKR1.out _ (by repeat (first | with_reducible exact Ext.refl _ | with_reducible assumption | with_reducible refine Ext.drew ?_ | with_reducible refine Ext.drewN ?_ _ | with_reducible refine Ext.alloc ?_ _))))
  clear hK K
  clear hHeld6
  (try simp only [Act.put]); (try simp only [List.setIfInBounds_toArray]); (try simp only [List.set_cons_succ]); (try simp only [List.set_cons_zero])
  refine wpAnyH_ready (rs := [6]) (by kernel_rfl) (by simp) ?_
  refine AllReadyH.cons (o := ⟨(some 90), (.call { callee := (.builtin .append), args := #[(.tmp 87), (.tmp 89)], argTypes := #[23, 23] }), 23, "law.go:123", #[⟨3, .data⟩, ⟨5, .data⟩, ⟨3, .chain⟩], none⟩) rfl (fun K hK => ?step8x0) ?more8x0
  case more8x0 => exact AllReadyH.nil
  (refine step_catR rfl (.tmp 87) (.tmp 89) rfl y4.heap.size (fun _ => True) v5 ([] ++ tS.rows) tT.rows B2x d2x rfl (OwnRows.ext hO5 (by repeat (first | with_reducible exact Ext.refl _ | with_reducible assumption | with_reducible refine Ext.drew ?_ | with_reducible refine Ext.drewN ?_ _ | with_reducible refine Ext.alloc ?_ _))) (Ext.le (a := y4) (by repeat (first | with_reducible exact Ext.refl _ | with_reducible assumption | with_reducible refine Ext.drew ?_ | with_reducible refine Ext.drewN ?_ _ | with_reducible refine Ext.alloc ?_ _))) rfl ((T2x.rows.bnd.ext (by repeat (first | with_reducible exact Ext.refl _ | with_reducible assumption | with_reducible refine Ext.drew ?_ | with_reducible refine Ext.drewN ?_ _ | with_reducible refine Ext.alloc ?_ _))).to (fun b hb => ⟨trivial, fun e => by have h1 := hb.2; have h2 := (hO5.lt e.symm).1; omega⟩)) (by simp; omega) ?_; intro v6 w6 hO6 hg6; have hx6 : Ext y4 w6 := Ext.grown (a := y4) (by repeat (first | with_reducible exact Ext.refl _ | with_reducible assumption | with_reducible refine Ext.drew ?_ | with_reducible refine Ext.drewN ?_ _ | with_reducible refine Ext.alloc ?_ _)) hg6 (fun k hk => (hO5.lt hk).1); clear hg6; obtain ⟨A6, c6, rfl, hc6, hR6⟩ := hO6.rows (by simp; omega); clear hO6)
  refine hK.out _ _ ?hS8x0 (fun hHeld8 => ?rest8x0)
  case hS8x0 => first | (exact MKR1.out _ (by repeat (first | with_reducible exact Ext.refl _ | with_reducible assumption | with_reducible refine Ext.drew ?_ | with_reducible refine Ext.drewN ?_ _ | with_reducible refine Ext.alloc ?_ _))) | ((try dsimp only); (exact MKR1.out _ (by repeat (first | with_reducible exact Ext.refl _ | with_reducible assumption | with_reducible refine Ext.drew ?_ | with_reducible refine Ext.drewN ?_ _ | with_reducible refine Ext.alloc ?_ _))))
  clear hK K
  clear hHeld7
  (try simp only [Act.put]); (try simp only [List.setIfInBounds_toArray]); (try simp only [List.set_cons_succ]); (try simp only [List.set_cons_zero])
  refine wpAnyH_take (i := 7) (oi := ⟨(some 13), (.assign (.tmp 90)), 23, "law.go:123", #[⟨6, .data⟩, ⟨6, .chain⟩, ⟨0, .phase⟩, ⟨1, .phase⟩, ⟨2, .phase⟩, ⟨3, .phase⟩, ⟨4, .phase⟩, ⟨5, .phase⟩, ⟨6, .phase⟩], none⟩) (v := ?v9) rfl (by kernel_rfl) (by kernel_rfl) (by kernel_rfl) (fun _ _ _ h => h) (Or.inl ⟨rfl, ?hy9⟩) hHeld8 ?rest9
  case hy9 => (intro w hSw; (try dsimp only at hSw); go_simp <;> first | with_reducible rfl | rw [if_neg (by omega)] | rw [if_pos (by omega)])
  (try simp only [Act.put]); (try simp only [List.setIfInBounds_toArray]); (try simp only [List.set_cons_succ]); (try simp only [List.set_cons_zero])
  refine wpAnyH_done (by kernel_rfl) ?_ _
  clear hHeld8
  clear MKR1
  rw [List.nil_append] at hR6 hc6
  have HR6 := Lib.hid hR6
  clear hR6 hc6 hO5 hx5 T1x g10 g11 g20 g40
  replace u0 := hx6.cell u0
  replace u1 := hx6.cell u1
  replace g21 := hx6.cell g21
  replace g30 := hx6.cell g30
  replace g31 := hx6.cell g31
  replace g41 := hx6.cell g41
  have HT2 := Lib.hid (T2x.rows.bnd.ext hx6)
  have HT3 := Lib.hid (T3x.rows.bnd.ext hx6)
  have HT4 := Lib.hid (T4x.rows.ext hx6)
  have ex6 : Ext w2 w6 := ey4.trans hx6
  have hy46 := hx6.le
  have rg3 : g3 < w6.heap.size := block_lt_of_cell g31
  clear T2x T3x T4x v0 v1 hx6
  go_wp2_with (at_builtin; refine own_catR rfl (.tmp 91) (.tmp 93) rfl w6.heap.size (fun _ => True) _ [] tN.rows B3x d3x rfl (own_made w6 _) (by simp) rfl ((HT3.out.ext ((Ext.refl _).alloc _)).to (fun b hb => ⟨trivial, fun e => by have h1 := hb.2; have h2 := Option.some.inj e; simp at h2; omega⟩)) (by simp; omega) ?_; intro v7 w7 hO7 hg7; have hx7 : Ext w6 w7 := ((Ext.refl _).alloc _).grown hg7 (fun k hk => by have h2 := Option.some.inj hk; simp at h2; omega); have s21 := hx7.cell g21; clear hg7)
  have HST := Lib.hid (show OwnRows w7 w6.heap.size (fun _ => True) v7 (tN.rows ++ (tT.rows.take 0).map (extJ a.cols b.cols)) by simpa using hO7)
  have HX7 := Lib.hid hx7
  clear hO7 s21 hx7 rg3 HT3
  go_loopw [14, 98] (fun v u W => ∃ (z0 : Value) (k : Nat), z0 = v ∧ u = .int .i64 k ∧ k ≤ tT.rows.length ∧ Hid (OwnRows W w6.heap.size (fun _ => True) v (tN.rows ++ (tT.rows.take k).map (extJ a.cols b.cols))) ∧ Hid (Ext w6 W)) (fun _ u _ => tT.rows.length - (intOf u).toNat)
  case atStart => exact ⟨_, 0, rfl, rfl, Nat.zero_le _, HST, HX7⟩
  case round =>
    clear HST HX7
    obtain ⟨z0, k, hz0, rfl, hk, hown, hE⟩ := hrel
    subst hz0
    have t0 := hE.out.cell u0
    have t1 := hE.out.cell u1
    have t30 := hE.out.cell g30
    have t41 := hE.out.cell g41
    by_cases hltk : k < tT.rows.length
    · obtain ⟨bb, ob, rfl, hc⟩ := HT2.out.2 (by omega)
      obtain ⟨-, Ax, ex, h5, hlex, hvx⟩ := hc k hltk
      rw [Nat.mul_one] at h5
      have d0 := hE.out.cell h5
      obtain ⟨cs, hcl, hct, hcc⟩ := (hvx.ext hE.out).flat
      have HCL := Lib.hid (show cs.flatten.length = tT.rows[k].length * 5 by rw [flatten_len hct.size, hcl])
      have HC1 := Lib.hid hct.one
      have HCC := Lib.hid hcc
      have HCT := Lib.hid hct
      have HXL := Lib.hid hcl
      have hA0 := Lib.hid (fun e => hvx.none_ e)
      have HSN := Lib.hid (show (tT.rows.take (k + 1)).map (extJ a.cols b.cols) = (tT.rows.take k).map (extJ a.cols b.cols) ++ [extJ a.cols b.cols tT.rows[k]] by rw [List.take_succ_eq_append_getElem hltk, List.map_append, List.map_cons, List.map_nil])
      have HXE := Lib.hid (show extJ a.cols b.cols tT.rows[k] = tT.rows[k] ++ List.replicate (othN a.cols b.cols) nullV from rfl)
      have HXW := Lib.hid (wtL_len tT.rows[k])
      have hxw2 := (HWA.out _ (HMT.out _ (List.getElem_mem hltk))).1
      have hsm : (tN.rows ++ (tT.rows.take k).map (extJ a.cols b.cols)).length ≤ 8000000 := by rw [List.length_append, List.length_map, List.length_take]; omega
      have hbx : ∀ b, okN (fun b => y1.heap.size ≤ b) y4 b → b < w6.heap.size := fun b hb => by have := hb.2; omega
      have HBX := Lib.hid hbx
      have hxl2 : tT.rows[k].length ≤ 8000000 := Nat.le_trans HXW.out hxw2
      have HOWN := Lib.hid (fun W (e : Ext wr W) => (hown.out.ext e))
      have HLT := Lib.hid (fun g (h : z0.ownBlock = some g) => hown.out.lt h)
      have hE' := hE.out
      have hnc := Nat.le_of_eq HNC.out
      have hnc' := Nat.le_of_eq HNC.out.symm
      clear HNC
      clear hc h5 hvx hct hcc hcl hxw2 HXW hbx hown hE
      generalize extJ a.cols b.cols tT.rows[k] = xe at *
      generalize othN a.cols b.cols = n0 at *
      generalize tT.rows[k] = x at *
      obtain ⟨acc, hacc⟩ : ∃ acc, acc = tN.rows ++ (tT.rows.take k).map (extJ a.cols b.cols) := ⟨_, rfl⟩
      rw [← hacc] at HOWN hsm
      have HACC := Lib.hid hacc
      clear hacc
      go_wp2_with (at_builtin; refine own_appendA T_rowV rfl (.tmp 102) (.tmp 103) rfl wr _ 0 [] rfl (World.ownsRow_made wr #[] 0 (Nat.le_refl _) (by unfold maxLen; omega) rfl) ((Ext.refl _).alloc _) Ax x.length ex cs.flatten rfl hA0.out HCL.out (fun ad e j u hu => ((Ext.refl wr).alloc _).cell (HCC.out ad e j u hu)) HC1.out (by omega) (by decide) ?_; intro v8 w8 hO8 hx8; have s30 := hx8.cell t30; have s0 := hx8.cell t0)
      obtain ⟨wR, hwR⟩ : ∃ V, V = wr := ⟨_, rfl⟩
      subst hwR
      go_loopw [17, 112] (fun z u W => ∃ (z1 : Value) (j : Nat), z1 = z ∧ u = .int .i64 j ∧ j ≤ n0 ∧ Hid (W.ownsRow wR.heap.size 40 5 z (x.length + j) (cs ++ List.replicate j (nullV.cells none 0)).flatten) ∧ Hid (Ext wR W)) (fun _ u _ => n0 - (intOf u).toNat)
      case atStart => exact ⟨_, 0, rfl, rfl, Nat.zero_le _, Lib.hid (by simpa using hO8), Lib.hid hx8⟩
      case round =>
        clear hO8 hx8 s30 s0
        obtain ⟨z1, j, hz1, rfl, hj, hown, hE⟩ := hrel
        subst hz1
        by_cases hlj : j < n0
        · have hown' := hown.out
          have hE2 := hE.out
          clear hown hE
          go_wp2_with (at_builtin; refine own_pushF T_rowV rfl (.tmp 114) (.tmp 116) rfl wR wr _ (x.length + j) _ (nullV.cells none 0) rfl hown' hE2 rfl rfl rfl (Val.cells_one _ _ _) (by omega) (by decide) ?_; intro v9 w9 hO9 hE9 hF9)
          clear hF9
          go_roundw
          case rel => exact ⟨_, j + 1, rfl, by go_num, by omega, Lib.hid (by rw [rep_snoc]; exact hO9), Lib.hid hE9⟩
          case measure => simp [intOf]; omega
        · have hjl : j = n0 := by omega
          subst hjl
          have hF := ((HCT.out.app (ok := okN (fun b => y1.heap.size ≤ b) y4) (CopyTo.rep wR (okN (fun b => y1.heap.size ≤ b) y4) j) HXL.out (fun _ h => h) (fun _ h => h)).ext hE.out).fin (ok' := fun b => b < w6.heap.size ∨ wR.heap.size ≤ b) (by rw [List.length_append, List.length_replicate]; exact hown.out) (by rw [List.length_append, List.length_append, List.length_replicate, List.length_replicate, HXL.out]) (by rw [List.length_append, List.length_replicate]; omega) (fun b h => .inl (HBX.out b h)) (fun _ h => .inr h)
          rw [← HXE.out] at hF
          obtain ⟨A9, c9, rfl, hc9, hV9⟩ := hF
          have hOW := HOWN.out wr hE.out
          have hE2 := hE'.trans hE.out
          have hER := hE.out
          clear hown hE
          go_wp2_with (at_builtin; refine own_pushR rfl (.tmp 119) (.tmp 121) rfl w6.heap.size (fun _ => True) wr z0 acc xe A9 c9 rfl hOW hE2.le rfl rfl hc9 (hV9.to (fun b hb => ⟨trivial, fun e => by have h1 := HLT.out b e.symm; rcases hb with h | h <;> omega⟩)) hsm ?_; intro v9 w9 hO9 hg9)
          have HO9 := Lib.hid (show OwnRows w9 w6.heap.size (fun _ => True) v9 (tN.rows ++ (tT.rows.take (k + 1)).map (extJ a.cols b.cols)) by rw [HSN.out, ← List.append_assoc, ← HACC.out]; exact hO9)
          have HE9 := Lib.hid (hE2.grown hg9 (fun g hg => (HLT.out g hg).1))
          clear hO9 hg9
          go_roundw
          case rel => exact ⟨_, k + 1, rfl, by go_num, by omega, HO9, HE9⟩
          case measure => simp [intOf]; omega
    · have hkl : k = tT.rows.length := by omega
      obtain ⟨R, hR⟩ : ∃ R, R = tN.rows ++ tT.rows.map (extJ a.cols b.cols) := ⟨_, rfl⟩
      have HOR := Lib.hid (show OwnRows wr w6.heap.size (fun _ => True) z0 R by have := hown.out; rw [hkl, List.take_length, ← hR] at this; exact this)
      have hRl : R.length ≤ 8000000 := by rw [hR, List.length_append, List.length_map]; omega
      rw [← hR] at HWT HSL
      obtain ⟨A9, c9, rfl, hc9, hR9⟩ := HOR.out.rows hRl
      have hLL : tL.rows.length = R.length := by rw [HSL.out, sortO_len TotC.row]
      have HSR := Lib.hid (fun W (e : Ext wr W) => (by
        have h := r4_SortRows R _ A9 c9 W hRl HWT.out (hR9.ext e)
        rw [← HSL.out, ← hLL] at h
        exact h : Calls Tryz.prog 15 #[.slice A9 tL.rows.length c9] W fun e w' => ∃ A' c', e = .returned (.slice A' tL.rows.length c') ∧ tL.rows.length ≤ c' ∧ Rows w' (fun b => W.heap.size ≤ b) A' tL.rows ∧ Ext W w'))
      rw [← hLL]
      have HSZ := Lib.hid (fun r (h : r ∈ tL.rows) => (by rw [HSL.out] at h; exact (HWT.out r (sortO_mem h)).2 : szL r))
      have HSM := Lib.hid (fun W ok2 A2 c2 (e : Ext w6 W) (h : Rows W ok2 A2 tL.rows) => (by
        have h := r_SameRows tL.rows tL.rows _ ok2 B4x A2 d4x c2 W (HT4.out.ext e) h HSZ.out HSZ.out
        rw [decide_eq_true rfl] at h
        exact h : Calls Tryz.prog 26 #[.slice B4x tL.rows.length d4x, .slice A2 tL.rows.length c2] W fun e w' => e = .returned (.bool true) ∧ Ext W w'))
      have HBG := Lib.hid (fun W (e : Ext w6 W) => (by
        have h := r4_SameBag (tS.rows ++ tT.rows) a.rows _ ok A6 B c6 d W (HR6.out.ext e) (HTA.out.ext (ex6.trans e)) (by rw [List.length_append]; omega) (by omega) (fun r hr => HWA.out r ((List.mem_append.1 hr).elim (HMS.out r) (HMT.out r))) HWA.out
        rw [decide_eq_true HSB.out, List.length_append] at h
        exact h : Calls Tryz.prog 25 #[.slice A6 (tS.rows.length + tT.rows.length) c6, .slice B a.rows.length d] W fun e w' => e = .returned (.bool true) ∧ Ext W w'))
      have hE2 := hE.out
      clear hown hE HOR hR9 HSL HWT hR hRl hLL HR6 hc9 HT2 HT4 HTA HWA HMS HMT HSB
      go_upto_region 21 with (fail)
      have MKR2 := Lib.hid (fun V (e : Ext wr V) => (⟨e.cell t1, e.cell t41, e⟩ : V.cell? ⟨q, 1, none⟩ = some (.slice B a.rows.length d) ∧ V.cell? ⟨g4, 1, none⟩ = some (.slice B4x tL.rows.length d4x) ∧ Ext wr V))
      refine wp_region_held_drew (S := (fun V => V.cell? ⟨q, 1, none⟩ = some (.slice B a.rows.length d) ∧ V.cell? ⟨g4, 1, none⟩ = some (.slice B4x tL.rows.length d4x) ∧ Ext wr V)) (by kernel_rfl) ?hs10 (fun hHeld => ?go10)
      case hs10 => (exact MKR2.out _ (by repeat (first | with_reducible exact Ext.refl _ | with_reducible assumption | with_reducible refine Ext.drew ?_ | with_reducible refine Ext.drewN ?_ _ | with_reducible refine Ext.alloc ?_ _)))
      refine wpAnyH_take (i := 0) (oi := ⟨(some 124), (.move (.tmp 13)), 23, "law.go:132", #[], none⟩) (v := ?v11) rfl (by kernel_rfl) (by kernel_rfl) (by kernel_rfl) (fun _ _ _ h => h) (Or.inl ⟨rfl, ?hy11⟩) hHeld ?rest11
      case hy11 => (intro w hSw; (try dsimp only at hSw); go_simp <;> first | with_reducible rfl | rw [if_neg (by omega)] | rw [if_pos (by omega)])
      (try simp only [Act.put]); (try simp only [List.setIfInBounds_toArray]); (try simp only [List.set_cons_succ]); (try simp only [List.set_cons_zero])
      refine wpAnyH_take (i := 1) (oi := ⟨(some 125), (.fieldAddr 25 (.tmp 2) 1), 0, "law.go:132", #[], none⟩) (v := ?v12) rfl (by kernel_rfl) (by kernel_rfl) (by kernel_rfl) (fun _ _ _ h => h) (Or.inl ⟨rfl, ?hy12⟩) hHeld ?rest12
      case hy12 => (intro w hSw; (try dsimp only at hSw); go_simp <;> first | with_reducible rfl | rw [if_neg (by omega)] | rw [if_pos (by omega)])
      (try simp only [Act.put]); (try simp only [List.setIfInBounds_toArray]); (try simp only [List.set_cons_succ]); (try simp only [List.set_cons_zero])
      refine wpAnyH_take (i := 2) (oi := ⟨(some 126), (.load 23 (.tmp 125)), 23, "law.go:132", #[⟨1, .data⟩], none⟩) (v := ?v13) rfl (by kernel_rfl) (by kernel_rfl) (by kernel_rfl) (fun _ _ _ h => h) (Or.inl ⟨rfl, ?hy13⟩) hHeld ?rest13
      case hy13 => (intro w hSw; (try dsimp only at hSw); go_simp <;> first | with_reducible rfl | rw [if_neg (by omega)] | rw [if_pos (by omega)])
      (try simp only [Act.put]); (try simp only [List.setIfInBounds_toArray]); (try simp only [List.set_cons_succ]); (try simp only [List.set_cons_zero])
      refine wpAnyH_ready (rs := [3]) (by kernel_rfl) (by simp) ?_
      refine AllReadyH.cons (o := ⟨(some 127), (.call { callee := (.value (.func 25)), args := #[(.tmp 124), (.tmp 126)], argTypes := #[23, 23] }), 4, "law.go:132", #[⟨0, .data⟩, ⟨2, .data⟩], none⟩) rfl (fun K hK => ?step14x0) ?more14x0
      case more14x0 => exact AllReadyH.nil
      go_simp
      (refine (HBG.out _ (hE2.trans (by repeat (first | with_reducible exact Ext.refl _ | with_reducible assumption | with_reducible refine Ext.drew ?_ | with_reducible refine Ext.drewN ?_ _ | with_reducible refine Ext.alloc ?_ _)))).mono ?_; rintro e w10 ⟨rfl, hx10⟩; replace hx10 : Ext wr w10 := Ext.trans (by repeat (first | with_reducible exact Ext.refl _ | with_reducible assumption | with_reducible refine Ext.drew ?_ | with_reducible refine Ext.drewN ?_ _ | with_reducible refine Ext.alloc ?_ _)) hx10)
      refine hK.out _ _ ?hS14x0 (fun hHeld14 => ?rest14x0)
      case hS14x0 => first | (exact MKR2.out _ (by repeat (first | with_reducible exact Ext.refl _ | with_reducible assumption | with_reducible refine Ext.drew ?_ | with_reducible refine Ext.drewN ?_ _ | with_reducible refine Ext.alloc ?_ _))) | ((try dsimp only); (exact MKR2.out _ (by repeat (first | with_reducible exact Ext.refl _ | with_reducible assumption | with_reducible refine Ext.drew ?_ | with_reducible refine Ext.drewN ?_ _ | with_reducible refine Ext.alloc ?_ _))))
      clear hK K
      clear hHeld
      (try simp only [Act.put]); (try simp only [List.setIfInBounds_toArray]); (try simp only [List.set_cons_succ]); (try simp only [List.set_cons_zero])
      refine wpAnyH_take (i := 4) (oi := ⟨(some 128), (.move (.tmp 127)), 4, "law.go:132", #[⟨3, .data⟩, ⟨3, .chain⟩], none⟩) (v := ?v15) rfl (by kernel_rfl) (by kernel_rfl) (by kernel_rfl) (fun _ _ _ h => h) (Or.inl ⟨rfl, ?hy15⟩) hHeld14 ?rest15
      case hy15 => (intro w hSw; (try dsimp only at hSw); go_simp <;> first | with_reducible rfl | rw [if_neg (by omega)] | rw [if_pos (by omega)])
      (try simp only [Act.put]); (try simp only [List.setIfInBounds_toArray]); (try simp only [List.set_cons_succ]); (try simp only [List.set_cons_zero])
      refine wpAnyH_take (i := 5) (oi := ⟨(some 129), (.fieldAddr 25 (.tmp 11) 1), 0, "law.go:132", #[⟨4, .guard⟩], (some (4, true))⟩) (v := ?v16) rfl (by kernel_rfl) (by kernel_rfl) (by kernel_rfl) (fun _ _ _ h => h) (Or.inl ⟨rfl, ?hy16⟩) hHeld14 ?rest16
      case hy16 => (intro w hSw; (try dsimp only at hSw); go_simp <;> first | with_reducible rfl | rw [if_neg (by omega)] | rw [if_pos (by omega)])
      (try simp only [Act.put]); (try simp only [List.setIfInBounds_toArray]); (try simp only [List.set_cons_succ]); (try simp only [List.set_cons_zero])
      refine wpAnyH_take (i := 6) (oi := ⟨(some 130), (.load 23 (.tmp 129)), 23, "law.go:132", #[⟨5, .data⟩, ⟨4, .guard⟩], (some (4, true))⟩) (v := ?v17) rfl (by kernel_rfl) (by kernel_rfl) (by kernel_rfl) (fun _ _ _ h => h) (Or.inl ⟨rfl, ?hy17⟩) hHeld14 ?rest17
      case hy17 => (intro w hSw; (try dsimp only at hSw); go_simp <;> first | with_reducible rfl | rw [if_neg (by omega)] | rw [if_pos (by omega)])
      (try simp only [Act.put]); (try simp only [List.setIfInBounds_toArray]); (try simp only [List.set_cons_succ]); (try simp only [List.set_cons_zero])
      refine wpAnyH_take (i := 7) (oi := ⟨(some 131), (.move (.tmp 14)), 23, "law.go:132", #[⟨4, .guard⟩], (some (4, true))⟩) (v := ?v18) rfl (by kernel_rfl) (by kernel_rfl) (by kernel_rfl) (fun _ _ _ h => h) (Or.inl ⟨rfl, ?hy18⟩) hHeld14 ?rest18
      case hy18 => (intro w hSw; (try dsimp only at hSw); go_simp <;> first | with_reducible rfl | rw [if_neg (by omega)] | rw [if_pos (by omega)])
      (try simp only [Act.put]); (try simp only [List.setIfInBounds_toArray]); (try simp only [List.set_cons_succ]); (try simp only [List.set_cons_zero])
      refine wpAnyH_ready (rs := [8]) (by kernel_rfl) (by simp) ?_
      refine AllReadyH.cons (o := ⟨(some 132), (.call { callee := (.value (.func 15)), args := #[(.tmp 131)], argTypes := #[23] }), 23, "law.go:132", #[⟨7, .data⟩, ⟨4, .chain⟩, ⟨4, .guard⟩], (some (4, true))⟩) rfl (fun K hK => ?step19x0) ?more19x0
      case more19x0 => exact AllReadyH.nil
      go_simp
      (refine (HSR.out _ (by repeat (first | with_reducible exact Ext.refl _ | with_reducible assumption | with_reducible refine Ext.drew ?_ | with_reducible refine Ext.drewN ?_ _ | with_reducible refine Ext.alloc ?_ _))).mono ?_; rintro e w11 ⟨A11, c11, rfl, -, hV11, hx11⟩; replace hx11 : Ext wr w11 := Ext.trans (by repeat (first | with_reducible exact Ext.refl _ | with_reducible assumption | with_reducible refine Ext.drew ?_ | with_reducible refine Ext.drewN ?_ _ | with_reducible refine Ext.alloc ?_ _)) hx11)
      refine hK.out _ _ ?hS19x0 (fun hHeld19 => ?rest19x0)
      case hS19x0 => first | (exact MKR2.out _ (by repeat (first | with_reducible exact Ext.refl _ | with_reducible assumption | with_reducible refine Ext.drew ?_ | with_reducible refine Ext.drewN ?_ _ | with_reducible refine Ext.alloc ?_ _))) | ((try dsimp only); (exact MKR2.out _ (by repeat (first | with_reducible exact Ext.refl _ | with_reducible assumption | with_reducible refine Ext.drew ?_ | with_reducible refine Ext.drewN ?_ _ | with_reducible refine Ext.alloc ?_ _))))
      clear hK K
      clear hHeld14
      (try simp only [Act.put]); (try simp only [List.setIfInBounds_toArray]); (try simp only [List.set_cons_succ]); (try simp only [List.set_cons_zero])
      refine wpAnyH_ready (rs := [9]) (by kernel_rfl) (by simp) ?_
      refine AllReadyH.cons (o := ⟨(some 133), (.call { callee := (.value (.func 26)), args := #[(.tmp 130), (.tmp 132)], argTypes := #[23, 23] }), 4, "law.go:132", #[⟨6, .data⟩, ⟨8, .data⟩, ⟨8, .chain⟩, ⟨4, .guard⟩], (some (4, true))⟩) rfl (fun K hK => ?step20x0) ?more20x0
      case more20x0 => exact AllReadyH.nil
      go_simp
      (refine (HSM.out _ _ A11 c11 (hE2.trans (by repeat (first | with_reducible exact Ext.refl _ | with_reducible assumption | with_reducible refine Ext.drew ?_ | with_reducible refine Ext.drewN ?_ _ | with_reducible refine Ext.alloc ?_ _))) (hV11.ext (by repeat (first | with_reducible exact Ext.refl _ | with_reducible assumption | with_reducible refine Ext.drew ?_ | with_reducible refine Ext.drewN ?_ _ | with_reducible refine Ext.alloc ?_ _)))).mono ?_; rintro e w12 ⟨rfl, hx12⟩; replace hx12 : Ext wr w12 := Ext.trans (by repeat (first | with_reducible exact Ext.refl _ | with_reducible assumption | with_reducible refine Ext.drew ?_ | with_reducible refine Ext.drewN ?_ _ | with_reducible refine Ext.alloc ?_ _)) hx12)
      refine hK.out _ _ ?hS20x0 (fun hHeld20 => ?rest20x0)
      case hS20x0 => first | (exact MKR2.out _ (by repeat (first | with_reducible exact Ext.refl _ | with_reducible assumption | with_reducible refine Ext.drew ?_ | with_reducible refine Ext.drewN ?_ _ | with_reducible refine Ext.alloc ?_ _))) | ((try dsimp only); (exact MKR2.out _ (by repeat (first | with_reducible exact Ext.refl _ | with_reducible assumption | with_reducible refine Ext.drew ?_ | with_reducible refine Ext.drewN ?_ _ | with_reducible refine Ext.alloc ?_ _))))
      clear hK K
      clear hHeld19
      (try simp only [Act.put]); (try simp only [List.setIfInBounds_toArray]); (try simp only [List.set_cons_succ]); (try simp only [List.set_cons_zero])
      refine wpAnyH_take (i := 10) (oi := ⟨(some 134), (.pick (.tmp 128) (.tmp 133) (.const (.bool false))), 4, "law.go:132", #[⟨4, .data⟩, ⟨9, .data⟩], none⟩) (v := ?v21) rfl (by kernel_rfl) (by kernel_rfl) (by kernel_rfl) (fun _ _ _ h => h) (Or.inl ⟨rfl, ?hy21⟩) hHeld20 ?rest21
      case hy21 => (intro w hSw; (try dsimp only at hSw); go_simp <;> first | with_reducible rfl | rw [if_neg (by omega)] | rw [if_pos (by omega)])
      (try simp only [Act.put]); (try simp only [List.setIfInBounds_toArray]); (try simp only [List.set_cons_succ]); (try simp only [List.set_cons_zero])
      refine wpAnyH_take (i := 11) (oi := ⟨(some 135), (.move (.tmp 134)), 4, "law.go:132", #[⟨10, .data⟩, ⟨9, .chain⟩], none⟩) (v := ?v22) rfl (by kernel_rfl) (by kernel_rfl) (by kernel_rfl) (fun _ _ _ h => h) (Or.inl ⟨rfl, ?hy22⟩) hHeld20 ?rest22
      case hy22 => (intro w hSw; (try dsimp only at hSw); go_simp <;> first | with_reducible rfl | rw [if_neg (by omega)] | rw [if_pos (by omega)])
      (try simp only [Act.put]); (try simp only [List.setIfInBounds_toArray]); (try simp only [List.set_cons_succ]); (try simp only [List.set_cons_zero])
      refine wpAnyH_ready (rs := [12]) (by kernel_rfl) (by simp) ?_
      refine AllReadyH.cons (o := ⟨(some 136), (.call { callee := (.value (.func 11)), args := #[], argTypes := #[] }), 4, "law.go:132", #[⟨11, .chain⟩, ⟨11, .guard⟩], (some (11, true))⟩) rfl (fun K hK => ?step23x0) ?more23x0
      case more23x0 => exact AllReadyH.nil
      go_simp
      (refine (HAL.out _ (ex6.trans (hE2.trans (by repeat (first | with_reducible exact Ext.refl _ | with_reducible assumption | with_reducible refine Ext.drew ?_ | with_reducible refine Ext.drewN ?_ _ | with_reducible refine Ext.alloc ?_ _))))).mono ?_; rintro e w13 ⟨rfl, hx13⟩; replace hx13 : Ext wr w13 := Ext.trans (by repeat (first | with_reducible exact Ext.refl _ | with_reducible assumption | with_reducible refine Ext.drew ?_ | with_reducible refine Ext.drewN ?_ _ | with_reducible refine Ext.alloc ?_ _)) hx13)
      refine hK.out _ _ ?hS23x0 (fun hHeld23 => ?rest23x0)
      case hS23x0 => first | (exact MKR2.out _ (by repeat (first | with_reducible exact Ext.refl _ | with_reducible assumption | with_reducible refine Ext.drew ?_ | with_reducible refine Ext.drewN ?_ _ | with_reducible refine Ext.alloc ?_ _))) | ((try dsimp only); (exact MKR2.out _ (by repeat (first | with_reducible exact Ext.refl _ | with_reducible assumption | with_reducible refine Ext.drew ?_ | with_reducible refine Ext.drewN ?_ _ | with_reducible refine Ext.alloc ?_ _))))
      clear hK K
      clear hHeld20
      (try simp only [Act.put]); (try simp only [List.setIfInBounds_toArray]); (try simp only [List.set_cons_succ]); (try simp only [List.set_cons_zero])
      refine wpAnyH_take (i := 13) (oi := ⟨(some 137), (.pick (.tmp 135) (.tmp 136) (.const (.bool false))), 4, "law.go:132", #[⟨11, .data⟩, ⟨12, .data⟩], none⟩) (v := ?v24) rfl (by kernel_rfl) (by kernel_rfl) (by kernel_rfl) (fun _ _ _ h => h) (Or.inl ⟨rfl, ?hy24⟩) hHeld23 ?rest24
      case hy24 => (intro w hSw; (try dsimp only at hSw); go_simp <;> first | with_reducible rfl | rw [if_neg (by omega)] | rw [if_pos (by omega)])
      (try simp only [Act.put]); (try simp only [List.setIfInBounds_toArray]); (try simp only [List.set_cons_succ]); (try simp only [List.set_cons_zero])
      refine wpAnyH_take (i := 14) (oi := ⟨(some 4), (.assign (.tmp 137)), 4, "law.go:132", #[⟨13, .data⟩, ⟨12, .chain⟩, ⟨0, .phase⟩, ⟨1, .phase⟩, ⟨2, .phase⟩, ⟨3, .phase⟩, ⟨4, .phase⟩, ⟨5, .phase⟩, ⟨6, .phase⟩, ⟨7, .phase⟩, ⟨8, .phase⟩, ⟨9, .phase⟩, ⟨10, .phase⟩, ⟨11, .phase⟩, ⟨12, .phase⟩, ⟨13, .phase⟩], none⟩) (v := ?v25) rfl (by kernel_rfl) (by kernel_rfl) (by kernel_rfl) (fun _ _ _ h => h) (Or.inl ⟨rfl, ?hy25⟩) hHeld23 ?rest25
      case hy25 => (intro w hSw; (try dsimp only at hSw); go_simp <;> first | with_reducible rfl | rw [if_neg (by omega)] | rw [if_pos (by omega)])
      (try simp only [Act.put]); (try simp only [List.setIfInBounds_toArray]); (try simp only [List.set_cons_succ]); (try simp only [List.set_cons_zero])
      refine wpAnyH_done (by kernel_rfl) ?_ _
      clear hHeld23
      clear MKR2
      go_wp2_with fail
      go_ret
      exact ⟨rfl, hxw.trans (ex6.trans (hE2.trans (by repeat (first | with_reducible exact Ext.refl _ | with_reducible assumption | with_reducible refine Ext.drew ?_ | with_reducible refine Ext.drewN ?_ _ | with_reducible refine Ext.alloc ?_ _))))⟩
end Go.Proofs.YtbjddimafilflaaGreatDoor
