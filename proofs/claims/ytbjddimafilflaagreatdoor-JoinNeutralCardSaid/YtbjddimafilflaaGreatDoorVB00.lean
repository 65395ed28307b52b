/- PARTS OF THE WALKS, joined: Lf. -/
import Derived.Test.YtbjddimafilflaaGreatDoorV00
import Derived.Test.YtbjddimafilflaaGreatDoorV01
import Derived.Test.YtbjddimafilflaaGreatDoorV02
import Derived.Test.YtbjddimafilflaaGreatDoorV03
import Derived.Test.YtbjddimafilflaaGreatDoorV04
import Derived.Test.YtbjddimafilflaaGreatDoorV05
import Derived.Test.YtbjddimafilflaaGreatDoorV06
import Derived.Test.YtbjddimafilflaaGreatDoorV07
import Derived.Test.YtbjddimafilflaaGreatDoorV08
import Derived.Test.YtbjddimafilflaaGreatDoorV09
import Derived.Test.YtbjddimafilflaaGreatDoorV10
import Derived.Test.YtbjddimafilflaaGreatDoorV11
import Derived.Test.YtbjddimafilflaaGreatDoorV12
import Derived.Test.YtbjddimafilflaaGreatDoorV13
import Derived.Test.YtbjddimafilflaaGreatDoorV14
import Derived.Test.YtbjddimafilflaaGreatDoorV15
import Derived.Test.YtbjddimafilflaaGreatDoorV16
import Derived.Test.YtbjddimafilflaaGreatDoorV17
import Derived.Test.YtbjddimafilflaaGreatDoorV18
import Derived.Test.YtbjddimafilflaaGreatDoorV19
import Derived.Test.YtbjddimafilflaaGreatDoorV20
import Derived.Test.YtbjddimafilflaaGreatDoorV21
import Derived.Deep.RegionHeld3
import Derived.Maps.OwnOps
import Derived.Maps.OwnSet
import Derived.Lib.AppendZerosOnto
import Derived.Lib.ItoaNum
import Derived.Lib.AtoiAll
import Derived.Deep.CutBlock
import Derived.Deep.DeepCutAuto
import Derived.Lib.BitFns
import Derived.Test.YtbjddimafilflaaGreatDoorShelf
import Derived.Shelf.Spec.BitsCarry
import Derived.Deep.Cut
import Derived.Deep.QuietTactic
import Derived.BigQuiet
import Derived.Test.YtbjddimafilflaaGreatDoorProg
import Derived.WalkKit
import Derived.WalkSpells
import Derived.WalkLawsBesides
import Derived.Lib.Hide
import Derived.Sort.Walk0
import Derived.Lib.Small
import Derived.Laws.CopyRow
import Derived.Lib.SlFresh
import Derived.Laws.AppendOwn
import Derived.Laws.OwnMore
import Derived.OwnWalk
import Derived.Deep.AppendLies
import Derived.Deep.MidRow
import Derived.Below
import Derived.Laws.Rows
import Derived.Deep.Draws
import Derived.Maps.AppendAt
import Derived.Laws.MakeOwn
import Derived.Laws.BitsAllLaws
import Derived.BigRegion
import Derived.Sort.LotA
import Derived.OneCell
import Derived.Deep.RegionHeld
/- THE WALK over the law JoinNeutral. -/
namespace Go.Proofs.YtbjddimafilflaaGreatDoor
open Go.RowKit Go.Sort
theorem unit_lit (W : World) : ∃ g W', g = W.heap.size ∧ W' = (W.alloc (.cells #[] 40)).alloc (.cells #[.slice (some ⟨g, 0, none⟩) 0 0] 37) ∧ TabAt W' (fun _ => True) none (some ⟨g + 1, 0, none⟩) unitT ∧ Ext W W' := by
  obtain ⟨g, W1, hg, hW1, hv, hx⟩ := row_lit W [] (by decide)
  refine ⟨g, _, hg, rfl, ⟨SliceR.nil _ _ _, ?_⟩, (hx.alloc _).trans (by rw [hW1]; exact Ext.refl _)⟩
  have hs : W1.heap.size = g + 1 := by rw [hW1, hg]; simp
  have e : (W.alloc (.cells #[] 40)) = W1 := hW1.symm
  rw [e]
  refine ⟨by decide, fun _ => ⟨g + 1, 0, rfl, fun k hk => ?_⟩⟩
  match k, hk with
  | 0, _ => exact ⟨trivial, some ⟨g, 0, none⟩, 0, by rw [← hs, cell_of_row _ _ _ _ _ _ (heap_alloc_new W1 _)]; rfl, Nat.le_refl _, hv.ext ((Ext.refl _).alloc _)⟩
theorem none_tab (w : World) : TabAt w (fun _ => True) none none noTab := ⟨SliceR.nil _ _ _, SliceR.nil _ _ _⟩
theorem fit_unit : TabFit unitT := ⟨by decide, by decide, fun r hr => by
  simp only [unitT, List.mem_cons, List.not_mem_nil, or_false] at hr
  subst hr
  exact ⟨szL_of (fun v hv => by cases hv), by rw [wtL]; decide⟩⟩
theorem fit_none : TabFit noTab := ⟨by decide, by decide, fun r hr => by cases hr⟩
theorem sortT_len (a : Tab) : (sortT a).rows.length = a.rows.length := sortO_len TotC.row _
theorem sort_ret {w w' : World} {a : Tab} {n : Int} {x : Ending} (h : TabRet w (sortT a) n x w') : ∃ A B c d, x = .returned (.tuple #[.agg #[.slice A a.cols.length c, .slice B a.rows.length d], .int .i64 n]) ∧ TabAt w' (fun b => w.heap.size ≤ b) A B (sortT a) ∧ Ext w w' := by
  obtain ⟨A, B, c, d, h1, -, -, h2, h3⟩ := h
  rw [sortT_len] at h1
  exact ⟨A, B, c, d, h1, h2, h3⟩
theorem sort_same (a : Tab) (ok ok' : Nat → Prop) (A B A' B' : Option Addr) (c d c' d' : Nat) (w : World) (ha : TabAt w ok A B (sortT a)) (hb : TabAt w ok' A' B' (sortT a)) (hz : ∀ r ∈ a.rows, szL r) :
    Calls Tryz.prog 14 #[.agg #[.slice A a.cols.length c, .slice B a.rows.length d], .agg #[.slice A' a.cols.length c', .slice B' a.rows.length d']] w fun e w' => e = .returned (.bool true) ∧ Ext w w' := by
  have h := r_Same (sortT a) (sortT a) ok ok' A B A' B' c d c' d' w ha hb (szR_sort hz) (szR_sort hz)
  rw [sameT_self, sortT_len] at h
  exact h
theorem new_tab {w W : World} {x y : Value} {t : TypeId} (h : Ext (w.alloc (.cells #[x, y] t)) W) : W.cell? ⟨w.heap.size, 0, none⟩ = some x ∧ W.cell? ⟨w.heap.size, 1, none⟩ = some y ∧ W.frozen? ⟨w.heap.size, 0, none⟩ = false ∧ W.frozen? ⟨w.heap.size, 1, none⟩ = false := by
  have hb := h.heap (heap_alloc_new w _)
  exact ⟨by rw [cell_of_row _ _ _ _ _ _ hb]; rfl, by rw [cell_of_row _ _ _ _ _ _ hb]; rfl, by simp [World.frozen?, hb], by simp [World.frozen?, hb]⟩
theorem Strs.any {w : World} {ok : Nat → Prop} {A : Option Addr} {l : List ByteArray} (h : Strs w ok A l) : Strs w (fun _ => True) A l := SliceR.mono h (fun _ _ _ _ hx => ⟨trivial, hx.2⟩)
theorem cols_e : ∀ s ∈ ([] : List ByteArray), s.size ≤ maxLen := fun s hs => by cases hs
set_option maxRecDepth 100000 in
set_option maxHeartbeats 6400000 in
theorem l_JoinNeutral (a : Tab) (ok : Nat → Prop) (A B : Option Addr) (c d : Nat) (w : World) (hz : ZeroAt w) (ha : TabAt w ok A B a) (hsa : ∀ s ∈ a.cols, s.size ≤ maxLen) (hra : ∀ r ∈ a.rows, szL r) (hcp : a.cols.length ≤ c) :
    Calls Tryz.prog 5 #[.agg #[.slice A a.cols.length c, .slice B a.rows.length d]] w fun e w' => e = .returned (.bool true) ∧ Ext w w' := by
  obtain ⟨q, w2, hq, hw2, q0, q1, hxw⟩ := box_tab w A B a.cols.length c a.rows.length d 25
  have HAL := Lib.hid (fun W (e : Ext w2 W) => l_alive W (hz.ext (hxw.trans e)))
  have HZ := Lib.hid (hz.ext hxw)
  have HS1 := Lib.hid (fun W (e : Ext w2 W) => l_small a ok A B c d W (ha.ext (hxw.trans e)) hra)
  have HK1 := Lib.hid (fun W (e : Ext w2 W) => r_Check a ok A B c d W (ha.ext (hxw.trans e)) hcp)
  have HT1 := Lib.hid (ha.ext hxw)
  have HR1 := Lib.hid hra
  have HM1 := Lib.hid hsa
  have HW2 := Lib.hid hw2
  have HG := Lib.hid hq
  clear ha hz hsa hra hcp hw2 hq
  obtain ⟨z1, hz1⟩ : ∃ z, z = chkT a := ⟨_, rfl⟩
  rw [← hz1] at HK1
  have HZ1 := Lib.hid hz1
  clear hz1
  go_enter Tryz.func5, Tryz.ntmps5
  go_upto_region 1 with (fail)
  rw [← HW2.out, ← HG.out]
  clear HW2 HG
  go_wp2_with fail
  refine (HS1.out _ (Ext.refl _)).mono ?_
  rintro e m1 ⟨s1, rfl, hs1, hm1⟩
  have u0 := (hm1).cell q0
  have u1 := (hm1).cell q1
  cases s1
  · clear hs1
    go_wp2_with (go_at_call 11; ((with_reducible refine (HAL.out _ hm1).mono ?_); rintro e wE ⟨rfl, hxE⟩))
    go_ret
    exact ⟨rfl, hxw.trans (hm1.trans hxE)⟩
  have h1 := Lib.hid (hs1 rfl)
  clear hs1
  go_wp2_with fail
  refine (HK1.out _ hm1).mono ?_
  rintro e n1 ⟨rfl, hn1⟩
  replace hn1 : Ext w2 n1 := hm1.trans hn1
  clear u0 u1
  have u0 := (hn1).cell q0
  have u1 := (hn1).cell q1
  by_cases k1 : z1 = 0
  case neg =>
    have kk : (z1 != 0) = true := by simp [k1]
    go_wp2_with (go_at_call 11; ((with_reducible refine (HAL.out _ hn1).mono ?_); rintro e wE ⟨rfl, hxE⟩))
    go_ret
    exact ⟨rfl, hxw.trans (hn1.trans hxE)⟩
  subst k1
  have HE1 := Lib.hid (nat_unit HZ1.out.symm)
  have HE2 := Lib.hid (nat_unit2 HZ1.out.symm)
  have HE3 := Lib.hid (nat_none HZ1.out.symm)
  have HCK := Lib.hid (HZ1.out.symm)
  have HF := Lib.hid (h1.out.fit HR1.out)
  have HC1 := Lib.hid (fun W (g : Nat) (e : Ext w2 W) (hT : TabAt W (fun _ => True) none (some ⟨g + 1, 0, none⟩) unitT) => j_Natural a unitT ok (fun _ => True) A none B (some ⟨g + 1, 0, none⟩) c 0 d 1 W (HZ.out.ext e) (HT1.out.ext e) hT HF.out fit_unit HM1.out cols_e)
  have HC2 := Lib.hid (fun W (g : Nat) (e : Ext w2 W) (hT : TabAt W (fun _ => True) none (some ⟨g + 1, 0, none⟩) unitT) => j_Natural unitT a (fun _ => True) ok none A (some ⟨g + 1, 0, none⟩) B 0 c 1 d W (HZ.out.ext e) hT (HT1.out.ext e) fit_unit HF.out cols_e HM1.out)
  have HC3 := Lib.hid (fun W (e : Ext w2 W) => j_Natural a noTab ok (fun _ => True) A none B none c 0 d 0 W (HZ.out.ext e) (HT1.out.ext e) (none_tab W) HF.out fit_none HM1.out cols_e)
  rw [HE1.out, errJ_ok HCK.out chk_unit] at HC1
  rw [HE2.out, errJ_ok chk_unit HCK.out] at HC2
  rw [HE3.out, errJ_ok HCK.out chk_none] at HC3
  clear HE1 HE2 HE3 HK1 HS1 HZ1
  go_wp2_with fail
  obtain ⟨ug1, U1, hug1, hU1, TU1, hxU1⟩ := unit_lit n1
  rw [← hug1, ← hU1]
  have eU1 : Ext w2 U1 := hn1.trans hxU1
  refine (HC1.out U1 ug1 eU1 TU1).mono ?_
  intro e f1 hr1
  obtain ⟨A1x, B1x, c1x, d1x, rfl, T1x, hf1⟩ := sort_ret hr1
  have ef1 : Ext w2 f1 := eU1.trans hf1
  clear u0 u1
  have u0 := (ef1).cell q0
  have u1 := (ef1).cell q1
  have rf1 : q < f1.heap.size := block_lt_of_cell u0
  clear hr1
  clear hug1 hU1 TU1 hxU1 eU1
  go_upto_region 4 with (fail)
  obtain ⟨g1, y1, hg1, hV1, g10, g11, hxy1⟩ := box_tab f1 A1x B1x a.cols.length c1x a.rows.length d1x 25
  rw [← hV1, ← hg1]
  have ey1 : Ext w2 y1 := ef1.trans hxy1
  replace T1x := T1x.ext hxy1
  clear hg1 hV1 rf1 hf1 hxy1
  clear u0 u1
  have u0 := (ey1).cell q0
  have u1 := (ey1).cell q1
  clear ef1
  have ray1 : q < y1.heap.size := block_lt_of_cell u0
  have rby1 : q < y1.heap.size + 1 := by omega
  go_wp2_with fail
  obtain ⟨ug2, U2, hug2, hU2, TU2, hxU2⟩ := unit_lit y1
  rw [← hug2, ← hU2]
  have eU2 : Ext w2 U2 := ey1.trans hxU2
  clear ray1 rby1
  refine (HC2.out U2 ug2 eU2 TU2).mono ?_
  intro e f2 hr2
  obtain ⟨A2x, B2x, c2x, d2x, rfl, T2x, hf2⟩ := sort_ret hr2
  have ef2 : Ext w2 f2 := eU2.trans hf2
  clear u0 u1
  have u0 := (ef2).cell q0
  have u1 := (ef2).cell q1
  have rf2 : q < f2.heap.size := block_lt_of_cell u0
  clear hr2
  replace g10 := (hxU2.trans hf2).cell g10
  replace g11 := (hxU2.trans hf2).cell g11
  have rg1f2 : g1 < f2.heap.size := block_lt_of_cell g10
  replace T1x := T1x.ext (hxU2.trans hf2)
  clear hug2 hU2 TU2 hxU2 eU2
  go_upto_region 5 with (fail)
  obtain ⟨g2, y2, hg2, hV2, g20, g21, hxy2⟩ := box_tab f2 A2x B2x a.cols.length c2x a.rows.length d2x 25
  rw [← hV2, ← hg2]
  have ey2 : Ext w2 y2 := ef2.trans hxy2
  replace T2x := T2x.ext hxy2
  replace g10 := hxy2.cell g10
  replace g11 := hxy2.cell g11
  replace T1x := T1x.ext hxy2
  clear hg2 hV2 rf2 hf2 hxy2 rg1f2
  clear u0 u1
  have u0 := (ey2).cell q0
  have u1 := (ey2).cell q1
  clear ef2
  go_wp2_with fail
  refine (HC3.out y2 ey2).mono ?_
  rintro e f3 ⟨A3x, B3x, c3x, d3x, rfl, -, -, T3x, hf3⟩
  have ef3 : Ext w2 f3 := ey2.trans hf3
  clear u0 u1
  have u0 := (ef3).cell q0
  have u1 := (ef3).cell q1
  have rf3 : q < f3.heap.size := block_lt_of_cell u0
  replace g10 := (hf3).cell g10
  replace g11 := (hf3).cell g11
  have rg1f3 : g1 < f3.heap.size := block_lt_of_cell g10
  replace T1x := T1x.ext (hf3)
  replace g20 := (hf3).cell g20
  replace g21 := (hf3).cell g21
  have rg2f3 : g2 < f3.heap.size := block_lt_of_cell g20
  replace T2x := T2x.ext (hf3)
  go_upto_region 6 with (fail)
  obtain ⟨g3, y3, hg3, hV3, g30, g31, hxy3⟩ := box_tab f3 A3x B3x a.cols.length c3x 0 d3x 25
  rw [← hV3, ← hg3]
  have ey3 : Ext w2 y3 := ef3.trans hxy3
  replace T3x := T3x.ext hxy3
  replace g10 := hxy3.cell g10
  replace g11 := hxy3.cell g11
  replace T1x := T1x.ext hxy3
  replace g20 := hxy3.cell g20
  replace g21 := hxy3.cell g21
  replace T2x := T2x.ext hxy3
  clear hg3 hV3 rf3 hf3 hxy3 rg1f3 rg2f3
  clear u0 u1
  have u0 := (ey3).cell q0
  have u1 := (ey3).cell q1
  clear ef3
  have HSR := Lib.hid (fun W (e : Ext w2 W) => r4_SortRows a.rows ok B d W (by have := HF.out.2.1; omega) (fun r hr => ⟨by have := (HF.out.2.2 r hr).2; omega, HR1.out r hr⟩) (HT1.out.rows.ext e))
  have HTW := Lib.hid (HT1.out.ext ey3)
  have HBD := Lib.hid (show ∀ r ∈ a.rows, szL r from HR1.out)
  clear HC1 HC2 HC3 HT1
  have MKR := Lib.hid (fun V (e : Ext y3 V) => (⟨e.cell u0, e.cell u1, e⟩ : V.cell? ⟨q, 0, none⟩ = some (.slice A a.cols.length c) ∧ V.cell? ⟨q, 1, none⟩ = some (.slice B a.rows.length d) ∧ Ext y3 V))
  refine wp_region_held_drew (S := (fun V => V.cell? ⟨q, 0, none⟩ = some (.slice A a.cols.length c) ∧ V.cell? ⟨q, 1, none⟩ = some (.slice B a.rows.length d) ∧ Ext y3 V)) (by kernel_rfl) ?hs1 (fun hHeld => ?go1)
  case hs1 => (exact MKR.out _ (by repeat (first | with_reducible exact Ext.refl _ | with_reducible assumption | with_reducible refine Ext.drew ?_ | with_reducible refine Ext.drewN ?_ _ | with_reducible refine Ext.alloc ?_ _ | with_reducible refine Ext.setCell ?_ (by first | exact Nat.le_refl _ | (simp; done) | (simp; omega) | omega) _)))
  refine wpAnyH_take (i := 0) (oi := ⟨(some 41), (.fieldAddr 25 (.tmp 1) 0), 0, "law.go:143", #[], none⟩) (v := ?v2) rfl (by kernel_rfl) (by kernel_rfl) (by kernel_rfl) (fun _ _ _ h => h) (Or.inl ⟨rfl, ?hy2⟩) hHeld ?rest2
  case hy2 => (intro w hSw; (try dsimp only at hSw); go_simp <;> first | with_reducible rfl | rw [if_neg (by omega)] | rw [if_pos (by omega)])
  (try simp only [Act.put]); (try simp only [List.setIfInBounds_toArray]); (try simp only [List.set_cons_succ]); (try simp only [List.set_cons_zero])
  refine wpAnyH_take (i := 1) (oi := ⟨(some 42), (.load 22 (.tmp 41)), 22, "law.go:143", #[⟨0, .data⟩], none⟩) (v := ?v3) rfl (by kernel_rfl) (by kernel_rfl) (by kernel_rfl) (fun _ _ _ h => h) (Or.inl ⟨rfl, ?hy3⟩) hHeld ?rest3
  case hy3 => (intro w hSw; (try dsimp only at hSw); go_simp <;> first | with_reducible rfl | rw [if_neg (by omega)] | rw [if_pos (by omega)])
  (try simp only [Act.put]); (try simp only [List.setIfInBounds_toArray]); (try simp only [List.set_cons_succ]); (try simp only [List.set_cons_zero])
  refine wpAnyH_take (i := 2) (oi := ⟨(some 43), (.fieldAddr 25 (.tmp 1) 1), 0, "law.go:143", #[], none⟩) (v := ?v4) rfl (by kernel_rfl) (by kernel_rfl) (by kernel_rfl) (fun _ _ _ h => h) (Or.inl ⟨rfl, ?hy4⟩) hHeld ?rest4
  case hy4 => (intro w hSw; (try dsimp only at hSw); go_simp <;> first | with_reducible rfl | rw [if_neg (by omega)] | rw [if_pos (by omega)])
  (try simp only [Act.put]); (try simp only [List.setIfInBounds_toArray]); (try simp only [List.set_cons_succ]); (try simp only [List.set_cons_zero])
  refine wpAnyH_take (i := 3) (oi := ⟨(some 44), (.load 23 (.tmp 43)), 23, "law.go:143", #[⟨2, .data⟩], none⟩) (v := ?v5) rfl (by kernel_rfl) (by kernel_rfl) (by kernel_rfl) (fun _ _ _ h => h) (Or.inl ⟨rfl, ?hy5⟩) hHeld ?rest5
  case hy5 => (intro w hSw; (try dsimp only at hSw); go_simp <;> first | with_reducible rfl | rw [if_neg (by omega)] | rw [if_pos (by omega)])
  (try simp only [Act.put]); (try simp only [List.setIfInBounds_toArray]); (try simp only [List.set_cons_succ]); (try simp only [List.set_cons_zero])
  refine wpAnyH_ready (rs := [4, 6]) (by kernel_rfl) (by simp) ?_
  refine AllReadyH.cons (o := ⟨(some 45), (.call { callee := (.value (.func 15)), args := #[(.tmp 44)], argTypes := #[23] }), 23, "law.go:143", #[⟨3, .data⟩], none⟩) rfl (fun K hK => ?step6x0) ?more6x0
  case more6x0 =>
    refine AllReadyH.cons (o := ⟨(some 9), (.alloc 25), 0, "law.go:143", #[], none⟩) rfl (fun K hK => ?step6x1) ?more6x1
    case more6x1 => exact AllReadyH.nil
    go_simp
    refine hK.out _ _ ?hS6x1 (fun hHeld6 => ?rest6x1)
    case hS6x1 => first | (exact MKR.out _ (by repeat (first | with_reducible exact Ext.refl _ | with_reducible assumption | with_reducible refine Ext.drew ?_ | with_reducible refine Ext.drewN ?_ _ | with_reducible refine Ext.alloc ?_ _ | with_reducible refine Ext.setCell ?_ (by first | exact Nat.le_refl _ | (simp; done) | (simp; omega) | omega) _))) | ((try dsimp only); (exact MKR.out _ (by repeat (first | with_reducible exact Ext.refl _ | with_reducible assumption | with_reducible refine Ext.drew ?_ | with_reducible refine Ext.drewN ?_ _ | with_reducible refine Ext.alloc ?_ _ | with_reducible refine Ext.setCell ?_ (by first | exact Nat.le_refl _ | (simp; done) | (simp; omega) | omega) _))))
    clear hK K
    clear hHeld
    (try simp only [Act.put]); (try simp only [List.setIfInBounds_toArray]); (try simp only [List.set_cons_succ]); (try simp only [List.set_cons_zero])
    refine wpAnyH_ready (rs := [4]) (by kernel_rfl) (by simp) ?_
    refine AllReadyH.cons (o := ⟨(some 45), (.call { callee := (.value (.func 15)), args := #[(.tmp 44)], argTypes := #[23] }), 23, "law.go:143", #[⟨3, .data⟩], none⟩) rfl (fun K hK => ?step7x0) ?more7x0
    case more7x0 => exact AllReadyH.nil
    go_simp
    (refine (HSR.out _ (ey3.trans (by repeat (first | with_reducible exact Ext.refl _ | with_reducible assumption | with_reducible refine Ext.drew ?_ | with_reducible refine Ext.drewN ?_ _ | with_reducible refine Ext.alloc ?_ _)))).mono ?_; rintro e wS ⟨A5, c5, rfl, -, hV5, hx5⟩; (try have HN5 := Lib.hid (show wS.cell? ⟨y3.heap.size, 0, none⟩ = some (.slice none 0 0) ∧ wS.cell? ⟨y3.heap.size, 1, none⟩ = some (.slice none 0 0) ∧ wS.frozen? ⟨y3.heap.size, 0, none⟩ = false ∧ wS.frozen? ⟨y3.heap.size, 1, none⟩ = false from new_tab (Ext.trans (Ext.refl _).drew hx5))); (try obtain ⟨z0, z1, f0, f1⟩ := HN5.out); replace hx5 : Ext y3 wS := Ext.trans (by repeat (first | with_reducible exact Ext.refl _ | with_reducible assumption | with_reducible refine Ext.drew ?_ | with_reducible refine Ext.drewN ?_ _ | with_reducible refine Ext.alloc ?_ _)) hx5)
    refine hK.out _ _ ?hS7x0 (fun hHeld7 => ?rest7x0)
    case hS7x0 => first | (exact MKR.out _ (by repeat (first | with_reducible exact Ext.refl _ | with_reducible assumption | with_reducible refine Ext.drew ?_ | with_reducible refine Ext.drewN ?_ _ | with_reducible refine Ext.alloc ?_ _ | with_reducible refine Ext.setCell ?_ (by first | exact Nat.le_refl _ | (simp; done) | (simp; omega) | omega) _))) | ((try dsimp only); (exact MKR.out _ (by repeat (first | with_reducible exact Ext.refl _ | with_reducible assumption | with_reducible refine Ext.drew ?_ | with_reducible refine Ext.drewN ?_ _ | with_reducible refine Ext.alloc ?_ _ | with_reducible refine Ext.setCell ?_ (by first | exact Nat.le_refl _ | (simp; done) | (simp; omega) | omega) _))))
    clear hK K
    clear hHeld6
    (try simp only [Act.put]); (try simp only [List.setIfInBounds_toArray]); (try simp only [List.set_cons_succ]); (try simp only [List.set_cons_zero])
    refine wpAnyH_take (i := 5) (oi := ⟨(some 46), (.build 25 #[(0, (.tmp 42)), (1, (.tmp 45))]), 25, "law.go:143", #[⟨1, .data⟩, ⟨4, .data⟩], none⟩) (v := ?v8) rfl (by kernel_rfl) (by kernel_rfl) (by kernel_rfl) (fun _ _ _ h => h) (Or.inl ⟨rfl, ?hy8⟩) hHeld7 ?rest8
    case hy8 => (intro w hSw; (try dsimp only at hSw); go_simp <;> first | with_reducible rfl | rw [if_neg (by omega)] | rw [if_pos (by omega)])
    (try simp only [Act.put]); (try simp only [List.setIfInBounds_toArray]); (try simp only [List.set_cons_succ]); (try simp only [List.set_cons_zero])
    refine wpAnyH_ready (rs := [7]) (by kernel_rfl) (by simp) ?_
    refine AllReadyH.cons (o := ⟨none, (.store 25 (.tmp 9) (.tmp 46)), 0, "law.go:143", #[⟨6, .data⟩, ⟨5, .data⟩, ⟨4, .chain⟩, ⟨0, .phase⟩, ⟨1, .phase⟩, ⟨2, .phase⟩, ⟨3, .phase⟩, ⟨4, .phase⟩, ⟨5, .phase⟩, ⟨6, .phase⟩], none⟩) rfl (fun K hK => ?step9x0) ?more9x0
    case more9x0 => exact AllReadyH.nil
    go_simp
    refine hK.out _ _ ?hS9x0 (fun hHeld9 => ?rest9x0)
    case hS9x0 => first | (exact MKR.out _ (by repeat (first | with_reducible exact Ext.refl _ | with_reducible assumption | with_reducible refine Ext.drew ?_ | with_reducible refine Ext.drewN ?_ _ | with_reducible refine Ext.alloc ?_ _ | with_reducible refine Ext.setCell ?_ (by first | exact Nat.le_refl _ | (simp; done) | (simp; omega) | omega) _))) | ((try dsimp only); (exact MKR.out _ (by repeat (first | with_reducible exact Ext.refl _ | with_reducible assumption | with_reducible refine Ext.drew ?_ | with_reducible refine Ext.drewN ?_ _ | with_reducible refine Ext.alloc ?_ _ | with_reducible refine Ext.setCell ?_ (by first | exact Nat.le_refl _ | (simp; done) | (simp; omega) | omega) _))))
    clear hK K
    clear hHeld7
    (try simp only [Act.put]); (try simp only [List.setIfInBounds_toArray]); (try simp only [List.set_cons_succ]); (try simp only [List.set_cons_zero])
    refine wpAnyH_done (by kernel_rfl) ?_ _
    clear hHeld9
    clear MKR HSR
    have HY := Lib.hid hV5
    first
    | (obtain ⟨g4, y4, hg4, hV4, g40, g41, hxy4⟩ := box_tab wS A A5 a.cols.length c a.rows.length c5 25; rw [← hV4, ← hg4]; have T4x := Lib.hid (show TabAt y4 (fun _ => True) A A5 (sortT a) from ⟨((HTW.out.cols.ext hx5).ext hxy4).any, (hV5.ext hxy4).to (fun _ _ => trivial)⟩); replace hx5 : Ext y3 y4 := hx5.trans hxy4; clear hg4 hV4 hxy4)
    | (obtain ⟨z0, z1, f0, f1⟩ := HN5.out; obtain ⟨g40, g41⟩ := set2_cells (u0 := .slice A a.cols.length c) (u1 := .slice A5 a.rows.length c5) z0 z1; obtain ⟨y4, hV4⟩ : ∃ V, V = (wS.setCell ⟨y3.heap.size, 0, none⟩ (.slice A a.cols.length c)).setCell ⟨y3.heap.size, 1, none⟩ (.slice A5 a.rows.length c5) := ⟨_, rfl⟩; have hex : Ext y3 y4 := (by rw [hV4]; exact (by repeat (first | with_reducible exact Ext.refl _ | with_reducible assumption | with_reducible refine Ext.drew ?_ | with_reducible refine Ext.drewN ?_ _ | with_reducible refine Ext.alloc ?_ _ | with_reducible refine Ext.setCell ?_ (by first | exact Nat.le_refl _ | (simp; done) | (simp; omega) | omega) _))); have T4x := Lib.hid (show TabAt y4 (fun _ => True) A A5 (sortT a) by rw [hV4]; exact ⟨((HTW.out.cols.ext (show Ext y3 ((wS.setCell ⟨y3.heap.size, 0, none⟩ (.slice A a.cols.length c)).setCell ⟨y3.heap.size, 1, none⟩ (.slice A5 a.rows.length c5)) from (by repeat (first | with_reducible exact Ext.refl _ | with_reducible assumption | with_reducible refine Ext.drew ?_ | with_reducible refine Ext.drewN ?_ _ | with_reducible refine Ext.alloc ?_ _ | with_reducible refine Ext.setCell ?_ (by first | exact Nat.le_refl _ | (simp; done) | (simp; omega) | omega) _))))).any, (hV5.keep (fun b o x hb hc => (cell_set2 wS b o y3.heap.size (by have := hb; simp at this; omega)).trans hc) (fun _ _ => trivial))⟩); rw [← hV4] at g40 g41 ⊢; replace hx5 := hex; obtain ⟨g4, hg4⟩ : ∃ g, g = y3.heap.size := ⟨_, rfl⟩; rw [← hg4] at g40 g41 ⊢; clear hg4 hV4 hex z0 z1 f0 f1)
    clear HY hV5 HTW
    have e4 : Ext w2 y4 := ey3.trans hx5
    replace g10 := hx5.cell g10
    replace g11 := hx5.cell g11
    replace T1x := T1x.ext hx5
    replace g20 := hx5.cell g20
    replace g21 := hx5.cell g21
    replace T2x := T2x.ext hx5
    replace g30 := hx5.cell g30
    replace g31 := hx5.cell g31
    clear u0 u1 T3x
    have u0 := e4.cell q0
    have u1 := e4.cell q1
    go_wp2_with fail
    refine (sort_same a _ _ A1x B1x A A5 c1x d1x c c5 y4 T1x T4x.out HBD.out).mono ?_
    rintro e v1 ⟨rfl, hv1⟩
    replace hv1 : Ext y4 v1 := hv1
    replace g20 := hv1.cell g20
    replace g21 := hv1.cell g21
    replace g30 := hv1.cell g30
    replace g31 := hv1.cell g31
    replace g40 := hv1.cell g40
    replace g41 := hv1.cell g41
    replace u0 := hv1.cell u0
    replace u1 := hv1.cell u1
    go_wp2_with fail
    refine (sort_same a _ _ A2x B2x A A5 c2x d2x c c5 v1 (T2x.ext hv1) (T4x.out.ext hv1) HBD.out).mono ?_
    rintro e v2 ⟨rfl, hv2⟩
    replace g30 := hv2.cell g30
    replace g31 := hv2.cell g31
    replace u0 := hv2.cell u0
    replace u1 := hv2.cell u1
    go_wp2_with fail
    refine (HAL.out _ (e4.trans (hv1.trans hv2))).mono ?_
    rintro e v3 ⟨rfl, hv3⟩
    go_wp2_with fail
    go_ret
    exact ⟨rfl, hxw.trans ((e4.trans (hv1.trans hv2)).trans hv3)⟩
  go_simp
  (refine (HSR.out _ (ey3.trans (by repeat (first | with_reducible exact Ext.refl _ | with_reducible assumption | with_reducible refine Ext.drew ?_ | with_reducible refine Ext.drewN ?_ _ | with_reducible refine Ext.alloc ?_ _)))).mono ?_; rintro e wS ⟨A5, c5, rfl, -, hV5, hx5⟩; (try have HN5 := Lib.hid (show wS.cell? ⟨y3.heap.size, 0, none⟩ = some (.slice none 0 0) ∧ wS.cell? ⟨y3.heap.size, 1, none⟩ = some (.slice none 0 0) ∧ wS.frozen? ⟨y3.heap.size, 0, none⟩ = false ∧ wS.frozen? ⟨y3.heap.size, 1, none⟩ = false from new_tab (Ext.trans (Ext.refl _).drew hx5))); (try obtain ⟨z0, z1, f0, f1⟩ := HN5.out); replace hx5 : Ext y3 wS := Ext.trans (by repeat (first | with_reducible exact Ext.refl _ | with_reducible assumption | with_reducible refine Ext.drew ?_ | with_reducible refine Ext.drewN ?_ _ | with_reducible refine Ext.alloc ?_ _)) hx5)
  refine hK.out _ _ ?hS6x0 (fun hHeld6 => ?rest6x0)
  case hS6x0 => first | (exact MKR.out _ (by repeat (first | with_reducible exact Ext.refl _ | with_reducible assumption | with_reducible refine Ext.drew ?_ | with_reducible refine Ext.drewN ?_ _ | with_reducible refine Ext.alloc ?_ _ | with_reducible refine Ext.setCell ?_ (by first | exact Nat.le_refl _ | (simp; done) | (simp; omega) | omega) _))) | ((try dsimp only); (exact MKR.out _ (by repeat (first | with_reducible exact Ext.refl _ | with_reducible assumption | with_reducible refine Ext.drew ?_ | with_reducible refine Ext.drewN ?_ _ | with_reducible refine Ext.alloc ?_ _ | with_reducible refine Ext.setCell ?_ (by first | exact Nat.le_refl _ | (simp; done) | (simp; omega) | omega) _))))
  clear hK K
  clear hHeld
  (try simp only [Act.put]); (try simp only [List.setIfInBounds_toArray]); (try simp only [List.set_cons_succ]); (try simp only [List.set_cons_zero])
  refine wpAnyH_take (i := 5) (oi := ⟨(some 46), (.build 25 #[(0, (.tmp 42)), (1, (.tmp 45))]), 25, "law.go:143", #[⟨1, .data⟩, ⟨4, .data⟩], none⟩) (v := ?v10) rfl (by kernel_rfl) (by kernel_rfl) (by kernel_rfl) (fun _ _ _ h => h) (Or.inl ⟨rfl, ?hy10⟩) hHeld6 ?rest10
  case hy10 => (intro w hSw; (try dsimp only at hSw); go_simp <;> first | with_reducible rfl | rw [if_neg (by omega)] | rw [if_pos (by omega)])
  (try simp only [Act.put]); (try simp only [List.setIfInBounds_toArray]); (try simp only [List.set_cons_succ]); (try simp only [List.set_cons_zero])
  refine wpAnyH_ready (rs := [6]) (by kernel_rfl) (by simp) ?_
  refine AllReadyH.cons (o := ⟨(some 9), (.alloc 25), 0, "law.go:143", #[], none⟩) rfl (fun K hK => ?step11x0) ?more11x0
  case more11x0 => exact AllReadyH.nil
  go_simp
  refine hK.out _ _ ?hS11x0 (fun hHeld11 => ?rest11x0)
  case hS11x0 => first | (exact MKR.out _ (by repeat (first | with_reducible exact Ext.refl _ | with_reducible assumption | with_reducible refine Ext.drew ?_ | with_reducible refine Ext.drewN ?_ _ | with_reducible refine Ext.alloc ?_ _ | with_reducible refine Ext.setCell ?_ (by first | exact Nat.le_refl _ | (simp; done) | (simp; omega) | omega) _))) | ((try dsimp only); (exact MKR.out _ (by repeat (first | with_reducible exact Ext.refl _ | with_reducible assumption | with_reducible refine Ext.drew ?_ | with_reducible refine Ext.drewN ?_ _ | with_reducible refine Ext.alloc ?_ _ | with_reducible refine Ext.setCell ?_ (by first | exact Nat.le_refl _ | (simp; done) | (simp; omega) | omega) _))))
  clear hK K
  clear hHeld6
  (try simp only [Act.put]); (try simp only [List.setIfInBounds_toArray]); (try simp only [List.set_cons_succ]); (try simp only [List.set_cons_zero])
  refine wpAnyH_ready (rs := [7]) (by kernel_rfl) (by simp) ?_
  refine AllReadyH.cons (o := ⟨none, (.store 25 (.tmp 9) (.tmp 46)), 0, "law.go:143", #[⟨6, .data⟩, ⟨5, .data⟩, ⟨4, .chain⟩, ⟨0, .phase⟩, ⟨1, .phase⟩, ⟨2, .phase⟩, ⟨3, .phase⟩, ⟨4, .phase⟩, ⟨5, .phase⟩, ⟨6, .phase⟩], none⟩) rfl (fun K hK => ?step12x0) ?more12x0
  case more12x0 => exact AllReadyH.nil
  go_simp
  refine hK.out _ _ ?hS12x0 (fun hHeld12 => ?rest12x0)
  case hS12x0 => first | (exact MKR.out _ (by repeat (first | with_reducible exact Ext.refl _ | with_reducible assumption | with_reducible refine Ext.drew ?_ | with_reducible refine Ext.drewN ?_ _ | with_reducible refine Ext.alloc ?_ _ | with_reducible refine Ext.setCell ?_ (by first | exact Nat.le_refl _ | (simp; done) | (simp; omega) | omega) _))) | ((try dsimp only); (exact MKR.out _ (by repeat (first | with_reducible exact Ext.refl _ | with_reducible assumption | with_reducible refine Ext.drew ?_ | with_reducible refine Ext.drewN ?_ _ | with_reducible refine Ext.alloc ?_ _ | with_reducible refine Ext.setCell ?_ (by first | exact Nat.le_refl _ | (simp; done) | (simp; omega) | omega) _))))
  clear hK K
  clear hHeld11
  (try simp only [Act.put]); (try simp only [List.setIfInBounds_toArray]); (try simp only [List.set_cons_succ]); (try simp only [List.set_cons_zero])
  refine wpAnyH_done (by kernel_rfl) ?_ _
  clear hHeld12
  clear MKR HSR
  have HY := Lib.hid hV5
  first
  | (obtain ⟨g4, y4, hg4, hV4, g40, g41, hxy4⟩ := box_tab wS A A5 a.cols.length c a.rows.length c5 25; rw [← hV4, ← hg4]; have T4x := Lib.hid (show TabAt y4 (fun _ => True) A A5 (sortT a) from ⟨((HTW.out.cols.ext hx5).ext hxy4).any, (hV5.ext hxy4).to (fun _ _ => trivial)⟩); replace hx5 : Ext y3 y4 := hx5.trans hxy4; clear hg4 hV4 hxy4)
  | (obtain ⟨z0, z1, f0, f1⟩ := HN5.out; obtain ⟨g40, g41⟩ := set2_cells (u0 := .slice A a.cols.length c) (u1 := .slice A5 a.rows.length c5) z0 z1; obtain ⟨y4, hV4⟩ : ∃ V, V = (wS.setCell ⟨y3.heap.size, 0, none⟩ (.slice A a.cols.length c)).setCell ⟨y3.heap.size, 1, none⟩ (.slice A5 a.rows.length c5) := ⟨_, rfl⟩; have hex : Ext y3 y4 := (by rw [hV4]; exact (by repeat (first | with_reducible exact Ext.refl _ | with_reducible assumption | with_reducible refine Ext.drew ?_ | with_reducible refine Ext.drewN ?_ _ | with_reducible refine Ext.alloc ?_ _ | with_reducible refine Ext.setCell ?_ (by first | exact Nat.le_refl _ | (simp; done) | (simp; omega) | omega) _))); have T4x := Lib.hid (show TabAt y4 (fun _ => True) A A5 (sortT a) by rw [hV4]; exact ⟨((HTW.out.cols.ext (show Ext y3 ((wS.setCell ⟨y3.heap.size, 0, none⟩ (.slice A a.cols.length c)).setCell ⟨y3.heap.size, 1, none⟩ (.slice A5 a.rows.length c5)) from (by repeat (first | with_reducible exact Ext.refl _ | with_reducible assumption | with_reducible refine Ext.drew ?_ | with_reducible refine Ext.drewN ?_ _ | with_reducible refine Ext.alloc ?_ _ | with_reducible refine Ext.setCell ?_ (by first | exact Nat.le_refl _ | (simp; done) | (simp; omega) | omega) _))))).any, (hV5.keep (fun b o x hb hc => (cell_set2 wS b o y3.heap.size (by have := hb; simp at this; omega)).trans hc) (fun _ _ => trivial))⟩); rw [← hV4] at g40 g41 ⊢; replace hx5 := hex; obtain ⟨g4, hg4⟩ : ∃ g, g = y3.heap.size := ⟨_, rfl⟩; rw [← hg4] at g40 g41 ⊢; clear hg4 hV4 hex z0 z1 f0 f1)
  clear HY hV5 HTW
  have e4 : Ext w2 y4 := ey3.trans hx5
  replace g10 := hx5.cell g10
  replace g11 := hx5.cell g11
  replace T1x := T1x.ext hx5
  replace g20 := hx5.cell g20
  replace g21 := hx5.cell g21
  replace T2x := T2x.ext hx5
  replace g30 := hx5.cell g30
  replace g31 := hx5.cell g31
  clear u0 u1 T3x
  have u0 := e4.cell q0
  have u1 := e4.cell q1
  go_wp2_with fail
  refine (sort_same a _ _ A1x B1x A A5 c1x d1x c c5 y4 T1x T4x.out HBD.out).mono ?_
  rintro e v1 ⟨rfl, hv1⟩
  replace hv1 : Ext y4 v1 := hv1
  replace g20 := hv1.cell g20
  replace g21 := hv1.cell g21
  replace g30 := hv1.cell g30
  replace g31 := hv1.cell g31
  replace g40 := hv1.cell g40
  replace g41 := hv1.cell g41
  replace u0 := hv1.cell u0
  replace u1 := hv1.cell u1
  go_wp2_with fail
  refine (sort_same a _ _ A2x B2x A A5 c2x d2x c c5 v1 (T2x.ext hv1) (T4x.out.ext hv1) HBD.out).mono ?_
  rintro e v2 ⟨rfl, hv2⟩
  replace g30 := hv2.cell g30
  replace g31 := hv2.cell g31
  replace u0 := hv2.cell u0
  replace u1 := hv2.cell u1
  go_wp2_with fail
  refine (HAL.out _ (e4.trans (hv1.trans hv2))).mono ?_
  rintro e v3 ⟨rfl, hv3⟩
  go_wp2_with fail
  go_ret
  exact ⟨rfl, hxw.trans ((e4.trans (hv1.trans hv2)).trans hv3)⟩
end Go.Proofs.YtbjddimafilflaaGreatDoor
