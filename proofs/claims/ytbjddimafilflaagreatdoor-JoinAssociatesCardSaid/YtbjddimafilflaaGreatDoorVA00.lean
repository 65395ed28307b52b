/- PARTS OF THE WALKS, joined: Le. -/
import Derived.Test.YtbjddimafilflaaGreatDoorV00
import Derived.Test.YtbjddimafilflaaGreatDoorV01
import Derived.Test.YtbjddimafilflaaGreatDoorV02
import Derived.Test.YtbjddimafilflaaGreatDoorV03
import Derived.Test.YtbjddimafilflaaGreatDoorV04
import Derived.Test.YtbjddimafilflaaGreatDoorV05
import Derived.Test.YtbjddimafilflaaGreatDoorV06
import Derived.Test.YtbjddimafilflaaGreatDoorV07
import Derived.Test.YtbjddimafilflaaGreatDoorV08
import Derived.Test.YtbjddimafilflaaGreatDoorV09
import Derived.Test.YtbjddimafilflaaGreatDoorV10
import Derived.Test.YtbjddimafilflaaGreatDoorV11
import Derived.Test.YtbjddimafilflaaGreatDoorV12
import Derived.Test.YtbjddimafilflaaGreatDoorV13
import Derived.Test.YtbjddimafilflaaGreatDoorV14
import Derived.Test.YtbjddimafilflaaGreatDoorV15
import Derived.Test.YtbjddimafilflaaGreatDoorV16
import Derived.Test.YtbjddimafilflaaGreatDoorV17
import Derived.Test.YtbjddimafilflaaGreatDoorV18
import Derived.Test.YtbjddimafilflaaGreatDoorV19
import Derived.Test.YtbjddimafilflaaGreatDoorV20
import Derived.Test.YtbjddimafilflaaGreatDoorV21
import Derived.Deep.RegionHeld3
import Derived.Maps.OwnOps
import Derived.Maps.OwnSet
import Derived.Lib.AppendZerosOnto
import Derived.Lib.ItoaNum
import Derived.Lib.AtoiAll
import Derived.Deep.CutBlock
import Derived.Deep.DeepCutAuto
import Derived.Lib.BitFns
import Derived.Test.YtbjddimafilflaaGreatDoorShelf
import Derived.Shelf.Spec.BitsCarry
import Derived.Deep.Cut
import Derived.Deep.QuietTactic
import Derived.BigQuiet
import Derived.Test.YtbjddimafilflaaGreatDoorProg
import Derived.WalkKit
import Derived.WalkSpells
import Derived.WalkLawsBesides
import Derived.Lib.Hide
import Derived.Sort.Walk0
import Derived.Lib.Small
import Derived.Laws.CopyRow
import Derived.Lib.SlFresh
import Derived.Laws.AppendOwn
import Derived.Laws.OwnMore
import Derived.OwnWalk
import Derived.Deep.AppendLies
import Derived.Deep.MidRow
import Derived.Below
import Derived.Laws.Rows
import Derived.Deep.Draws
import Derived.Maps.AppendAt
import Derived.Laws.MakeOwn
import Derived.Laws.BitsAllLaws
import Derived.BigRegion
import Derived.Sort.LotA
import Derived.OneCell
import Derived.Deep.RegionHeld
/- THE WALK over the law JoinAssociates. -/
namespace Go.Proofs.YtbjddimafilflaaGreatDoor
open Go.RowKit Go.Sort
theorem sameT_refl (t : Tab) : sameT t t = true := by unfold sameT; simp
theorem box_tabs3 (w : World) (A B A' B' A2 B2 : Option Addr) (n c m d n' c' m' d' n2 c2 m2 d2 : Nat) (t : TypeId) : ∃ (q : Nat) (w3 : World), q = w.heap.size ∧ w3 = ((w.alloc (.cells #[.slice A n c, .slice B m d] t)).alloc (.cells #[.slice A' n' c', .slice B' m' d'] t)).alloc (.cells #[.slice A2 n2 c2, .slice B2 m2 d2] t) ∧
    w3.cell? ⟨q, 0, none⟩ = some (.slice A n c) ∧ w3.cell? ⟨q, 1, none⟩ = some (.slice B m d) ∧ w3.cell? ⟨q + 1, 0, none⟩ = some (.slice A' n' c') ∧ w3.cell? ⟨q + 1, 1, none⟩ = some (.slice B' m' d') ∧ w3.cell? ⟨q + 1 + 1, 0, none⟩ = some (.slice A2 n2 c2) ∧ w3.cell? ⟨q + 1 + 1, 1, none⟩ = some (.slice B2 m2 d2) ∧ Ext w w3 := by
  obtain ⟨q, w2, hq, hw2, h0, h1, h2, h3, hx⟩ := box_tab2 w A B A' B' n c m d n' c' m' d' t t
  obtain ⟨q', w3, hq', hw3, h4, h5, hx3⟩ := box_tab w2 A2 B2 n2 c2 m2 d2 t
  have e : q' = q + 1 + 1 := by rw [hq', hq, hw2]; simp
  subst e
  exact ⟨q, w3, hq, by rw [hw3, hw2], hx3.cell h0, hx3.cell h1, hx3.cell h2, hx3.cell h3, h4, h5, hx.trans hx3⟩
theorem natR_len2 (a b : Tab) : (natR a b).length ≤ a.rows.length * b.rows.length := by
  rw [← accR_end]
  exact accR_len a b a.rows.length 0
theorem rest_small {a b : List ByteArray} {y : List Val} (hy : y.length = b.length) (hw : wtL y ≤ 300) (hb : b.length ≤ 10) : wtL (restJ a b y) ≤ 3000 :=
  Nat.le_trans (part_wt y _ (fun i hi => by rw [hy]; exact othersK_lt hi)) (Nat.le_trans (Nat.mul_le_mul (Nat.le_trans othersK_len hb) hw) (by decide))
theorem cols_small {a b : List ByteArray} : (colsJ a b).length ≤ a.length + b.length := by
  rw [cols_len]; have := othN_le a b; omega
theorem cols_size {a b : List ByteArray} (ha : ∀ s ∈ a, s.size ≤ maxLen) (hb : ∀ s ∈ b, s.size ≤ maxLen) : ∀ s ∈ colsJ a b, s.size ≤ maxLen := fun s hs => (mem_cols.1 hs).elim (ha s) (hb s)
/-- a join of two small tables of few rows is of modest size -/
theorem natT_fit {a b : Tab} (ha : Sm a) (hb : Sm b) (h1 : a.rows.length ≤ 12) (h2 : b.rows.length ≤ 12) (hsa : ∀ r ∈ a.rows, szL r) (hsb : ∀ r ∈ b.rows, szL r) (ca : chkT a = 0) (cb : chkT b = 0) : TabFit (natT a b) := by
  rw [natT_ok ca cb]
  obtain ⟨nb, lb⟩ := chkT_zero cb
  refine ⟨Nat.le_trans cols_small (by have := ha.1; have := hb.1; omega), ?_, fun r hr => ?_⟩
  · show (sortO ordL (natR a b)).length ≤ 2000
    rw [sortO_len TotC.row]
    have h3 := natR_len2 a b
    have h4 : a.rows.length * b.rows.length ≤ 12 * 12 := Nat.mul_le_mul h1 h2
    omega
  · obtain ⟨x, hx, y, hy, -, rfl⟩ := natR_mem (sortO_mem hr)
    have k1 := wtR_mem hx
    have k2 := wtR_mem hy
    have k3 := ha.2.1
    have k4 := hb.2.1
    have k5 := rest_small (a := a.cols) (lb y hy) (by omega) hb.1
    refine ⟨szL_app (hsa x hx) (part_sz (hsb y hy) (fun i hi => by rw [lb y hy]; exact othersK_lt hi)), ?_⟩
    rw [wtL_append]; omega
set_option maxRecDepth 100000 in
set_option maxHeartbeats 6400000 in
theorem l_JoinAssociates (a b t : Tab) (ok ok' ok2 : Nat → Prop) (A A' A2 B B' B2 : Option Addr) (c c' c2 d d' d2 : Nat) (w : World) (hz : ZeroAt w) (ha : TabAt w ok A B a) (hb : TabAt w ok' A' B' b) (ht : TabAt w ok2 A2 B2 t) (hsa : ∀ s ∈ a.cols, s.size ≤ maxLen) (hsb : ∀ s ∈ b.cols, s.size ≤ maxLen) (hst : ∀ s ∈ t.cols, s.size ≤ maxLen) (hra : ∀ r ∈ a.rows, szL r) (hrb : ∀ r ∈ b.rows, szL r) (hrt : ∀ r ∈ t.rows, szL r) (hcp : a.cols.length ≤ c) (hcp' : b.cols.length ≤ c') (hcp2 : t.cols.length ≤ c2) :
    Calls Tryz.prog 4 #[.agg #[.slice A a.cols.length c, .slice B a.rows.length d], .agg #[.slice A' b.cols.length c', .slice B' b.rows.length d'], .agg #[.slice A2 t.cols.length c2, .slice B2 t.rows.length d2]] w fun e w' => e = .returned (.bool true) ∧ Ext w w' := by
  obtain ⟨q, w2, hq, hw2, q0, q1, p0, p1, o0, o1, hxw⟩ := box_tabs3 w A B A' B' A2 B2 a.cols.length c a.rows.length d b.cols.length c' b.rows.length d' t.cols.length c2 t.rows.length d2 25
  have HAL := Lib.hid (fun W (e : Ext w2 W) => l_alive W (hz.ext (hxw.trans e)))
  have HZ := Lib.hid (hz.ext hxw)
  have HS1 := Lib.hid (fun W (e : Ext w2 W) => l_small a ok A B c d W (ha.ext (hxw.trans e)) hra)
  have HK1 := Lib.hid (fun W (e : Ext w2 W) => r_Check a ok A B c d W (ha.ext (hxw.trans e)) hcp)
  have HT1 := Lib.hid (ha.ext hxw)
  have HR1 := Lib.hid hra
  have HM1 := Lib.hid hsa
  have hml1 := ha.rows.len
  have HS2 := Lib.hid (fun W (e : Ext w2 W) => l_small b ok' A' B' c' d' W (hb.ext (hxw.trans e)) hrb)
  have HK2 := Lib.hid (fun W (e : Ext w2 W) => r_Check b ok' A' B' c' d' W (hb.ext (hxw.trans e)) hcp')
  have HT2 := Lib.hid (hb.ext hxw)
  have HR2 := Lib.hid hrb
  have HM2 := Lib.hid hsb
  have hml2 := hb.rows.len
  have HS3 := Lib.hid (fun W (e : Ext w2 W) => l_small t ok2 A2 B2 c2 d2 W (ht.ext (hxw.trans e)) hrt)
  have HK3 := Lib.hid (fun W (e : Ext w2 W) => r_Check t ok2 A2 B2 c2 d2 W (ht.ext (hxw.trans e)) hcp2)
  have HT3 := Lib.hid (ht.ext hxw)
  have HR3 := Lib.hid hrt
  have HM3 := Lib.hid hst
  have hml3 := ht.rows.len
  have HW2 := Lib.hid hw2
  have HG := Lib.hid hq
  clear ha hb ht hz hsa hsb hst hra hrb hrt hcp hcp' hcp2 hw2 hq
  obtain ⟨z1, hz1⟩ : ∃ z, z = chkT a := ⟨_, rfl⟩
  obtain ⟨z2, hz2⟩ : ∃ z, z = chkT b := ⟨_, rfl⟩
  obtain ⟨z3, hz3⟩ : ∃ z, z = chkT t := ⟨_, rfl⟩
  rw [← hz1] at HK1
  rw [← hz2] at HK2
  rw [← hz3] at HK3
  have HZ1 := Lib.hid hz1
  have HZ2 := Lib.hid hz2
  have HZ3 := Lib.hid hz3
  clear hz1 hz2 hz3
  go_enter Tryz.func4, Tryz.ntmps4
  go_upto_region 1 with (fail)
  rw [← HW2.out, ← HG.out]
  clear HW2 HG
  go_wp2_with fail
  refine (HS1.out _ (Ext.refl _)).mono ?_
  rintro e m1 ⟨s1, rfl, hs1, hm1⟩
  have u0 := (hm1).cell q0
  have u1 := (hm1).cell q1
  have v0 := (hm1).cell p0
  have v1 := (hm1).cell p1
  have x0 := (hm1).cell o0
  have x1 := (hm1).cell o1
  cases s1
  · clear hs1
    go_wp2_with (go_at_call 11; ((with_reducible refine (HAL.out _ hm1).mono ?_); rintro e wE ⟨rfl, hxE⟩))
    go_ret
    exact ⟨rfl, hxw.trans (hm1.trans hxE)⟩
  have h1 := Lib.hid (hs1 rfl)
  clear hs1
  go_wp2_with fail
  refine (HS2.out _ hm1).mono ?_
  rintro e m2 ⟨s2, rfl, hs2, hm2⟩
  replace hm2 : Ext w2 m2 := hm1.trans hm2
  clear u0 u1 v0 v1 x0 x1
  have u0 := (hm2).cell q0
  have u1 := (hm2).cell q1
  have v0 := (hm2).cell p0
  have v1 := (hm2).cell p1
  have x0 := (hm2).cell o0
  have x1 := (hm2).cell o1
  cases s2
  · clear hs2
    go_wp2_with (go_at_call 11; ((with_reducible refine (HAL.out _ hm2).mono ?_); rintro e wE ⟨rfl, hxE⟩))
    go_ret
    exact ⟨rfl, hxw.trans (hm2.trans hxE)⟩
  have h2 := Lib.hid (hs2 rfl)
  clear hs2
  go_wp2_with fail
  refine (HS3.out _ hm2).mono ?_
  rintro e m3 ⟨s3, rfl, hs3, hm3⟩
  replace hm3 : Ext w2 m3 := hm2.trans hm3
  clear u0 u1 v0 v1 x0 x1
  have u0 := (hm3).cell q0
  have u1 := (hm3).cell q1
  have v0 := (hm3).cell p0
  have v1 := (hm3).cell p1
  have x0 := (hm3).cell o0
  have x1 := (hm3).cell o1
  cases s3
  · clear hs3
    go_wp2_with (go_at_call 11; ((with_reducible refine (HAL.out _ hm3).mono ?_); rintro e wE ⟨rfl, hxE⟩))
    go_ret
    exact ⟨rfl, hxw.trans (hm3.trans hxE)⟩
  have h3 := Lib.hid (hs3 rfl)
  clear hs3
  by_cases l1 : a.rows.length ≤ 12
  case neg =>
    go_wp2_with (go_at_call 11; ((with_reducible refine (HAL.out _ hm3).mono ?_); rintro e wE ⟨rfl, hxE⟩))
    go_ret
    exact ⟨rfl, hxw.trans (hm3.trans hxE)⟩
  by_cases l2 : b.rows.length ≤ 12
  case neg =>
    go_wp2_with (go_at_call 11; ((with_reducible refine (HAL.out _ hm3).mono ?_); rintro e wE ⟨rfl, hxE⟩))
    go_ret
    exact ⟨rfl, hxw.trans (hm3.trans hxE)⟩
  by_cases l3 : t.rows.length ≤ 12
  case neg =>
    go_wp2_with (go_at_call 11; ((with_reducible refine (HAL.out _ hm3).mono ?_); rintro e wE ⟨rfl, hxE⟩))
    go_ret
    exact ⟨rfl, hxw.trans (hm3.trans hxE)⟩
  go_wp2_with fail
  refine (HK1.out _ hm3).mono ?_
  rintro e n1 ⟨rfl, hn1⟩
  replace hn1 : Ext w2 n1 := hm3.trans hn1
  clear u0 u1 v0 v1 x0 x1
  have u0 := (hn1).cell q0
  have u1 := (hn1).cell q1
  have v0 := (hn1).cell p0
  have v1 := (hn1).cell p1
  have x0 := (hn1).cell o0
  have x1 := (hn1).cell o1
  by_cases k1 : z1 = 0
  case neg =>
    go_wp2_with (go_at_call 11; ((with_reducible refine (HAL.out _ hn1).mono ?_); rintro e wE ⟨rfl, hxE⟩))
    go_ret
    exact ⟨rfl, hxw.trans (hn1.trans hxE)⟩
  subst k1
  go_wp2_with fail
  refine (HK2.out _ hn1).mono ?_
  rintro e n2 ⟨rfl, hn2⟩
  replace hn2 : Ext w2 n2 := hn1.trans hn2
  clear u0 u1 v0 v1 x0 x1
  have u0 := (hn2).cell q0
  have u1 := (hn2).cell q1
  have v0 := (hn2).cell p0
  have v1 := (hn2).cell p1
  have x0 := (hn2).cell o0
  have x1 := (hn2).cell o1
  by_cases k2 : z2 = 0
  case neg =>
    go_wp2_with (go_at_call 11; ((with_reducible refine (HAL.out _ hn2).mono ?_); rintro e wE ⟨rfl, hxE⟩))
    go_ret
    exact ⟨rfl, hxw.trans (hn2.trans hxE)⟩
  subst k2
  go_wp2_with fail
  refine (HK3.out _ hn2).mono ?_
  rintro e n3 ⟨rfl, hn3⟩
  replace hn3 : Ext w2 n3 := hn2.trans hn3
  clear u0 u1 v0 v1 x0 x1
  have u0 := (hn3).cell q0
  have u1 := (hn3).cell q1
  have v0 := (hn3).cell p0
  have v1 := (hn3).cell p1
  have x0 := (hn3).cell o0
  have x1 := (hn3).cell o1
  by_cases k3 : z3 = 0
  case neg =>
    have kk : (z3 != 0) = true := by simp [k3]
    go_wp2_with (go_at_call 11; ((with_reducible refine (HAL.out _ hn3).mono ?_); rintro e wE ⟨rfl, hxE⟩))
    go_ret
    exact ⟨rfl, hxw.trans (hn3.trans hxE)⟩
  subst k3
  have F1 := Lib.hid (natT_fit h1.out h2.out l1 l2 HR1.out HR2.out HZ1.out.symm HZ2.out.symm)
  have F2 := Lib.hid (natT_fit h2.out h3.out l2 l3 HR2.out HR3.out HZ2.out.symm HZ3.out.symm)
  have M1 := Lib.hid (show ∀ s ∈ (natT a b).cols, s.size ≤ maxLen by rw [natT_ok HZ1.out.symm HZ2.out.symm]; exact cols_size HM1.out HM2.out)
  have M2 := Lib.hid (show ∀ s ∈ (natT b t).cols, s.size ≤ maxLen by rw [natT_ok HZ2.out.symm HZ3.out.symm]; exact cols_size HM2.out HM3.out)
  have C1 := Lib.hid (natT_chk HZ1.out.symm HZ2.out.symm)
  have C2 := Lib.hid (natT_chk HZ2.out.symm HZ3.out.symm)
  have HC1 := Lib.hid (fun W (e : Ext w2 W) => j_Natural a b ok ok' A A' B B' c c' d d' W (HZ.out.ext e) (HT1.out.ext e) (HT2.out.ext e) (h1.out.fit HR1.out) (h2.out.fit HR2.out) HM1.out HM2.out)
  have HC2 := Lib.hid (fun W (m : Nat) X Y x y (e : Ext w2 W) (hT : TabAt W (fun b => m ≤ b) X Y (natT a b)) => j_Natural (natT a b) t (fun b => m ≤ b) ok2 X A2 Y B2 x c2 y d2 W (HZ.out.ext e) hT (HT3.out.ext e) F1.out (h3.out.fit HR3.out) M1.out HM3.out)
  have HC3 := Lib.hid (fun W (e : Ext w2 W) => j_Natural b t ok' ok2 A' A2 B' B2 c' c2 d' d2 W (HZ.out.ext e) (HT2.out.ext e) (HT3.out.ext e) (h2.out.fit HR2.out) (h3.out.fit HR3.out) HM2.out HM3.out)
  have HC4 := Lib.hid (fun W (m : Nat) X Y x y (e : Ext w2 W) (hT : TabAt W (fun b => m ≤ b) X Y (natT b t)) => j_Natural a (natT b t) ok (fun b => m ≤ b) A X B Y c x d y W (HZ.out.ext e) (HT1.out.ext e) hT (h1.out.fit HR1.out) F2.out HM1.out M2.out)
  rw [errJ_ok HZ1.out.symm HZ2.out.symm] at HC1
  rw [errJ_ok C1.out HZ3.out.symm] at HC2
  rw [errJ_ok HZ2.out.symm HZ3.out.symm] at HC3
  rw [errJ_ok HZ1.out.symm C2.out, ← nat_assoc HZ1.out.symm HZ2.out.symm HZ3.out.symm] at HC4
  have HSZ := Lib.hid (natT_sz (a := natT a b) (b := t) F1.out (h3.out.fit HR3.out))
  generalize natT (natT a b) t = tF at *
  generalize natT a b = tN at *
  generalize natT b t = tM at *
  clear F1 F2 M1 M2 C1 C2 HT1 HT2 HT3 HK1 HK2 HK3 HS1 HS2 HS3 HZ1 HZ2 HZ3 HM1 HM2 HM3 HR1 HR2 HR3
  go_wp2_with fail
  refine (HC1.out _ hn3).mono ?_
  rintro e f1 ⟨A1x, B1x, c1x, d1x, rfl, -, -, T1x, hf1⟩
  have ef1 : Ext w2 f1 := hn3.trans hf1
  clear u0 u1 v0 v1 x0 x1
  have u0 := (ef1).cell q0
  have u1 := (ef1).cell q1
  have v0 := (ef1).cell p0
  have v1 := (ef1).cell p1
  have x0 := (ef1).cell o0
  have x1 := (ef1).cell o1
  have rf12 : q + 1 + 1 < f1.heap.size := block_lt_of_cell x0
  have rf11 : q + 1 < f1.heap.size := block_lt_of_cell v0
  have rf10 : q < f1.heap.size := block_lt_of_cell u0
  go_wp2_with fail
  obtain ⟨g1, y1, hg1, hV1, g10, g11, hxy1⟩ := box_tab f1 A1x B1x tN.cols.length c1x tN.rows.length d1x 25
  rw [← hV1, ← hg1]
  have ey1 : Ext w2 y1 := ef1.trans hxy1
  replace T1x := T1x.ext hxy1
  clear hg1 hV1 rf10 rf11 rf12 u0 u1 v0 v1 x0 x1 hf1 ef1 hxy1
  refine (HC2.out _ _ A1x B1x c1x d1x ey1 T1x).mono ?_
  rintro e f2 ⟨A2x, B2x, c2x, d2x, rfl, -, -, T2x, hf2⟩
  have ef2 : Ext w2 f2 := ey1.trans hf2
  have u0 := (ef2).cell q0
  have u1 := (ef2).cell q1
  have v0 := (ef2).cell p0
  have v1 := (ef2).cell p1
  have x0 := (ef2).cell o0
  have x1 := (ef2).cell o1
  have rf22 : q + 1 + 1 < f2.heap.size := block_lt_of_cell x0
  have rf21 : q + 1 < f2.heap.size := block_lt_of_cell v0
  have rf20 : q < f2.heap.size := block_lt_of_cell u0
  replace g10 := hf2.cell g10
  replace g11 := hf2.cell g11
  have rg1f2 : g1 < f2.heap.size := block_lt_of_cell g10
  replace T1x := T1x.ext hf2
  go_wp2_with fail
  obtain ⟨g2, y2, hg2, hV2, g20, g21, hxy2⟩ := box_tab f2 A2x B2x tF.cols.length c2x tF.rows.length d2x 25
  rw [← hV2, ← hg2]
  have ey2 : Ext w2 y2 := ef2.trans hxy2
  replace T2x := T2x.ext hxy2
  replace g10 := hxy2.cell g10
  replace g11 := hxy2.cell g11
  replace T1x := T1x.ext hxy2
  clear hg2 hV2 rf20 rf21 rf22 u0 u1 v0 v1 x0 x1 hf2 ef2 hxy2 rg1f2
  refine (HC3.out _ ey2).mono ?_
  rintro e f3 ⟨A3x, B3x, c3x, d3x, rfl, -, -, T3x, hf3⟩
  have ef3 : Ext w2 f3 := ey2.trans hf3
  have u0 := (ef3).cell q0
  have u1 := (ef3).cell q1
  have v0 := (ef3).cell p0
  have v1 := (ef3).cell p1
  have x0 := (ef3).cell o0
  have x1 := (ef3).cell o1
  have rf32 : q + 1 + 1 < f3.heap.size := block_lt_of_cell x0
  have rf31 : q + 1 < f3.heap.size := block_lt_of_cell v0
  have rf30 : q < f3.heap.size := block_lt_of_cell u0
  replace g10 := hf3.cell g10
  replace g11 := hf3.cell g11
  have rg1f3 : g1 < f3.heap.size := block_lt_of_cell g10
  replace T1x := T1x.ext hf3
  replace g20 := hf3.cell g20
  replace g21 := hf3.cell g21
  have rg2f3 : g2 < f3.heap.size := block_lt_of_cell g20
  replace T2x := T2x.ext hf3
  go_wp2_with fail
  obtain ⟨g3, y3, hg3, hV3, g30, g31, hxy3⟩ := box_tab f3 A3x B3x tM.cols.length c3x tM.rows.length d3x 25
  rw [← hV3, ← hg3]
  have ey3 : Ext w2 y3 := ef3.trans hxy3
  replace T3x := T3x.ext hxy3
  replace g10 := hxy3.cell g10
  replace g11 := hxy3.cell g11
  replace T1x := T1x.ext hxy3
  replace g20 := hxy3.cell g20
  replace g21 := hxy3.cell g21
  replace T2x := T2x.ext hxy3
  clear hg3 hV3 rf30 rf31 rf32 u0 u1 v0 v1 x0 x1 hf3 ef3 hxy3 rg1f3 rg2f3
  refine (HC4.out _ _ A3x B3x c3x d3x ey3 T3x).mono ?_
  rintro e f4 ⟨A4x, B4x, c4x, d4x, rfl, -, -, T4x, hf4⟩
  have ef4 : Ext w2 f4 := ey3.trans hf4
  have u0 := (ef4).cell q0
  have u1 := (ef4).cell q1
  have v0 := (ef4).cell p0
  have v1 := (ef4).cell p1
  have x0 := (ef4).cell o0
  have x1 := (ef4).cell o1
  have rf42 : q + 1 + 1 < f4.heap.size := block_lt_of_cell x0
  have rf41 : q + 1 < f4.heap.size := block_lt_of_cell v0
  have rf40 : q < f4.heap.size := block_lt_of_cell u0
  replace g10 := hf4.cell g10
  replace g11 := hf4.cell g11
  have rg1f4 : g1 < f4.heap.size := block_lt_of_cell g10
  replace T1x := T1x.ext hf4
  replace g20 := hf4.cell g20
  replace g21 := hf4.cell g21
  have rg2f4 : g2 < f4.heap.size := block_lt_of_cell g20
  replace T2x := T2x.ext hf4
  replace g30 := hf4.cell g30
  replace g31 := hf4.cell g31
  have rg3f4 : g3 < f4.heap.size := block_lt_of_cell g30
  replace T3x := T3x.ext hf4
  go_upto_region 7 with (fail)
  obtain ⟨g4, y4, hg4, hV4, g40, g41, hxy4⟩ := box_tab f4 A4x B4x tF.cols.length c4x tF.rows.length d4x 25
  rw [← hV4, ← hg4]
  have ey4 : Ext w2 y4 := ef4.trans hxy4
  replace T4x := T4x.ext hxy4
  replace g10 := hxy4.cell g10
  replace g11 := hxy4.cell g11
  replace T1x := T1x.ext hxy4
  replace g20 := hxy4.cell g20
  replace g21 := hxy4.cell g21
  replace T2x := T2x.ext hxy4
  replace g30 := hxy4.cell g30
  replace g31 := hxy4.cell g31
  replace T3x := T3x.ext hxy4
  clear hg4 hV4 rf40 rf41 rf42 u0 u1 v0 v1 x0 x1 hf4 ef4 hxy4 rg1f4 rg2f4 rg3f4
  have HSM := Lib.hid (r_Same tF tF _ _ A2x B2x A4x B4x c2x d2x c4x d4x y4 T2x T4x HSZ.out HSZ.out)
  rw [sameT_refl] at HSM
  go_wp2_with fail
  refine (HSM.out).mono ?_
  rintro e z4 ⟨rfl, hz4⟩
  go_wp2_with fail
  refine (HAL.out _ (ey4.trans hz4)).mono ?_
  rintro e z5 ⟨rfl, hz5⟩
  go_wp2_with fail
  go_ret
  exact ⟨rfl, hxw.trans ((ey4.trans hz4).trans hz5)⟩
end Go.Proofs.YtbjddimafilflaaGreatDoor
