/- PARTS OF THE WALKS, joined: CpH, Gf, Gg, OwnD. -/
import Derived.Test.YtnheioehadldmaaGreatR12
import Derived.Test.YtnheioehadldmaaGreatR16
import Derived.Test.YtnheioehadldmaaGreatR13
import Derived.Maps.OwnOps
import Derived.Maps.OwnSet
import Derived.Test.YtnheioehadldmaaGreatR05
import Derived.Test.YtnheioehadldmaaGreatR09
import Derived.Test.YtnheioehadldmaaGreatR04
/- THE WALK over column.Of. -/
namespace Go.Proofs.YtnheioehadldmaaGreat
open Go.RowKit Go.Maps Go.Sort
/-- how many different ones a list has -/
theorem same_int (a b : Int) : (lkC a).sameKey (lkC b) = decide (a = b) := by
  unfold Lit.sameKey lkC
  rw [Bool.eq_iff_iff]; simp
theorem addKeysI (l : List Int) : ∀ acc : List Int, ((l.map lkC).foldl Maps.addKey (acc.map lkC)).length ≤ acc.length + l.length ∧ (acc.Nodup → ((l.map lkC).foldl Maps.addKey (acc.map lkC)).length = acc.length + l.length → (acc ++ l).Nodup) ∧ ((acc ++ l).Nodup → ((l.map lkC).foldl Maps.addKey (acc.map lkC)).length = acc.length + l.length) := by
  induction l with
  | nil => intro acc; simp
  | cons x l ih =>
    intro acc
    rw [List.map_cons, List.foldl_cons]
    have ha : (acc.map lkC).any (fun y => y.sameKey (lkC x)) = decide (x ∈ acc) := by
      rw [List.any_map, Bool.eq_iff_iff, List.any_eq_true]
      simp [same_int]
    by_cases hx : x ∈ acc
    · rw [show Maps.addKey (acc.map lkC) (lkC x) = acc.map lkC by unfold Maps.addKey; rw [ha, if_pos (decide_eq_true hx)]]
      obtain ⟨h1, -, -⟩ := ih acc
      refine ⟨by simp; omega, fun _ h => ?_, fun h => ?_⟩
      · simp at h; omega
      · rw [List.nodup_append] at h
        exact absurd rfl (h.2.2 x hx x (by simp))
    · rw [show Maps.addKey (acc.map lkC) (lkC x) = (acc ++ [x]).map lkC by unfold Maps.addKey; rw [ha, if_neg (by simp [hx])]; simp]
      obtain ⟨h1, h2, h3⟩ := ih (acc ++ [x])
      rw [List.length_append] at h1 h2 h3
      simp only [List.length_cons, List.length_nil, Nat.zero_add] at h1 h2 h3 ⊢
      rw [List.append_assoc, List.singleton_append] at h2 h3
      refine ⟨by omega, fun hn h => h2 ?_ (by omega), fun h => by have := h3 h; omega⟩
      rw [List.nodup_append]
      refine ⟨hn, by simp, fun a ha b hb => ?_⟩
      rw [List.mem_singleton.1 hb]
      exact fun e => hx (e ▸ ha)
theorem set_sizeI (u : DataW Unit) (l : List Int) : (Maps.size (Maps.setOf u (l.map lkC)) < l.length ↔ ¬ l.Nodup) ∧ Maps.size (Maps.setOf u (l.map lkC)) ≤ l.length := by
  rw [Maps.size_setOf u _ (fun x hx => by obtain ⟨s, -, rfl⟩ := List.mem_map.1 hx; trivial)]
  obtain ⟨h1, h2, h3⟩ := addKeysI l []
  simp only [List.map_nil, List.nil_append, List.length_nil, Nat.zero_add] at h1 h2 h3
  refine ⟨⟨fun h hn => ?_, fun h => ?_⟩, h1⟩
  · have := h3 hn; omega
  · rcases Nat.lt_or_eq_of_le h1 with h4 | h4
    · exact h4
    · exact absurd (h2 List.nodup_nil h4) h
theorem ofR_dup {l : List Sh} (ha : ∀ t, t < l.length → okS l[t]! = true) (h : ¬ (l.map Sh.d).Nodup) : ofR l = (7, noCol) := by
  unfold ofR
  rw [if_pos (List.all_eq_true.2 (fun x hx => by obtain ⟨t, ht, rfl⟩ := List.getElem_of_mem hx; rw [← getElem!_pos l t ht]; exact ha t ht)), if_neg h]
theorem ofR_nodup {l : List Sh} (ha : ∀ t, t < l.length → okS l[t]! = true) (h : (l.map Sh.d).Nodup) : ofR l = (0, packC (sortO adjOrd l)) := by
  unfold ofR
  rw [if_pos (List.all_eq_true.2 (fun x hx => by obtain ⟨t, ht, rfl⟩ := List.getElem_of_mem hx; rw [← getElem!_pos l t ht]; exact ha t ht)), if_pos h]
set_option maxRecDepth 100000 in
set_option maxHeartbeats 3200000 in
theorem co_Of (l : List Sh) (ok : Nat → Prop) (A : Option Addr) (c : Nat) (w : World) (hv : Shares w ok A l) (hl : l.length ≤ 8000000) :
    Calls Tryz.prog 14 #[.slice A l.length c] w fun e w' => ∃ A B C D k0 k1 k2 k3, e = .returned (.tuple #[agC (ofR l).2 A B C D k0 k1 k2 k3, .int .i64 (ofR l).1]) ∧ ColAt w' (fun b => w.heap.size ≤ b) A B C D (ofR l).2 ∧ Ext w w' := by
  obtain ⟨q2, w1, hq2, hw1, hrx, hrz, hx1⟩ := box_zero w 29
  have HW1 := Lib.hid hw1
  have HQ2 := Lib.hid hq2
  have HRX := Lib.hid hrx
  have HRZ := Lib.hid hrz
  have HX := Lib.hid hx1
  have HQ := Lib.hid (show w.heap.size ≤ q2 by omega)
  have HQ1 := Lib.hid (show ¬ w1.heap.size ≤ q2 by rw [hw1, hq2]; simp)
  have HV := Lib.hid (hv.ext hx1)
  obtain ⟨E, hEd⟩ : ∃ E, E = l.map Sh.d := ⟨_, rfl⟩
  have hEl : E.length = l.length := by rw [hEd, List.length_map]
  obtain ⟨R, hR⟩ : ∃ R, R = ofR l := ⟨_, rfl⟩
  rw [← hR]
  have HBD := Lib.hid (fun k (hk : k < l.length) (h : okS l[k]! = false) => hR.trans (ofR_bad hk h))
  have HTW := Lib.hid (fun (ha : ∀ t, t < l.length → okS l[t]! = true) (h : ¬ E.Nodup) => hR.trans (ofR_dup ha (by rw [← hEd]; exact h)))
  have HOK := Lib.hid (fun (ha : ∀ t, t < l.length → okS l[t]! = true) (h : E.Nodup) => hR.trans (ofR_nodup ha (by rw [← hEd]; exact h)))
  have HES := Lib.hid (fun k (hk : k < l.length) => (by rw [List.take_succ_eq_append_getElem (by rw [hEl]; exact hk)]; congr 1; rw [getElem!_pos l k hk]; simp [hEd] : E.take (k + 1) = E.take k ++ [l[k]!.d]))
  have HSZ := Lib.hid (by have h := set_sizeI (.lit (.bool true)) E; rw [hEl] at h; exact h : (Maps.size (Maps.setOf (.lit (.bool true)) (E.map lkC)) < l.length ↔ ¬ E.Nodup) ∧ Maps.size (Maps.setOf (.lit (.bool true)) (E.map lkC)) ≤ l.length)
  have HEL := Lib.hid hEl
  clear hR hEd hEl hv hw1 hq2 hrx hrz hx1
  have hmm := @run_makeMap Tryz.prog
  go_enter Tryz.func14, Tryz.ntmps14
  go_upto_region 1 with (fail)
  rw [← HW1.out, ← HQ2.out]
  clear HW1 HQ2
  obtain ⟨mb, hmb⟩ : ∃ mb, mb = w1.heap.size := ⟨_, rfl⟩
  have hmade : (w1.alloc (.map #[] 0)).ownsMap Tryz.prog 3 (plainElem (H := Unit) Tryz.prog 4) w1.heap.size 0 (setOf (.lit (.bool true)) ((E.take 0).map lkC)) := World.ownsMap_made _ _ _ _
  obtain ⟨w3, hw3⟩ : ∃ w3, w3 = w1.alloc (.map #[] 0) := ⟨_, rfl⟩
  have hx3 : Ext w1 w3 := by rw [hw3]; exact (Ext.refl _).alloc _
  rw [← hw3, ← hmb] at hmade
  have HM := Lib.hid hmade
  have HX3 := Lib.hid hx3
  have HMB := Lib.hid (show w1.heap.size ≤ mb by omega)
  clear hmade hx3
  go_upto_region 2 with (fail)
  rw [← hw3, ← hmb]
  clear hw3 hmb hmm
  go_wp2_with fail
  go_loopw [10] (fun u W => ∃ k : Nat, u = .int .i64 k ∧ k ≤ l.length ∧ Hid (W.ownsMap Tryz.prog 3 (plainElem (H := Unit) Tryz.prog 4) mb k (setOf (.lit (.bool true)) ((E.take k).map lkC))) ∧ Hid (∀ t, t < k → okS l[t]! = true) ∧ Hid (Ext w1 W)) (fun u _ => l.length - (intOf u).toNat)
  case atStart => exact ⟨0, rfl, Nat.zero_le _, HM, Lib.hid (fun t h => absurd h (by omega)), HX3⟩
  case round =>
    clear HM HX3
    obtain ⟨k, rfl, hk, hown, HA, hE⟩ := hrel
    by_cases hlt : k < l.length
    · clear HTW HOK HQ1 HSZ
      obtain ⟨b, o, rfl, hc⟩ := HV.out.at_ hlt
      obtain ⟨-, d0, d1, d2⟩ := hc k hlt
      replace d0 := hE.out.cell d0
      replace d1 := hE.out.cell d1
      replace d2 := hE.out.cell d2
      have HB := Lib.hid (HBD.out k hlt)
      have HS := Lib.hid (fun (h : okS l[k]! = true) t (ht : t < k + 1) => (if e : t = k then (by rw [e]; exact h) else HA.out t (by omega) : okS l[t]! = true))
      rw [okS_idB] at HB HS
      have HKEY := Lib.hid (fun (h : idB l[k]!.d = true) => key_idC (idB_iff.1 h))
      have HST := Lib.hid (show (setOf (H := Unit) (.lit (.bool true)) ((E.take k).map lkC)).put (lkC l[k]!.d) (.lit (.bool true)) = setOf (.lit (.bool true)) ((E.take (k + 1)).map lkC) by rw [HES.out k hlt, List.map_append, List.map_cons, List.map_nil, setOf_snoc])
      obtain ⟨y, w2, hy, hw2, ⟨a0, a1, a2⟩, hx2⟩ := box_adj wr l[k]! 41
      have HW2 := Lib.hid hw2
      have HY := Lib.hid hy
      have HX2 := Lib.hid hx2
      have hkm : k < maxLen := by unfold maxLen; omega
      clear hc HBD HA HV hw2 hy
      generalize l[k]!.id = x0 at *
      generalize l[k]!.n = x1 at *
      generalize l[k]!.d = x2 at *
      have MK := Lib.hid (fun V (e : Ext w2 V) => (⟨e.cell a0, e.cell a1, e.cell a2⟩ : (V.cell? ⟨y, 0, none⟩ = some (.int .i64 x0) ∧ V.cell? ⟨y, 1, none⟩ = some (.int .i64 x1) ∧ V.cell? ⟨y, 2, none⟩ = some (.int .i64 x2))))
      have HI0 := Lib.hid (fun W => co_id x0 W)
      have HI1 := Lib.hid (fun W => co_id x1 W)
      have HI2 := Lib.hid (fun W => co_id x2 W)
      generalize idB x0 = b0 at *
      generalize idB x1 = b1 at *
      generalize idB x2 = b2 at *
      have HOW := Lib.hid (fun V (e : Ext w2 V) => (hown.out.kept ((hx2.trans e).gr none) (by simp) : V.ownsMap Tryz.prog 3 (plainElem (H := Unit) Tryz.prog 4) mb k (setOf (.lit (.bool true)) ((E.take k).map lkC))))
      clear hown hx2
      go_upto_region 5 with (fail)
      rw [← HW2.out, ← HY.out]
      clear HW2 HY d0 d1 d2
      cases b0
      · have HNO := Lib.hid (HB.out rfl)
        clear HB HS HI1 HI2
        go_upto_region 6 with (first | (go_at_call 39; ((with_reducible refine (HI0.out _).mono ?_); rintro e v0 ⟨rfl, hy0⟩; replace hy0 : Ext w2 v0 := hy0; clear HI0; obtain ⟨a0, a1, a2⟩ := MK.out _ hy0)))
        clear a0 a1 a2
        obtain ⟨r0, r1, r2, r3⟩ := HRX.out.grown (((hE.out.trans HX2.out).trans hy0).gr none) (by simp)
        obtain ⟨f0, f1, f2, f3⟩ := HRZ.out.grown HRX.out (((hE.out.trans HX2.out).trans hy0).gr none) (by simp)
        obtain ⟨w8, hw8⟩ : ∃ W, W = (((v0.setCell ⟨q2, 0, none⟩ (.slice none 0 0)).setCell ⟨q2, 1, none⟩ (.slice none 0 0)).setCell ⟨q2, 2, none⟩ (.slice none 0 0)).setCell ⟨q2, 3, none⟩ (.slice none 0 0) := ⟨_, rfl⟩
        have hd := set4 (HRX.out.grown (((hE.out.trans HX2.out).trans hy0).gr none) (by simp)) (.slice none 0 0) (.slice none 0 0) (.slice none 0 0) (.slice none 0 0)
        rw [← hw8] at hd
        obtain ⟨e0, e1, e2, e3⟩ := hd
        have HF := Lib.hid (by rw [hw8]; exact ((((HX.out.trans ((hE.out.trans HX2.out).trans hy0)).setCell HQ.out _).setCell HQ.out _).setCell HQ.out _).setCell HQ.out _ : Ext w w8)
        go_wp2_with fail
        (try simp only [Exit.inBlock, Exit.then])
        rw [← hw8]
        clear hw8 r0 r1 r2 r3 f0 f1 f2 f3
        refine bodyPost_ret (v := .tuple #[.agg #[.slice none 0 0, .slice none 0 0, .slice none 0 0, .slice none 0 0], .int .i64 1]) (by simp [results, Tryz.results14, go_sem, *]) rfl ?_
        rw [HNO.out]
        first | exact ⟨none, none, none, none, 0, 0, 0, 0, rfl, ColAt.none _ _, by first | exact HF.out | exact X1 HF.out⟩ | exact ⟨none, none, none, none, ⟨0, 0, 0, 0, rfl⟩, ColAt.none _ _, by first | exact HF.out | exact X1 HF.out⟩
      · cases b1
        · have HNO := Lib.hid (HB.out rfl)
          clear HB HS HI2
          go_upto_region 6 with (first | (go_at_call 39; ((with_reducible refine (HI0.out _).mono ?_); rintro e v0 ⟨rfl, hy0⟩; replace hy0 : Ext w2 v0 := hy0; clear HI0; obtain ⟨a0, a1, a2⟩ := MK.out _ hy0)) | (go_at_call 39; ((with_reducible refine (HI1.out _).mono ?_); rintro e v1 ⟨rfl, hy1⟩; replace hy1 : Ext w2 v1 := (hy0.trans hy1); clear HI1; obtain ⟨a0, a1, a2⟩ := MK.out _ hy1)))
          clear a0 a1 a2
          obtain ⟨r0, r1, r2, r3⟩ := HRX.out.grown (((hE.out.trans HX2.out).trans hy1).gr none) (by simp)
          obtain ⟨f0, f1, f2, f3⟩ := HRZ.out.grown HRX.out (((hE.out.trans HX2.out).trans hy1).gr none) (by simp)
          obtain ⟨w8, hw8⟩ : ∃ W, W = (((v1.setCell ⟨q2, 0, none⟩ (.slice none 0 0)).setCell ⟨q2, 1, none⟩ (.slice none 0 0)).setCell ⟨q2, 2, none⟩ (.slice none 0 0)).setCell ⟨q2, 3, none⟩ (.slice none 0 0) := ⟨_, rfl⟩
          have hd := set4 (HRX.out.grown (((hE.out.trans HX2.out).trans hy1).gr none) (by simp)) (.slice none 0 0) (.slice none 0 0) (.slice none 0 0) (.slice none 0 0)
          rw [← hw8] at hd
          obtain ⟨e0, e1, e2, e3⟩ := hd
          have HF := Lib.hid (by rw [hw8]; exact ((((HX.out.trans ((hE.out.trans HX2.out).trans hy1)).setCell HQ.out _).setCell HQ.out _).setCell HQ.out _).setCell HQ.out _ : Ext w w8)
          go_wp2_with fail
          (try simp only [Exit.inBlock, Exit.then])
          rw [← hw8]
          clear hw8 r0 r1 r2 r3 f0 f1 f2 f3
          refine bodyPost_ret (v := .tuple #[.agg #[.slice none 0 0, .slice none 0 0, .slice none 0 0, .slice none 0 0], .int .i64 1]) (by simp [results, Tryz.results14, go_sem, *]) rfl ?_
          rw [HNO.out]
          first | exact ⟨none, none, none, none, 0, 0, 0, 0, rfl, ColAt.none _ _, by first | exact HF.out | exact X1 HF.out⟩ | exact ⟨none, none, none, none, ⟨0, 0, 0, 0, rfl⟩, ColAt.none _ _, by first | exact HF.out | exact X1 HF.out⟩
        · cases b2
          · have HNO := Lib.hid (HB.out rfl)
            clear HB HS
            go_upto_region 6 with (first | (go_at_call 39; ((with_reducible refine (HI0.out _).mono ?_); rintro e v0 ⟨rfl, hy0⟩; replace hy0 : Ext w2 v0 := hy0; clear HI0; obtain ⟨a0, a1, a2⟩ := MK.out _ hy0)) | (go_at_call 39; ((with_reducible refine (HI1.out _).mono ?_); rintro e v1 ⟨rfl, hy1⟩; replace hy1 : Ext w2 v1 := (hy0.trans hy1); clear HI1; obtain ⟨a0, a1, a2⟩ := MK.out _ hy1)) | (go_at_call 39; ((with_reducible refine (HI2.out _).mono ?_); rintro e v2 ⟨rfl, hy2⟩; replace hy2 : Ext w2 v2 := (hy1.trans hy2); clear HI2; obtain ⟨a0, a1, a2⟩ := MK.out _ hy2)))
            clear a0 a1 a2
            obtain ⟨r0, r1, r2, r3⟩ := HRX.out.grown (((hE.out.trans HX2.out).trans hy2).gr none) (by simp)
            obtain ⟨f0, f1, f2, f3⟩ := HRZ.out.grown HRX.out (((hE.out.trans HX2.out).trans hy2).gr none) (by simp)
            obtain ⟨w8, hw8⟩ : ∃ W, W = (((v2.setCell ⟨q2, 0, none⟩ (.slice none 0 0)).setCell ⟨q2, 1, none⟩ (.slice none 0 0)).setCell ⟨q2, 2, none⟩ (.slice none 0 0)).setCell ⟨q2, 3, none⟩ (.slice none 0 0) := ⟨_, rfl⟩
            have hd := set4 (HRX.out.grown (((hE.out.trans HX2.out).trans hy2).gr none) (by simp)) (.slice none 0 0) (.slice none 0 0) (.slice none 0 0) (.slice none 0 0)
            rw [← hw8] at hd
            obtain ⟨e0, e1, e2, e3⟩ := hd
            have HF := Lib.hid (by rw [hw8]; exact ((((HX.out.trans ((hE.out.trans HX2.out).trans hy2)).setCell HQ.out _).setCell HQ.out _).setCell HQ.out _).setCell HQ.out _ : Ext w w8)
            go_wp2_with fail
            (try simp only [Exit.inBlock, Exit.then])
            rw [← hw8]
            clear hw8 r0 r1 r2 r3 f0 f1 f2 f3
            refine bodyPost_ret (v := .tuple #[.agg #[.slice none 0 0, .slice none 0 0, .slice none 0 0, .slice none 0 0], .int .i64 1]) (by simp [results, Tryz.results14, go_sem, *]) rfl ?_
            rw [HNO.out]
            first | exact ⟨none, none, none, none, 0, 0, 0, 0, rfl, ColAt.none _ _, by first | exact HF.out | exact X1 HF.out⟩ | exact ⟨none, none, none, none, ⟨0, 0, 0, 0, rfl⟩, ColAt.none _ _, by first | exact HF.out | exact X1 HF.out⟩
          · have HT := Lib.hid (HS.out rfl)
            have hkey := HKEY.out rfl
            clear HB HS HKEY
            go_upto_region 7 with (first | (go_at_call 39; ((with_reducible refine (HI0.out _).mono ?_); rintro e v0 ⟨rfl, hy0⟩; replace hy0 : Ext w2 v0 := hy0; clear HI0; obtain ⟨a0, a1, a2⟩ := MK.out _ hy0)) | (go_at_call 39; ((with_reducible refine (HI1.out _).mono ?_); rintro e v1 ⟨rfl, hy1⟩; replace hy1 : Ext w2 v1 := (hy0.trans hy1); clear HI1; obtain ⟨a0, a1, a2⟩ := MK.out _ hy1)) | (go_at_call 39; ((with_reducible refine (HI2.out _).mono ?_); rintro e v2 ⟨rfl, hy2⟩; replace hy2 : Ext w2 v2 := (hy1.trans hy2); clear HI2; obtain ⟨a0, a1, a2⟩ := MK.out _ hy2)))
            have hown' := HOW.out _ hy2
            clear HOW
            go_wp2_with (at_mapUpdate; refine wpList_mapUpdate_own _ rfl _ _ _ 70 rfl 3 4 (int_keyed Tryz.underlying3) Tryz.underlying70 _ _ k _ rfl hown' hkm _ _ _ rfl rfl hkey _ [] (plainElem_bool Tryz.underlying4 true) ?_; intro w5 hown5 hg5)
            have HN := Lib.hid (HST.out ▸ hown5)
            have HE5 := Lib.hid (((hE.out.trans HX2.out).trans hy2).grown hg5 (fun k hk => by cases hk; exact HMB.out))
            clear hown5 hown' HST
            go_roundw
            case rel => exact ⟨k + 1, by go_num, by omega, HN, HT, HE5⟩
            case measure => simp [intOf]; omega
    · have hke : k = l.length := by omega
      have HAA := Lib.hid (by rw [← hke]; exact HA.out : ∀ t, t < l.length → okS l[t]! = true)
      have hown' := hown.out
      rw [List.take_of_length_le (by rw [HEL.out]; omega)] at hown'
      have HN := HSZ
      obtain ⟨z, hz⟩ : ∃ z, z = Maps.size (setOf (H := Unit) (.lit (.bool true)) (E.map lkC)) := ⟨_, rfl⟩
      rw [← hz] at HN
      have HZZ := Lib.hid hz
      clear hz
      have hzl : z ≤ l.length := HN.out.2
      clear HA HBD hke hk hown HSZ
      by_cases hzz : z < l.length
      · have HNO := Lib.hid (HTW.out HAA.out (HN.out.1.1 hzz))
        have hzd : decide ((z : Int) < (l.length : Int)) = true := decide_eq_true (by omega)
        have hzd2 : decide (z < l.length) = true := decide_eq_true hzz
        clear HN HTW HOK HAA HV
        go_upto_region 10 with (at_len; refine wpList_len_own _ rfl _ _ rfl 3 4 Tryz.underlying70 _ _ k _ rfl hown' ?_; rw [← HZZ.out])
        clear hown' hzd hzd2 hzz
        obtain ⟨r0, r1, r2, r3⟩ := HRX.out.grown (hE.out.gr none) (by simp)
        obtain ⟨f0, f1, f2, f3⟩ := HRZ.out.grown HRX.out (hE.out.gr none) (by simp)
        obtain ⟨w8, hw8⟩ : ∃ W, W = (((wr.setCell ⟨q2, 0, none⟩ (.slice none 0 0)).setCell ⟨q2, 1, none⟩ (.slice none 0 0)).setCell ⟨q2, 2, none⟩ (.slice none 0 0)).setCell ⟨q2, 3, none⟩ (.slice none 0 0) := ⟨_, rfl⟩
        have hd := set4 (HRX.out.grown (hE.out.gr none) (by simp)) (.slice none 0 0) (.slice none 0 0) (.slice none 0 0) (.slice none 0 0)
        rw [← hw8] at hd
        obtain ⟨e0, e1, e2, e3⟩ := hd
        have HF := Lib.hid (by rw [hw8]; exact ((((HX.out.trans hE.out).setCell HQ.out _).setCell HQ.out _).setCell HQ.out _).setCell HQ.out _ : Ext w w8)
        go_wp2_with fail
        (try simp only [Exit.inBlock, Exit.then])
        rw [← hw8]
        clear hw8 r0 r1 r2 r3 f0 f1 f2 f3
        refine bodyPost_ret (v := .tuple #[.agg #[.slice none 0 0, .slice none 0 0, .slice none 0 0, .slice none 0 0], .int .i64 7]) (by simp [results, Tryz.results14, go_sem, *]) rfl ?_
        rw [HNO.out]
        first | exact ⟨none, none, none, none, 0, 0, 0, 0, rfl, ColAt.none _ _, by first | exact HF.out | exact X1 HF.out⟩ | exact ⟨none, none, none, none, ⟨0, 0, 0, 0, rfl⟩, ColAt.none _ _, by first | exact HF.out | exact X1 HF.out⟩

      · have HD := Lib.hid (show E.Nodup from Decidable.not_not.1 (fun h => hzz (HN.out.1.2 h)))
        have HR := Lib.hid (HOK.out HAA.out HD.out)
        have hzd : decide ((z : Int) < (l.length : Int)) = false := decide_eq_false (by omega)
        have hzd2 : decide (z < l.length) = false := decide_eq_false hzz
        clear HN HTW HOK HAA HD
        go_upto_region 11 with (at_len; refine wpList_len_own _ rfl _ _ rfl 3 4 Tryz.underlying70 _ _ k _ rfl hown' ?_; rw [← HZZ.out])
        clear hown' hzd hzd2 hzz hzl
        obtain ⟨Bs, hBs⟩ : ∃ Bs, Bs = wr.heap.size := ⟨_, rfl⟩
        obtain ⟨w4, hw4⟩ : ∃ W, W = wr.alloc (.cells #[.slice A l.length c] 42) := ⟨_, rfl⟩
        have hx4 : Ext wr w4 := by rw [hw4]; exact (Ext.refl _).alloc _
        have hsz4 : w4.heap.size = wr.heap.size + 1 := by rw [hw4]; simp
        have hc4 : w4.cell? ⟨Bs, 0, none⟩ = some (.slice A l.length c) := by rw [hw4, hBs]; go_simp
        have hI4 : Shares w4 (fun b => b < w4.heap.size) A l := (HV.out.ext (hE.out.trans hx4)).keep (fun b o x _ hc => ⟨hc, block_lt_of_cell hc⟩)
        have HSO := Lib.hid (s_Sorted Bs A c l hl w4 (by omega) hc4 hI4)
        have HSV := Lib.hid (s_Values A l.length c wr)
        rw [← hw4, ← hBs] at HSV
        have HSL := Lib.hid (show (sortO adjOrd l).length ≤ 8000000 by rw [(sortO_perm TotC.adj l).length_eq]; exact hl)
        have HX4 := Lib.hid (hE.out.trans hx4)
        have HPC := Lib.hid (fun (B : Option Addr) (ok : Nat → Prop) m W (h : Shares W ok B (sortO adjOrd l)) => co_pack (sortO adjOrd l) ok B m W h HSL.out)
        clear hw4 hBs hx4 hsz4 hc4 hI4 hE HV
        generalize packC (sortO adjOrd l) = Z at *
        generalize sortO adjOrd l = S at *
        go_wp2_with (first | (go_at_call 41; (go_loud ((with_reducible refine (HSV.out).mono ?_); rintro e w5 ⟨rfl, rfl⟩; clear HSV))) | (go_at_call 40; (go_loud ((with_reducible refine (HSO.out).mono ?_); rintro e w6 ⟨v6, rfl, hO6, hx6⟩; obtain ⟨A6, c6, rfl, hle6, hS6⟩ := OA.shares hO6 (by have := HSL.out; omega); have HPK := Lib.hid (HPC.out A6 _ c6 w6 hS6); clear HSO HPC hO6 hS6))) | (go_at_call 23; (go_loud ((with_reducible refine (HPK.out).mono ?_); rintro e w7 ⟨A3, B3, C3, D3, k0, k1, k2, k3, rfl, hc7, hx7⟩; obtain ⟨r0, r1, r2, r3⟩ := HRX.out.grown (((HX4.out.trans hx6).trans hx7).gr none) (by simp); obtain ⟨f0, f1, f2, f3⟩ := HRZ.out.grown HRX.out (((HX4.out.trans hx6).trans hx7).gr none) (by simp)))))
        (try simp only [Exit.inBlock, Exit.then])
        have HX7 := Lib.hid ((HX4.out.trans hx6).trans hx7)
        have HX6 := Lib.hid (HX4.out.trans hx6)
        obtain ⟨w8, hw8⟩ : ∃ W, W = (((w7.setCell ⟨q2, 0, none⟩ (.slice A3 Z.nodes.length k0)).setCell ⟨q2, 1, none⟩ (.slice B3 Z.first.length k1)).setCell ⟨q2, 2, none⟩ (.slice C3 Z.tos.length k2)).setCell ⟨q2, 3, none⟩ (.slice D3 Z.edges.length k3) := ⟨_, rfl⟩
        have hd := set4 (HRX.out.grown (HX7.out.gr none) (by simp)) (.slice A3 Z.nodes.length k0) (.slice B3 Z.first.length k1) (.slice C3 Z.tos.length k2) (.slice D3 Z.edges.length k3)
        rw [← hw8] at hd
        obtain ⟨e0, e1, e2, e3⟩ := hd
        have HF := Lib.hid (by rw [hw8]; exact ((((HX.out.trans HX7.out).setCell HQ.out _).setCell HQ.out _).setCell HQ.out _).setCell HQ.out _ : Ext w w8)
        have hnq : ¬ w6.heap.size ≤ q2 := fun h => HQ1.out (Nat.le_trans HX6.out.le h)
        have HCC := Lib.hid (by rw [hw8]; exact (((hc7.put hnq 0 _).put hnq 1 _).put hnq 2 _).put hnq 3 _ : ColAt w8 (fun b => w6.heap.size ≤ b) A3 B3 C3 D3 Z)
        have HLW := Lib.hid (Nat.le_trans HX.out.le HX6.out.le)
        rw [← hw8]
        clear hw8 r0 r1 r2 r3 f0 f1 f2 f3 hc7 hx6 hx7 hnq hle6
        refine bodyPost_ret (v := .tuple #[.agg #[.slice A3 Z.nodes.length k0, .slice B3 Z.first.length k1, .slice C3 Z.tos.length k2, .slice D3 Z.edges.length k3], .int .i64 0]) (by simp [results, Tryz.results14, go_sem, *]) rfl ?_
        rw [HR.out]
        first | exact ⟨A3, B3, C3, D3, k0, k1, k2, k3, rfl, HCC.out.to (fun b hb => Nat.le_trans HLW.out hb), HF.out⟩ | exact ⟨A3, B3, C3, D3, ⟨k0, k1, k2, k3, rfl⟩, HCC.out.to (fun b hb => Nat.le_trans HLW.out hb), HF.out⟩
end Go.Proofs.YtnheioehadldmaaGreat

/- THE WALKS over the reference's edge and Check of a graph. -/
namespace Go.Proofs.YtnheioehadldmaaGreat
open Go.RowKit
theorem chkG_head {g : GraphG} (h : headE g ≠ 0) : chkG g = headE g := by unfold chkG; rw [if_neg h]
theorem chkG_nodes {g : GraphG} (h : headE g = 0) {z : Int} (hz : nodesE g = z) (h2 : z ≠ 0) : chkG g = z := by unfold chkG; rw [if_pos h, if_neg (by rw [hz]; exact h2), hz]
theorem chkG_edges {g : GraphG} (h : headE g = 0) (h2 : nodesE g = 0) {z : Int} (hz : edgesE g = z) : chkG g = z := by unfold chkG; rw [if_pos h, if_pos h2, hz]
end Go.Proofs.YtnheioehadldmaaGreat

/- THE WALK over graph.Check. -/
namespace Go.Proofs.YtnheioehadldmaaGreat
open Go.RowKit
theorem gr_parts0 (P : List PropG) (ok : Nat → Prop) (B : Option Addr) (d : Nat) (w : World) (hp : Props w ok B P) :
    Calls Tryz.prog 47 #[.slice none 0 0, .slice B P.length d] w fun e w' => e = .returned (.int .i64 (partsE [] P)) ∧ Ext w w' :=
  gr_parts [] P ok ok none B 0 d w (SliceR.nil _ _ _) hp
set_option maxRecDepth 100000 in
set_option maxHeartbeats 6400000 in
theorem gr_Check (g : GraphG) (ok : Nat → Prop) (A B : Option Addr) (c d : Nat) (w : World) (hg : GraphAt w ok A B g) :
    Calls Tryz.prog 20 #[.agg #[.slice A g.nodes.length c, .slice B g.edges.length d, .int .i64 g.nn, .int .i64 g.ne]] w fun e w' => e = .returned (.int .i64 (chkG g)) ∧ Ext w w' := by
  have hm := hg.nodes.len
  have hm2 := hg.edges.len
  obtain ⟨q, w1, hq, hw1, g0, g1, g2, g3, hx1⟩ := box_graph w A B c d g 25
  have HW1 := Lib.hid hw1
  have HG := Lib.hid hq
  have HGA := Lib.hid (hg.ext hx1)
  clear hw1 hq hg
  by_cases h1 : 2000 < g.nodes.length ∨ 4000 < g.edges.length
  · have HR := Lib.hid (show chkG g = 4 by have : headE g = 4 := by unfold headE; rw [if_pos h1]
                                           rw [chkG_head (by omega), this])
    rcases h1 with h1 | h1
    all_goals
      go_enter Tryz.func20, Tryz.ntmps20
      go_upto_region 1 with (fail)
      rw [← HW1.out, ← HG.out]
      clear HW1 HG
      go_wp2_with fail
      all_goals
        go_ret
        exact ⟨ret_int HR.out.symm, hx1.trans (by solve_by_elim [X0, X1, X2, X3])⟩
  · have a1 : g.nodes.length ≤ 2000 := by omega
    have a2 : g.edges.length ≤ 4000 := by omega
    by_cases h2 : g.nn < 1 ∨ 1000001 < g.nn ∨ g.ne < 1 ∨ 1000001 < g.ne
    · have HR := Lib.hid (show chkG g = 1 by have : headE g = 1 := by unfold headE; rw [if_neg h1, if_pos h2]
                                             rw [chkG_head (by omega), this])
      clear h1
      rcases h2 with h2 | h2 | h2 | h2
      all_goals
        go_enter Tryz.func20, Tryz.ntmps20
        go_upto_region 1 with (fail)
        rw [← HW1.out, ← HG.out]
        clear HW1 HG
        go_wp2_with fail
        all_goals
          go_ret
          exact ⟨ret_int HR.out.symm, hx1.trans (by solve_by_elim [X0, X1, X2, X3])⟩
    · have HH := Lib.hid (show headE g = 0 by unfold headE; rw [if_neg h1, if_neg h2])
      have b1 : 1 ≤ g.nn := by omega
      have b2 : g.nn ≤ 1000001 := by omega
      have b3 : 1 ≤ g.ne := by omega
      have b4 : g.ne ≤ 1000001 := by omega
      clear h1 h2
      go_enter Tryz.func20, Tryz.ntmps20
      go_upto_region 1 with (fail)
      rw [← HW1.out, ← HG.out]
      clear HW1 HG
      go_wp2_with fail
      go_loopw [40] (fun u W => ∃ k : Nat, u = .int .i64 k ∧ k ≤ g.nodes.length ∧ Hid (∀ t, t < k → nodeE g t = 0) ∧ Ext w1 W) (fun u _ => g.nodes.length - (intOf u).toNat)
      case atStart => exact ⟨0, rfl, Nat.zero_le _, Lib.hid (fun t ht => absurd ht (by omega)), (by solve_by_elim [X0, X1, X2, X3])⟩
      case round =>
        obtain ⟨k, rfl, hk, hgd, hEr⟩ := hrel
        have g0' := hEr.cell g0
        have g1' := hEr.cell g1
        have g2' := hEr.cell g2
        have g3' := hEr.cell g3
        by_cases hlt : k < g.nodes.length
        · obtain ⟨b, o, rfl, hc⟩ := HGA.out.nodes.at_ hlt
          obtain ⟨-, d0, A', c', B', d', d1, -, hS, d2, -, hP⟩ := hc k hlt
          replace d0 := hEr.cell d0
          replace d1 := hEr.cell d1
          replace d2 := hEr.cell d2
          obtain ⟨q2, w2, hq2, hw2, n0, n1, n2, hx2⟩ := box_node wr g.nodes[k]!.id A' B' g.nodes[k]!.labels.length c' g.nodes[k]!.props.length d' 54
          have HP := Lib.hid (fun W (e : Ext w2 W) => gr_parts g.nodes[k]!.labels g.nodes[k]!.props ok ok A' B' c' d' W (hS.ext ((hEr.trans hx2).trans e)) (hP.ext ((hEr.trans hx2).trans e)))
          have hpv : 0 < k → w2.cell? ⟨b, o + (k - 1) * 3, none⟩ = some (.int .i64 g.nodes[k - 1]!.id) := fun h => by
            obtain ⟨-, e0, -⟩ := hc (k - 1) (by omega)
            exact hx2.cell (hEr.cell e0)
          have G0 := hx2.cell g0'
          have G1 := hx2.cell g1'
          have G2 := hx2.cell g2'
          have G3 := hx2.cell g3'
          have HS := Lib.hid (fun (h : nodeE g k = 0) t (ht : t < k + 1) => (if e : t = k then (by rw [e]; exact h) else hgd.out t (by omega) : nodeE g t = 0))
          have HX := Lib.hid (fun (h : nodeE g k ≠ 0) => chkG_nodes HH.out (firstE_at hgd.out h hlt) h)
          obtain ⟨E, hE⟩ : ∃ E, E = nodeE g k := ⟨_, rfl⟩
          rw [← hE] at HS HX
          have HW2 := Lib.hid hw2
          have HQ2 := Lib.hid hq2
          clear hc hgd hw2 hq2 hP hS
          rcases Nat.eq_zero_or_pos k with hz | hz
          · subst hz
            clear hpv
            rw [Nat.zero_mul, Nat.add_zero] at d0 d1 d2
            have HE1 := Lib.hid (fun h => nodeE_1 (g := g) (i := 0) (fun h => absurd h (Nat.lt_irrefl _)) h)
            have HEP := Lib.hid (fun h1 h2 => nodeE_p (g := g) (i := 0) (fun h => absurd h (Nat.lt_irrefl _)) h1 h2)
            rw [← hE] at HE1 HEP
            clear hE
            generalize g.nodes[0]! = x at *
            generalize partsE x.labels x.props = z at *
            go_upto_region 8 with (fail)
            rw [← HW2.out, ← HQ2.out]
            clear HW2 HQ2 g0' g1' g2' g3'
            have MKR1 := Lib.hid (fun V (e : Ext w2 V) => (e : Ext w2 V))
            refine wp_region_held_drew (S := (fun V => Ext w2 V)) (by kernel_rfl) ?hs1 (fun hHeld => ?go1)
            case hs1 => (exact MKR1.out _ (by solve_by_elim [X0, X1, X2, X3]))
            refine TK 0 (v := ?v2) hHeld ?hy2 ?_
            case hy2 => (intro w _; go_simp <;> rfl)
            (try simp only [PU])
            refine TK 1 (v := ?v3) hHeld ?hy3 ?_
            case hy3 => (intro w _; go_simp <;> first | with_reducible rfl | rw [if_neg (by omega)] | rw [if_pos (by omega)])
            (try simp only [PU])
            refine TK 2 (v := ?v4) hHeld ?hy4 ?_
            case hy4 => (intro w _; go_simp <;> rfl)
            (try simp only [PU])
            refine TN 3 hHeld ?_
            (try simp only [PU])
            refine TN 4 hHeld ?_
            (try simp only [PU])
            refine TN 5 hHeld ?_
            (try simp only [PU])
            refine TN 6 hHeld ?_
            (try simp only [PU])
            refine TN 7 hHeld ?_
            (try simp only [PU])
            refine TN 8 hHeld ?_
            (try simp only [PU])
            refine TN 9 hHeld ?_
            (try simp only [PU])
            refine TN 10 hHeld ?_
            (try simp only [PU])
            refine TN 11 hHeld ?_
            (try simp only [PU])
            refine TN 12 hHeld ?_
            (try simp only [PU])
            refine TK 13 (v := ?v15) hHeld ?hy15 ?_
            case hy15 => (intro w _; go_simp <;> rfl)
            (try simp only [PU])
            refine wpAnyH_done (by kernel_rfl) ?_ _
            clear hHeld
            clear MKR1
            have gE : Ext w2 w2.drew := (Ext.refl _).drew
            have j0 := gE.cell n0
            have j1 := gE.cell n1
            have j2 := gE.cell n2
            have k0 := gE.cell G0
            have k1 := gE.cell G1
            have k2 := gE.cell G2
            have k3 := gE.cell G3
            by_cases h1 : x.id < 1
            · have HT := Lib.hid (HX.out (by rw [HE1.out (.inl h1)]; decide))
              rw [HE1.out (.inl h1)] at HT
              go_wp2_with fail
              go_ret
              exact ⟨ret_int HT.out.symm, (hx1.trans (hEr.trans (hx2.trans (by solve_by_elim [X0, X1, X2, X3]))))⟩
            · by_cases h2 : g.nn ≤ x.id
              · have HT := Lib.hid (HX.out (by rw [HE1.out (.inr h2)]; decide))
                rw [HE1.out (.inr h2)] at HT
                go_wp2_with fail
                go_ret
                exact ⟨ret_int HT.out.symm, (hx1.trans (hEr.trans (hx2.trans (by solve_by_elim [X0, X1, X2, X3]))))⟩
              · have HZ := Lib.hid (HEP.out (by omega) (by omega))
                clear HE1 HEP
                rw [HZ.out] at HS HX
                by_cases he : z = 0
                · have HT := Lib.hid (HS.out he)
                  have he2 : (z != 0) = false := by rw [he]; rfl
                  clear HS HX HZ he
                  go_wp2_with (go_at_call 47; ((with_reducible refine (HP.out _ (by solve_by_elim [X0, X1, X2, X3])).mono ?_); rintro e w8 ⟨rfl, hx8⟩; replace hx8 : Ext w2 w8 := Ext.trans (by solve_by_elim [X0, X1, X2, X3]) hx8))
                  go_roundw
                  case rel => exact ⟨0 + 1, rfl, by omega, HT, hEr.trans (hx2.trans hx8)⟩
                  case measure => simp [intOf]; omega
                · have HT := Lib.hid (HX.out he)
                  have he2 : (z != 0) = true := bne_iff_ne.2 he
                  clear HS HX he
                  go_wp2_with (go_at_call 47; ((with_reducible refine (HP.out _ (by solve_by_elim [X0, X1, X2, X3])).mono ?_); rintro e w8 ⟨rfl, hx8⟩; replace hx8 : Ext w2 w8 := Ext.trans (by solve_by_elim [X0, X1, X2, X3]) hx8))
                  go_ret
                  exact ⟨ret_int HT.out.symm, hx1.trans (hEr.trans (hx2.trans hx8))⟩
          · replace hpv := hpv hz
            by_cases hlo : g.nodes[k - 1]!.id < g.nodes[k]!.id
            · have HE1 := Lib.hid (fun h => nodeE_1 (g := g) (i := k) (fun _ => hlo) h)
              have HEP := Lib.hid (fun h1 h2 => nodeE_p (g := g) (i := k) (fun _ => hlo) h1 h2)
              rw [← hE] at HE1 HEP
              clear hE
              generalize g.nodes[k]! = x at *
              generalize g.nodes[k - 1]! = y at *
              generalize partsE x.labels x.props = z at *
              have ho : ¬ x.id ≤ y.id := by omega
              clear hlo
              go_upto_region 8 with (fail)
              rw [← HW2.out, ← HQ2.out]
              clear HW2 HQ2 g0' g1' g2' g3'
              have p0 : 0 < k := by omega
              have p1 : (1 : Int) ≤ (k : Int) := by omega
              have p2 : ((k : Int) - 1).toNat = k - 1 := by omega
              have p5 : IntKind.i64.wrap ((k : Int) - 1) = (k : Int) - 1 := IntWalk.i64_in _ (by omega)
              have p6 : ((k : Int) - 1) < (g.nodes.length : Int) := by omega
              have MKR2 := Lib.hid (fun V (e : Ext w2 V) => (⟨e.cell G0, e.cell n0, e.cell hpv, e⟩ : V.cell? ⟨q, 0, none⟩ = some (.slice (some ⟨b, o, none⟩) g.nodes.length c) ∧ V.cell? ⟨q2, 0, none⟩ = some (.int .i64 x.id) ∧ V.cell? ⟨b, o + (k - 1) * 3, none⟩ = some (.int .i64 y.id) ∧ Ext w2 V))
              refine wp_region_held_drew (S := (fun V => V.cell? ⟨q, 0, none⟩ = some (.slice (some ⟨b, o, none⟩) g.nodes.length c) ∧ V.cell? ⟨q2, 0, none⟩ = some (.int .i64 x.id) ∧ V.cell? ⟨b, o + (k - 1) * 3, none⟩ = some (.int .i64 y.id) ∧ Ext w2 V)) (by kernel_rfl) ?hs16 (fun hHeld => ?go16)
              case hs16 => (exact MKR2.out _ (by solve_by_elim [X0, X1, X2, X3]))
              refine TK 0 (v := ?v17) hHeld ?hy17 ?_
              case hy17 => (intro w _; go_simp <;> rfl)
              (try simp only [PU])
              refine TK 1 (v := ?v18) hHeld ?hy18 ?_
              case hy18 => (intro w _; go_simp <;> first | with_reducible rfl | rw [if_neg (by omega)] | rw [if_pos (by omega)])
              (try simp only [PU])
              refine TK 2 (v := ?v19) hHeld ?hy19 ?_
              case hy19 => (intro w _; go_simp <;> rfl)
              (try simp only [PU])
              refine TK 3 (v := ?v20) hHeld ?hy20 ?_
              case hy20 => (intro w _; go_simp <;> rfl)
              (try simp only [PU])
              refine TK 4 (v := ?v21) hHeld ?hy21 ?_
              case hy21 => (intro w hSw; (try dsimp only at hSw); go_simp <;> first | with_reducible rfl | rw [if_neg (by omega)] | rw [if_pos (by omega)])
              (try simp only [PU])
              refine TK 5 (v := ?v22) hHeld ?hy22 ?_
              case hy22 => (intro w _; go_simp <;> rfl)
              (try simp only [PU])
              refine TK 6 (v := ?v23) hHeld ?hy23 ?_
              case hy23 => (intro w hSw; (try dsimp only at hSw); go_simp <;> first | with_reducible rfl | rw [if_neg (by omega)] | rw [if_pos (by omega)])
              (try simp only [PU])
              refine TK 7 (v := ?v24) hHeld ?hy24 ?_
              case hy24 => (intro w _; go_simp <;> rfl)
              (try simp only [PU])
              refine TK 8 (v := ?v25) hHeld ?hy25 ?_
              case hy25 => (intro w _; go_simp <;> first | with_reducible rfl | rw [if_neg (by omega)] | rw [if_pos (by omega)])
              (try simp only [PU])
              refine TK 9 (v := ?v26) hHeld ?hy26 ?_
              case hy26 => (intro w _; go_simp <;> first | with_reducible rfl | rw [if_neg (by omega)] | rw [if_pos (by omega)])
              (try simp only [PU])
              refine TK 10 (v := ?v27) hHeld ?hy27 ?_
              case hy27 => (intro w _; go_simp <;> rfl)
              (try simp only [PU])
              refine TK 11 (v := ?v28) hHeld ?hy28 ?_
              case hy28 => (intro w hSw; (try dsimp only at hSw); go_simp <;> first | with_reducible rfl | rw [if_neg (by omega)] | rw [if_pos (by omega)])
              (try simp only [PU])
              refine TK 12 (v := ?v29) hHeld ?hy29 ?_
              case hy29 => (intro w _; go_simp <;> first | with_reducible rfl | rw [if_neg (by omega)] | rw [if_pos (by omega)])
              (try simp only [PU])
              refine TK 13 (v := ?v30) hHeld ?hy30 ?_
              case hy30 => (intro w _; go_simp <;> rfl)
              (try simp only [PU])
              refine wpAnyH_done (by kernel_rfl) ?_ _
              clear hHeld
              clear MKR2
              clear p0 p1 p2 p5 p6 ho hpv
              have gE : Ext w2 w2.drew := (Ext.refl _).drew
              have j0 := gE.cell n0
              have j1 := gE.cell n1
              have j2 := gE.cell n2
              have k0 := gE.cell G0
              have k1 := gE.cell G1
              have k2 := gE.cell G2
              have k3 := gE.cell G3
              by_cases h1 : x.id < 1
              · have HT := Lib.hid (HX.out (by rw [HE1.out (.inl h1)]; decide))
                rw [HE1.out (.inl h1)] at HT
                go_wp2_with fail
                go_ret
                exact ⟨ret_int HT.out.symm, (hx1.trans (hEr.trans (hx2.trans (by solve_by_elim [X0, X1, X2, X3]))))⟩
              · by_cases h2 : g.nn ≤ x.id
                · have HT := Lib.hid (HX.out (by rw [HE1.out (.inr h2)]; decide))
                  rw [HE1.out (.inr h2)] at HT
                  go_wp2_with fail
                  go_ret
                  exact ⟨ret_int HT.out.symm, (hx1.trans (hEr.trans (hx2.trans (by solve_by_elim [X0, X1, X2, X3]))))⟩
                · have HZ := Lib.hid (HEP.out (by omega) (by omega))
                  clear HE1 HEP
                  rw [HZ.out] at HS HX
                  by_cases he : z = 0
                  · have HT := Lib.hid (HS.out he)
                    have he2 : (z != 0) = false := by rw [he]; rfl
                    clear HS HX HZ he
                    go_wp2_with (go_at_call 47; ((with_reducible refine (HP.out _ (by solve_by_elim [X0, X1, X2, X3])).mono ?_); rintro e w8 ⟨rfl, hx8⟩; replace hx8 : Ext w2 w8 := Ext.trans (by solve_by_elim [X0, X1, X2, X3]) hx8))
                    go_roundw
                    case rel => exact ⟨k + 1, by go_num, by omega, HT, hEr.trans (hx2.trans hx8)⟩
                    case measure => simp [intOf]; omega
                  · have HT := Lib.hid (HX.out he)
                    have he2 : (z != 0) = true := bne_iff_ne.2 he
                    clear HS HX he
                    go_wp2_with (go_at_call 47; ((with_reducible refine (HP.out _ (by solve_by_elim [X0, X1, X2, X3])).mono ?_); rintro e w8 ⟨rfl, hx8⟩; replace hx8 : Ext w2 w8 := Ext.trans (by solve_by_elim [X0, X1, X2, X3]) hx8))
                    go_ret
                    exact ⟨ret_int HT.out.symm, hx1.trans (hEr.trans (hx2.trans hx8))⟩
            · have HT := Lib.hid (HX.out (by rw [hE, nodeE_26 hz (by omega)]; decide))
              rw [hE, nodeE_26 hz (by omega)] at HT
              clear hE HS HX HP
              generalize g.nodes[k]! = x at *
              generalize g.nodes[k - 1]! = y at *
              have ho : x.id ≤ y.id := by omega
              clear hlo
              go_upto_region 8 with (fail)
              rw [← HW2.out, ← HQ2.out]
              clear HW2 HQ2 g0' g1' g2' g3'
              have p0 : 0 < k := by omega
              have p1 : (1 : Int) ≤ (k : Int) := by omega
              have p2 : ((k : Int) - 1).toNat = k - 1 := by omega
              have p5 : IntKind.i64.wrap ((k : Int) - 1) = (k : Int) - 1 := IntWalk.i64_in _ (by omega)
              have p6 : ((k : Int) - 1) < (g.nodes.length : Int) := by omega
              have MKR3 := Lib.hid (fun V (e : Ext w2 V) => (⟨e.cell G0, e.cell n0, e.cell hpv, e⟩ : V.cell? ⟨q, 0, none⟩ = some (.slice (some ⟨b, o, none⟩) g.nodes.length c) ∧ V.cell? ⟨q2, 0, none⟩ = some (.int .i64 x.id) ∧ V.cell? ⟨b, o + (k - 1) * 3, none⟩ = some (.int .i64 y.id) ∧ Ext w2 V))
              refine wp_region_held_drew (S := (fun V => V.cell? ⟨q, 0, none⟩ = some (.slice (some ⟨b, o, none⟩) g.nodes.length c) ∧ V.cell? ⟨q2, 0, none⟩ = some (.int .i64 x.id) ∧ V.cell? ⟨b, o + (k - 1) * 3, none⟩ = some (.int .i64 y.id) ∧ Ext w2 V)) (by kernel_rfl) ?hs31 (fun hHeld => ?go31)
              case hs31 => (exact MKR3.out _ (by solve_by_elim [X0, X1, X2, X3]))
              refine TK 0 (v := ?v32) hHeld ?hy32 ?_
              case hy32 => (intro w _; go_simp <;> rfl)
              (try simp only [PU])
              refine TK 1 (v := ?v33) hHeld ?hy33 ?_
              case hy33 => (intro w _; go_simp <;> first | with_reducible rfl | rw [if_neg (by omega)] | rw [if_pos (by omega)])
              (try simp only [PU])
              refine TK 2 (v := ?v34) hHeld ?hy34 ?_
              case hy34 => (intro w _; go_simp <;> rfl)
              (try simp only [PU])
              refine TK 3 (v := ?v35) hHeld ?hy35 ?_
              case hy35 => (intro w _; go_simp <;> rfl)
              (try simp only [PU])
              refine TK 4 (v := ?v36) hHeld ?hy36 ?_
              case hy36 => (intro w hSw; (try dsimp only at hSw); go_simp <;> first | with_reducible rfl | rw [if_neg (by omega)] | rw [if_pos (by omega)])
              (try simp only [PU])
              refine TK 5 (v := ?v37) hHeld ?hy37 ?_
              case hy37 => (intro w _; go_simp <;> rfl)
              (try simp only [PU])
              refine TK 6 (v := ?v38) hHeld ?hy38 ?_
              case hy38 => (intro w hSw; (try dsimp only at hSw); go_simp <;> first | with_reducible rfl | rw [if_neg (by omega)] | rw [if_pos (by omega)])
              (try simp only [PU])
              refine TK 7 (v := ?v39) hHeld ?hy39 ?_
              case hy39 => (intro w _; go_simp <;> rfl)
              (try simp only [PU])
              refine TK 8 (v := ?v40) hHeld ?hy40 ?_
              case hy40 => (intro w _; go_simp <;> first | with_reducible rfl | rw [if_neg (by omega)] | rw [if_pos (by omega)])
              (try simp only [PU])
              refine TK 9 (v := ?v41) hHeld ?hy41 ?_
              case hy41 => (intro w _; go_simp <;> first | with_reducible rfl | rw [if_neg (by omega)] | rw [if_pos (by omega)])
              (try simp only [PU])
              refine TK 10 (v := ?v42) hHeld ?hy42 ?_
              case hy42 => (intro w _; go_simp <;> rfl)
              (try simp only [PU])
              refine TK 11 (v := ?v43) hHeld ?hy43 ?_
              case hy43 => (intro w hSw; (try dsimp only at hSw); go_simp <;> first | with_reducible rfl | rw [if_neg (by omega)] | rw [if_pos (by omega)])
              (try simp only [PU])
              refine TK 12 (v := ?v44) hHeld ?hy44 ?_
              case hy44 => (intro w _; go_simp <;> first | with_reducible rfl | rw [if_neg (by omega)] | rw [if_pos (by omega)])
              (try simp only [PU])
              refine TK 13 (v := ?v45) hHeld ?hy45 ?_
              case hy45 => (intro w _; go_simp <;> rfl)
              (try simp only [PU])
              refine wpAnyH_done (by kernel_rfl) ?_ _
              clear hHeld
              clear MKR3
              go_wp2_with fail
              go_ret
              exact ⟨ret_int HT.out.symm, (hx1.trans (hEr.trans (hx2.trans (by solve_by_elim [X0, X1, X2, X3]))))⟩
        · have HNZ := Lib.hid (show nodesE g = 0 from firstE_zero (fun t ht => hgd.out t (by omega)))
          have HST := Lib.hid (fun (i j : Nat) (hij : i < j) (hj : j < g.nodes.length) => nodes_lt HNZ.out hij hj)
          have hE0 := hEr
          clear hgd hEr
          go_wp2_with fail
          clear g0' g1' g2' g3'
          go_loopw [81] (fun u W => ∃ k : Nat, u = .int .i64 k ∧ k ≤ g.edges.length ∧ Hid (∀ t, t < k → edgeE g t = 0) ∧ Ext w1 W) (fun u _ => g.edges.length - (intOf u).toNat)
          case atStart => exact ⟨0, rfl, Nat.zero_le _, Lib.hid (fun t ht => absurd ht (by omega)), hE0⟩
          case round =>
            clear hE0
            obtain ⟨k, rfl, hk, hgd, hEr⟩ := hrel
            have g0' := hEr.cell g0
            have g1' := hEr.cell g1
            have g2' := hEr.cell g2
            have g3' := hEr.cell g3
            by_cases hlt : k < g.edges.length
            · obtain ⟨b, o, rfl, hc⟩ := HGA.out.edges.at_ hlt
              obtain ⟨-, d0, d1, d2, d3, B', d', d4, -, hP⟩ := hc k hlt
              replace d0 := hEr.cell d0
              replace d1 := hEr.cell d1
              replace d2 := hEr.cell d2
              replace d3 := hEr.cell d3
              replace d4 := hEr.cell d4
              obtain ⟨q2, w2, hq2, hw2, n0, n1, n2, n3, n4, hx2⟩ := box_edge wr g.edges[k]! B' d' 58
              have HP := Lib.hid (fun W (e : Ext w2 W) => gr_parts0 g.edges[k]!.props ok B' d' W (hP.ext ((hEr.trans hx2).trans e)))
              have HN1 := Lib.hid (fun W (e : Ext w2 W) => gr_has g.nodes ok A c g.edges[k]!.frm W (HGA.out.nodes.ext ((hEr.trans hx2).trans e)) HST.out)
              have HN2 := Lib.hid (fun W (e : Ext w2 W) => gr_has g.nodes ok A c g.edges[k]!.to_ W (HGA.out.nodes.ext ((hEr.trans hx2).trans e)) HST.out)
              have HNM := Lib.hid (fun W => g_Name g.edges[k]!.typ W)
              have hpv : 0 < k → w2.cell? ⟨b, o + (k - 1) * 5, none⟩ = some (.int .i64 g.edges[k - 1]!.id) := fun h => by
                obtain ⟨-, e0, -⟩ := hc (k - 1) (by omega)
                exact hx2.cell (hEr.cell e0)
              have G0 := hx2.cell g0'
              have G1 := hx2.cell g1'
              have G2 := hx2.cell g2'
              have G3 := hx2.cell g3'
              have HS := Lib.hid (fun (h : edgeE g k = 0) t (ht : t < k + 1) => (if e : t = k then (by rw [e]; exact h) else hgd.out t (by omega) : edgeE g t = 0))
              have HX := Lib.hid (fun (h : edgeE g k ≠ 0) => chkG_edges HH.out HNZ.out (firstE_at hgd.out h hlt))
              obtain ⟨E, hE⟩ : ∃ E, E = edgeE g k := ⟨_, rfl⟩
              rw [← hE] at HS HX
              have HW2 := Lib.hid hw2
              have HQ2 := Lib.hid hq2
              clear hc hgd hw2 hq2 hP
              rcases Nat.eq_zero_or_pos k with hz | hz
              · subst hz
                clear hpv
                rw [Nat.zero_mul, Nat.add_zero] at d0 d1 d2 d3 d4
                have HE1 := Lib.hid (fun h => edgeE_1 (g := g) (i := 0) (fun h => absurd h (Nat.lt_irrefl _)) h)
                have HEP := Lib.hid (fun h1 h2 => edgeE_p (g := g) (i := 0) (fun h => absurd h (Nat.lt_irrefl _)) h1 h2)
                rw [← hE] at HE1 HEP
                clear hE
                generalize g.edges[0]! = x at *
                generalize partsE [] x.props = z at *
                generalize hasN g.nodes x.frm = b1 at *
                generalize hasN g.nodes x.to_ = b2 at *
                generalize nameB x.typ = b3 at *
                go_upto_region 19 with (fail)
                rw [← HW2.out, ← HQ2.out]
                clear HW2 HQ2 g0' g1' g2' g3'
                have MKR4 := Lib.hid (fun V (e : Ext w2 V) => (e : Ext w2 V))
                refine wp_region_held_drew (S := (fun V => Ext w2 V)) (by kernel_rfl) ?hs46 (fun hHeld => ?go46)
                case hs46 => (exact MKR4.out _ (by solve_by_elim [X0, X1, X2, X3]))
                refine TK 0 (v := ?v47) hHeld ?hy47 ?_
                case hy47 => (intro w _; go_simp <;> rfl)
                (try simp only [PU])
                refine TK 1 (v := ?v48) hHeld ?hy48 ?_
                case hy48 => (intro w _; go_simp <;> first | with_reducible rfl | rw [if_neg (by omega)] | rw [if_pos (by omega)])
                (try simp only [PU])
                refine TK 2 (v := ?v49) hHeld ?hy49 ?_
                case hy49 => (intro w _; go_simp <;> rfl)
                (try simp only [PU])
                refine TN 3 hHeld ?_
                (try simp only [PU])
                refine TN 4 hHeld ?_
                (try simp only [PU])
                refine TN 5 hHeld ?_
                (try simp only [PU])
                refine TN 6 hHeld ?_
                (try simp only [PU])
                refine TN 7 hHeld ?_
                (try simp only [PU])
                refine TN 8 hHeld ?_
                (try simp only [PU])
                refine TN 9 hHeld ?_
                (try simp only [PU])
                refine TN 10 hHeld ?_
                (try simp only [PU])
                refine TN 11 hHeld ?_
                (try simp only [PU])
                refine TN 12 hHeld ?_
                (try simp only [PU])
                refine TK 13 (v := ?v60) hHeld ?hy60 ?_
                case hy60 => (intro w _; go_simp <;> rfl)
                (try simp only [PU])
                refine wpAnyH_done (by kernel_rfl) ?_ _
                clear hHeld
                clear MKR4
                have gE : Ext w2 w2.drew := (Ext.refl _).drew
                have j0 := gE.cell n0
                have j1 := gE.cell n1
                have j2 := gE.cell n2
                have j3 := gE.cell n3
                have j4 := gE.cell n4
                have k0 := gE.cell G0
                have k1 := gE.cell G1
                have k2 := gE.cell G2
                have k3 := gE.cell G3
                by_cases h1 : x.id < 1
                · have HT := Lib.hid (HX.out (by rw [HE1.out (.inl h1)]; decide))
                  rw [HE1.out (.inl h1)] at HT
                  go_wp2_with fail
                  go_ret
                  exact ⟨ret_int HT.out.symm, (hx1.trans (hEr.trans (hx2.trans (by solve_by_elim [X0, X1, X2, X3]))))⟩
                · by_cases h2 : g.ne ≤ x.id
                  · have HT := Lib.hid (HX.out (by rw [HE1.out (.inr h2)]; decide))
                    rw [HE1.out (.inr h2)] at HT
                    go_wp2_with fail
                    go_ret
                    exact ⟨ret_int HT.out.symm, (hx1.trans (hEr.trans (hx2.trans (by solve_by_elim [X0, X1, X2, X3]))))⟩
                  · have HZ := Lib.hid (HEP.out (by omega) (by omega))
                    clear HE1 HEP
                    cases b1
                    · have HT := Lib.hid (HX.out (by rw [HZ.out]; simp))
                      rw [HZ.out] at HT
                      go_wp2_with (go_at_call 48; ((with_reducible refine (HN1.out _ (by solve_by_elim [X0, X1, X2, X3])).mono ?_); rintro e v1 ⟨rfl, gx1⟩; replace gx1 : Ext w2 v1 := Ext.trans (by solve_by_elim [X0, X1, X2, X3]) gx1; have m0 := gx1.cell G0; have r0 := gx1.cell n0; have r1 := gx1.cell n1; have r2 := gx1.cell n2; have r3 := gx1.cell n3; have r4 := gx1.cell n4))
                      go_ret
                      exact ⟨ret_int HT.out.symm, hx1.trans (hEr.trans (hx2.trans gx1))⟩
                    · cases b2
                      · have HT := Lib.hid (HX.out (by rw [HZ.out]; simp))
                        rw [HZ.out] at HT
                        go_wp2_with (first | (go_at_call 48; ((with_reducible refine (HN1.out _ (by solve_by_elim [X0, X1, X2, X3])).mono ?_); rintro e v1 ⟨rfl, gx1⟩; replace gx1 : Ext w2 v1 := Ext.trans (by solve_by_elim [X0, X1, X2, X3]) gx1; have m0 := gx1.cell G0; have r0 := gx1.cell n0; have r1 := gx1.cell n1; have r2 := gx1.cell n2; have r3 := gx1.cell n3; have r4 := gx1.cell n4)) | (go_at_call 48; ((with_reducible refine (HN2.out _ gx1).mono ?_); rintro e v2 ⟨rfl, gx2⟩; replace gx2 : Ext w2 v2 := gx1.trans gx2; have l3 := gx2.cell n3; have l4 := gx2.cell n4)))
                        go_ret
                        exact ⟨ret_int HT.out.symm, hx1.trans (hEr.trans (hx2.trans gx2))⟩
                      · cases b3
                        · have HT := Lib.hid (HX.out (by rw [HZ.out]; simp))
                          rw [HZ.out] at HT
                          go_wp2_with (first | (go_at_call 48; ((with_reducible refine (HN1.out _ (by solve_by_elim [X0, X1, X2, X3])).mono ?_); rintro e v1 ⟨rfl, gx1⟩; replace gx1 : Ext w2 v1 := Ext.trans (by solve_by_elim [X0, X1, X2, X3]) gx1; have m0 := gx1.cell G0; have r0 := gx1.cell n0; have r1 := gx1.cell n1; have r2 := gx1.cell n2; have r3 := gx1.cell n3; have r4 := gx1.cell n4)) | (go_at_call 48; ((with_reducible refine (HN2.out _ gx1).mono ?_); rintro e v2 ⟨rfl, gx2⟩; replace gx2 : Ext w2 v2 := gx1.trans gx2; have l3 := gx2.cell n3; have l4 := gx2.cell n4)) | (go_at_call 21; ((with_reducible refine (HNM.out _).mono ?_); rintro e v3 ⟨rfl, rfl⟩)))
                          go_ret
                          exact ⟨ret_int HT.out.symm, hx1.trans (hEr.trans (hx2.trans gx2))⟩
                        · rw [show E = z from HZ.out] at HS HX
                          by_cases he : z = 0
                          · have HT := Lib.hid (HS.out he)
                            have he2 : (z != 0) = false := by rw [he]; rfl
                            clear HS HX HZ he
                            go_wp2_with (first | (go_at_call 48; ((with_reducible refine (HN1.out _ (by solve_by_elim [X0, X1, X2, X3])).mono ?_); rintro e v1 ⟨rfl, gx1⟩; replace gx1 : Ext w2 v1 := Ext.trans (by solve_by_elim [X0, X1, X2, X3]) gx1; have m0 := gx1.cell G0; have r0 := gx1.cell n0; have r1 := gx1.cell n1; have r2 := gx1.cell n2; have r3 := gx1.cell n3; have r4 := gx1.cell n4)) | (go_at_call 48; ((with_reducible refine (HN2.out _ gx1).mono ?_); rintro e v2 ⟨rfl, gx2⟩; replace gx2 : Ext w2 v2 := gx1.trans gx2; have l3 := gx2.cell n3; have l4 := gx2.cell n4)) | (go_at_call 21; ((with_reducible refine (HNM.out _).mono ?_); rintro e v3 ⟨rfl, rfl⟩)) | (go_at_call 47; ((with_reducible refine (HP.out _ (by solve_by_elim [X0, X1, X2, X3])).mono ?_); rintro e w8 ⟨rfl, hx8⟩; replace hx8 : Ext w2 w8 := Ext.trans (by solve_by_elim [X0, X1, X2, X3]) hx8)))
                            go_roundw
                            case rel => exact ⟨0 + 1, rfl, by omega, HT, hEr.trans (hx2.trans hx8)⟩
                            case measure => simp [intOf]; omega
                          · have HT := Lib.hid (HX.out he)
                            have he2 : (z != 0) = true := bne_iff_ne.2 he
                            clear HS HX he
                            go_wp2_with (first | (go_at_call 48; ((with_reducible refine (HN1.out _ (by solve_by_elim [X0, X1, X2, X3])).mono ?_); rintro e v1 ⟨rfl, gx1⟩; replace gx1 : Ext w2 v1 := Ext.trans (by solve_by_elim [X0, X1, X2, X3]) gx1; have m0 := gx1.cell G0; have r0 := gx1.cell n0; have r1 := gx1.cell n1; have r2 := gx1.cell n2; have r3 := gx1.cell n3; have r4 := gx1.cell n4)) | (go_at_call 48; ((with_reducible refine (HN2.out _ gx1).mono ?_); rintro e v2 ⟨rfl, gx2⟩; replace gx2 : Ext w2 v2 := gx1.trans gx2; have l3 := gx2.cell n3; have l4 := gx2.cell n4)) | (go_at_call 21; ((with_reducible refine (HNM.out _).mono ?_); rintro e v3 ⟨rfl, rfl⟩)) | (go_at_call 47; ((with_reducible refine (HP.out _ (by solve_by_elim [X0, X1, X2, X3])).mono ?_); rintro e w8 ⟨rfl, hx8⟩; replace hx8 : Ext w2 w8 := Ext.trans (by solve_by_elim [X0, X1, X2, X3]) hx8)))
                            go_ret
                            exact ⟨ret_int HT.out.symm, hx1.trans (hEr.trans (hx2.trans hx8))⟩
              · replace hpv := hpv hz
                by_cases hlo : g.edges[k - 1]!.id < g.edges[k]!.id
                · have HE1 := Lib.hid (fun h => edgeE_1 (g := g) (i := k) (fun _ => hlo) h)
                  have HEP := Lib.hid (fun h1 h2 => edgeE_p (g := g) (i := k) (fun _ => hlo) h1 h2)
                  rw [← hE] at HE1 HEP
                  clear hE
                  generalize g.edges[k]! = x at *
                  generalize g.edges[k - 1]! = y at *
                  generalize partsE [] x.props = z at *
                  generalize hasN g.nodes x.frm = b1 at *
                  generalize hasN g.nodes x.to_ = b2 at *
                  generalize nameB x.typ = b3 at *
                  have ho : ¬ x.id ≤ y.id := by omega
                  clear hlo
                  go_upto_region 19 with (fail)
                  rw [← HW2.out, ← HQ2.out]
                  clear HW2 HQ2 g0' g1' g2' g3'
                  have p0 : 0 < k := by omega
                  have p1 : (1 : Int) ≤ (k : Int) := by omega
                  have p2 : ((k : Int) - 1).toNat = k - 1 := by omega
                  have p5 : IntKind.i64.wrap ((k : Int) - 1) = (k : Int) - 1 := IntWalk.i64_in _ (by omega)
                  have p6 : ((k : Int) - 1) < (g.edges.length : Int) := by omega
                  have MKR5 := Lib.hid (fun V (e : Ext w2 V) => (⟨e.cell G1, e.cell n0, e.cell hpv, e⟩ : V.cell? ⟨q, 1, none⟩ = some (.slice (some ⟨b, o, none⟩) g.edges.length d) ∧ V.cell? ⟨q2, 0, none⟩ = some (.int .i64 x.id) ∧ V.cell? ⟨b, o + (k - 1) * 5, none⟩ = some (.int .i64 y.id) ∧ Ext w2 V))
                  refine wp_region_held_drew (S := (fun V => V.cell? ⟨q, 1, none⟩ = some (.slice (some ⟨b, o, none⟩) g.edges.length d) ∧ V.cell? ⟨q2, 0, none⟩ = some (.int .i64 x.id) ∧ V.cell? ⟨b, o + (k - 1) * 5, none⟩ = some (.int .i64 y.id) ∧ Ext w2 V)) (by kernel_rfl) ?hs61 (fun hHeld => ?go61)
                  case hs61 => (exact MKR5.out _ (by solve_by_elim [X0, X1, X2, X3]))
                  refine TK 0 (v := ?v62) hHeld ?hy62 ?_
                  case hy62 => (intro w _; go_simp <;> rfl)
                  (try simp only [PU])
                  refine TK 1 (v := ?v63) hHeld ?hy63 ?_
                  case hy63 => (intro w _; go_simp <;> first | with_reducible rfl | rw [if_neg (by omega)] | rw [if_pos (by omega)])
                  (try simp only [PU])
                  refine TK 2 (v := ?v64) hHeld ?hy64 ?_
                  case hy64 => (intro w _; go_simp <;> rfl)
                  (try simp only [PU])
                  refine TK 3 (v := ?v65) hHeld ?hy65 ?_
                  case hy65 => (intro w _; go_simp <;> rfl)
                  (try simp only [PU])
                  refine TK 4 (v := ?v66) hHeld ?hy66 ?_
                  case hy66 => (intro w hSw; (try dsimp only at hSw); go_simp <;> first | with_reducible rfl | rw [if_neg (by omega)] | rw [if_pos (by omega)])
                  (try simp only [PU])
                  refine TK 5 (v := ?v67) hHeld ?hy67 ?_
                  case hy67 => (intro w _; go_simp <;> rfl)
                  (try simp only [PU])
                  refine TK 6 (v := ?v68) hHeld ?hy68 ?_
                  case hy68 => (intro w hSw; (try dsimp only at hSw); go_simp <;> first | with_reducible rfl | rw [if_neg (by omega)] | rw [if_pos (by omega)])
                  (try simp only [PU])
                  refine TK 7 (v := ?v69) hHeld ?hy69 ?_
                  case hy69 => (intro w _; go_simp <;> rfl)
                  (try simp only [PU])
                  refine TK 8 (v := ?v70) hHeld ?hy70 ?_
                  case hy70 => (intro w _; go_simp <;> first | with_reducible rfl | rw [if_neg (by omega)] | rw [if_pos (by omega)])
                  (try simp only [PU])
                  refine TK 9 (v := ?v71) hHeld ?hy71 ?_
                  case hy71 => (intro w _; go_simp <;> first | with_reducible rfl | rw [if_neg (by omega)] | rw [if_pos (by omega)])
                  (try simp only [PU])
                  refine TK 10 (v := ?v72) hHeld ?hy72 ?_
                  case hy72 => (intro w _; go_simp <;> rfl)
                  (try simp only [PU])
                  refine TK 11 (v := ?v73) hHeld ?hy73 ?_
                  case hy73 => (intro w hSw; (try dsimp only at hSw); go_simp <;> first | with_reducible rfl | rw [if_neg (by omega)] | rw [if_pos (by omega)])
                  (try simp only [PU])
                  refine TK 12 (v := ?v74) hHeld ?hy74 ?_
                  case hy74 => (intro w _; go_simp <;> first | with_reducible rfl | rw [if_neg (by omega)] | rw [if_pos (by omega)])
                  (try simp only [PU])
                  refine TK 13 (v := ?v75) hHeld ?hy75 ?_
                  case hy75 => (intro w _; go_simp <;> rfl)
                  (try simp only [PU])
                  refine wpAnyH_done (by kernel_rfl) ?_ _
                  clear hHeld
                  clear MKR5
                  clear p0 p1 p2 p5 p6 ho hpv
                  have gE : Ext w2 w2.drew := (Ext.refl _).drew
                  have j0 := gE.cell n0
                  have j1 := gE.cell n1
                  have j2 := gE.cell n2
                  have j3 := gE.cell n3
                  have j4 := gE.cell n4
                  have k0 := gE.cell G0
                  have k1 := gE.cell G1
                  have k2 := gE.cell G2
                  have k3 := gE.cell G3
                  by_cases h1 : x.id < 1
                  · have HT := Lib.hid (HX.out (by rw [HE1.out (.inl h1)]; decide))
                    rw [HE1.out (.inl h1)] at HT
                    go_wp2_with fail
                    go_ret
                    exact ⟨ret_int HT.out.symm, (hx1.trans (hEr.trans (hx2.trans (by solve_by_elim [X0, X1, X2, X3]))))⟩
                  · by_cases h2 : g.ne ≤ x.id
                    · have HT := Lib.hid (HX.out (by rw [HE1.out (.inr h2)]; decide))
                      rw [HE1.out (.inr h2)] at HT
                      go_wp2_with fail
                      go_ret
                      exact ⟨ret_int HT.out.symm, (hx1.trans (hEr.trans (hx2.trans (by solve_by_elim [X0, X1, X2, X3]))))⟩
                    · have HZ := Lib.hid (HEP.out (by omega) (by omega))
                      clear HE1 HEP
                      cases b1
                      · have HT := Lib.hid (HX.out (by rw [HZ.out]; simp))
                        rw [HZ.out] at HT
                        go_wp2_with (go_at_call 48; ((with_reducible refine (HN1.out _ (by solve_by_elim [X0, X1, X2, X3])).mono ?_); rintro e v1 ⟨rfl, gx1⟩; replace gx1 : Ext w2 v1 := Ext.trans (by solve_by_elim [X0, X1, X2, X3]) gx1; have m0 := gx1.cell G0; have r0 := gx1.cell n0; have r1 := gx1.cell n1; have r2 := gx1.cell n2; have r3 := gx1.cell n3; have r4 := gx1.cell n4))
                        go_ret
                        exact ⟨ret_int HT.out.symm, hx1.trans (hEr.trans (hx2.trans gx1))⟩
                      · cases b2
                        · have HT := Lib.hid (HX.out (by rw [HZ.out]; simp))
                          rw [HZ.out] at HT
                          go_wp2_with (first | (go_at_call 48; ((with_reducible refine (HN1.out _ (by solve_by_elim [X0, X1, X2, X3])).mono ?_); rintro e v1 ⟨rfl, gx1⟩; replace gx1 : Ext w2 v1 := Ext.trans (by solve_by_elim [X0, X1, X2, X3]) gx1; have m0 := gx1.cell G0; have r0 := gx1.cell n0; have r1 := gx1.cell n1; have r2 := gx1.cell n2; have r3 := gx1.cell n3; have r4 := gx1.cell n4)) | (go_at_call 48; ((with_reducible refine (HN2.out _ gx1).mono ?_); rintro e v2 ⟨rfl, gx2⟩; replace gx2 : Ext w2 v2 := gx1.trans gx2; have l3 := gx2.cell n3; have l4 := gx2.cell n4)))
                          go_ret
                          exact ⟨ret_int HT.out.symm, hx1.trans (hEr.trans (hx2.trans gx2))⟩
                        · cases b3
                          · have HT := Lib.hid (HX.out (by rw [HZ.out]; simp))
                            rw [HZ.out] at HT
                            go_wp2_with (first | (go_at_call 48; ((with_reducible refine (HN1.out _ (by solve_by_elim [X0, X1, X2, X3])).mono ?_); rintro e v1 ⟨rfl, gx1⟩; replace gx1 : Ext w2 v1 := Ext.trans (by solve_by_elim [X0, X1, X2, X3]) gx1; have m0 := gx1.cell G0; have r0 := gx1.cell n0; have r1 := gx1.cell n1; have r2 := gx1.cell n2; have r3 := gx1.cell n3; have r4 := gx1.cell n4)) | (go_at_call 48; ((with_reducible refine (HN2.out _ gx1).mono ?_); rintro e v2 ⟨rfl, gx2⟩; replace gx2 : Ext w2 v2 := gx1.trans gx2; have l3 := gx2.cell n3; have l4 := gx2.cell n4)) | (go_at_call 21; ((with_reducible refine (HNM.out _).mono ?_); rintro e v3 ⟨rfl, rfl⟩)))
                            go_ret
                            exact ⟨ret_int HT.out.symm, hx1.trans (hEr.trans (hx2.trans gx2))⟩
                          · rw [show E = z from HZ.out] at HS HX
                            by_cases he : z = 0
                            · have HT := Lib.hid (HS.out he)
                              have he2 : (z != 0) = false := by rw [he]; rfl
                              clear HS HX HZ he
                              go_wp2_with (first | (go_at_call 48; ((with_reducible refine (HN1.out _ (by solve_by_elim [X0, X1, X2, X3])).mono ?_); rintro e v1 ⟨rfl, gx1⟩; replace gx1 : Ext w2 v1 := Ext.trans (by solve_by_elim [X0, X1, X2, X3]) gx1; have m0 := gx1.cell G0; have r0 := gx1.cell n0; have r1 := gx1.cell n1; have r2 := gx1.cell n2; have r3 := gx1.cell n3; have r4 := gx1.cell n4)) | (go_at_call 48; ((with_reducible refine (HN2.out _ gx1).mono ?_); rintro e v2 ⟨rfl, gx2⟩; replace gx2 : Ext w2 v2 := gx1.trans gx2; have l3 := gx2.cell n3; have l4 := gx2.cell n4)) | (go_at_call 21; ((with_reducible refine (HNM.out _).mono ?_); rintro e v3 ⟨rfl, rfl⟩)) | (go_at_call 47; ((with_reducible refine (HP.out _ (by solve_by_elim [X0, X1, X2, X3])).mono ?_); rintro e w8 ⟨rfl, hx8⟩; replace hx8 : Ext w2 w8 := Ext.trans (by solve_by_elim [X0, X1, X2, X3]) hx8)))
                              go_roundw
                              case rel => exact ⟨k + 1, by go_num, by omega, HT, hEr.trans (hx2.trans hx8)⟩
                              case measure => simp [intOf]; omega
                            · have HT := Lib.hid (HX.out he)
                              have he2 : (z != 0) = true := bne_iff_ne.2 he
                              clear HS HX he
                              go_wp2_with (first | (go_at_call 48; ((with_reducible refine (HN1.out _ (by solve_by_elim [X0, X1, X2, X3])).mono ?_); rintro e v1 ⟨rfl, gx1⟩; replace gx1 : Ext w2 v1 := Ext.trans (by solve_by_elim [X0, X1, X2, X3]) gx1; have m0 := gx1.cell G0; have r0 := gx1.cell n0; have r1 := gx1.cell n1; have r2 := gx1.cell n2; have r3 := gx1.cell n3; have r4 := gx1.cell n4)) | (go_at_call 48; ((with_reducible refine (HN2.out _ gx1).mono ?_); rintro e v2 ⟨rfl, gx2⟩; replace gx2 : Ext w2 v2 := gx1.trans gx2; have l3 := gx2.cell n3; have l4 := gx2.cell n4)) | (go_at_call 21; ((with_reducible refine (HNM.out _).mono ?_); rintro e v3 ⟨rfl, rfl⟩)) | (go_at_call 47; ((with_reducible refine (HP.out _ (by solve_by_elim [X0, X1, X2, X3])).mono ?_); rintro e w8 ⟨rfl, hx8⟩; replace hx8 : Ext w2 w8 := Ext.trans (by solve_by_elim [X0, X1, X2, X3]) hx8)))
                              go_ret
                              exact ⟨ret_int HT.out.symm, hx1.trans (hEr.trans (hx2.trans hx8))⟩
                · have HT := Lib.hid (HX.out (by rw [hE, edgeE_26 hz (by omega)]; decide))
                  rw [hE, edgeE_26 hz (by omega)] at HT
                  clear hE HS HX HP
                  generalize g.edges[k]! = x at *
                  generalize g.edges[k - 1]! = y at *
                  have ho : x.id ≤ y.id := by omega
                  clear hlo
                  go_upto_region 19 with (fail)
                  rw [← HW2.out, ← HQ2.out]
                  clear HW2 HQ2 g0' g1' g2' g3'
                  have p0 : 0 < k := by omega
                  have p1 : (1 : Int) ≤ (k : Int) := by omega
                  have p2 : ((k : Int) - 1).toNat = k - 1 := by omega
                  have p5 : IntKind.i64.wrap ((k : Int) - 1) = (k : Int) - 1 := IntWalk.i64_in _ (by omega)
                  have p6 : ((k : Int) - 1) < (g.edges.length : Int) := by omega
                  have MKR6 := Lib.hid (fun V (e : Ext w2 V) => (⟨e.cell G1, e.cell n0, e.cell hpv, e⟩ : V.cell? ⟨q, 1, none⟩ = some (.slice (some ⟨b, o, none⟩) g.edges.length d) ∧ V.cell? ⟨q2, 0, none⟩ = some (.int .i64 x.id) ∧ V.cell? ⟨b, o + (k - 1) * 5, none⟩ = some (.int .i64 y.id) ∧ Ext w2 V))
                  refine wp_region_held_drew (S := (fun V => V.cell? ⟨q, 1, none⟩ = some (.slice (some ⟨b, o, none⟩) g.edges.length d) ∧ V.cell? ⟨q2, 0, none⟩ = some (.int .i64 x.id) ∧ V.cell? ⟨b, o + (k - 1) * 5, none⟩ = some (.int .i64 y.id) ∧ Ext w2 V)) (by kernel_rfl) ?hs76 (fun hHeld => ?go76)
                  case hs76 => (exact MKR6.out _ (by solve_by_elim [X0, X1, X2, X3]))
                  refine TK 0 (v := ?v77) hHeld ?hy77 ?_
                  case hy77 => (intro w _; go_simp <;> rfl)
                  (try simp only [PU])
                  refine TK 1 (v := ?v78) hHeld ?hy78 ?_
                  case hy78 => (intro w _; go_simp <;> first | with_reducible rfl | rw [if_neg (by omega)] | rw [if_pos (by omega)])
                  (try simp only [PU])
                  refine TK 2 (v := ?v79) hHeld ?hy79 ?_
                  case hy79 => (intro w _; go_simp <;> rfl)
                  (try simp only [PU])
                  refine TK 3 (v := ?v80) hHeld ?hy80 ?_
                  case hy80 => (intro w _; go_simp <;> rfl)
                  (try simp only [PU])
                  refine TK 4 (v := ?v81) hHeld ?hy81 ?_
                  case hy81 => (intro w hSw; (try dsimp only at hSw); go_simp <;> first | with_reducible rfl | rw [if_neg (by omega)] | rw [if_pos (by omega)])
                  (try simp only [PU])
                  refine TK 5 (v := ?v82) hHeld ?hy82 ?_
                  case hy82 => (intro w _; go_simp <;> rfl)
                  (try simp only [PU])
                  refine TK 6 (v := ?v83) hHeld ?hy83 ?_
                  case hy83 => (intro w hSw; (try dsimp only at hSw); go_simp <;> first | with_reducible rfl | rw [if_neg (by omega)] | rw [if_pos (by omega)])
                  (try simp only [PU])
                  refine TK 7 (v := ?v84) hHeld ?hy84 ?_
                  case hy84 => (intro w _; go_simp <;> rfl)
                  (try simp only [PU])
                  refine TK 8 (v := ?v85) hHeld ?hy85 ?_
                  case hy85 => (intro w _; go_simp <;> first | with_reducible rfl | rw [if_neg (by omega)] | rw [if_pos (by omega)])
                  (try simp only [PU])
                  refine TK 9 (v := ?v86) hHeld ?hy86 ?_
                  case hy86 => (intro w _; go_simp <;> first | with_reducible rfl | rw [if_neg (by omega)] | rw [if_pos (by omega)])
                  (try simp only [PU])
                  refine TK 10 (v := ?v87) hHeld ?hy87 ?_
                  case hy87 => (intro w _; go_simp <;> rfl)
                  (try simp only [PU])
                  refine TK 11 (v := ?v88) hHeld ?hy88 ?_
                  case hy88 => (intro w hSw; (try dsimp only at hSw); go_simp <;> first | with_reducible rfl | rw [if_neg (by omega)] | rw [if_pos (by omega)])
                  (try simp only [PU])
                  refine TK 12 (v := ?v89) hHeld ?hy89 ?_
                  case hy89 => (intro w _; go_simp <;> first | with_reducible rfl | rw [if_neg (by omega)] | rw [if_pos (by omega)])
                  (try simp only [PU])
                  refine TK 13 (v := ?v90) hHeld ?hy90 ?_
                  case hy90 => (intro w _; go_simp <;> rfl)
                  (try simp only [PU])
                  refine wpAnyH_done (by kernel_rfl) ?_ _
                  clear hHeld
                  clear MKR6
                  go_wp2_with fail
                  go_ret
                  exact ⟨ret_int HT.out.symm, (hx1.trans (hEr.trans (hx2.trans (by solve_by_elim [X0, X1, X2, X3]))))⟩
            · have HT := Lib.hid (chkG_edges HH.out HNZ.out (firstE_zero (fun t ht => hgd.out t (by omega)) : edgesE g = 0))
              go_wp2_with fail
              go_ret
              exact ⟨ret_int HT.out.symm, hx1.trans hEr⟩
end Go.Proofs.YtnheioehadldmaaGreat

/- A WHOLE SLICE APPENDED to a row that a call owns, any kind of element; parts of such a row as slices. -/
namespace Go.Proofs.YtnheioehadldmaaGreat
open Go.RowKit
variable {α : Type} {K : KindG α} {P : Program} {e : TypeId} {base : Nat} {ok0 : Nat → Prop} {v : Value} {hs : List α} {t bytes : Nat}
theorem run_append_zero' {P : Program} (w : World) (t ty e : TypeId) (z : Value) (size bytes : Nat) (ht : P.underlying t = some (.slice e)) (hi : (P.info? e).map (fun i => (i.zero, i.size, i.bytes)) = some (some z, size, bytes)) (B : Option Addr) (n cap c : Nat) (hn : n ≤ cap) :
    (Builtin.append_ #[t, t] ty #[.slice B n cap, .slice none 0 c]).run P w = .ok (.slice B n cap) w := by
  obtain ⟨i, hi, hz0, hz1, hz2⟩ := info_parts hi
  cases B <;> simp [Builtin.append_, run_underlying ht, sizeOf, typeInfo, hi, Builtin.lenOf, run_firstCells_none, hn, storeCells]
theorem run_catG (T : ElT P t e K.size bytes) (ty : TypeId) (w : World) (h : OwnG K e w base ok0 v hs) (hb : base ≤ w.heap.size) (A : Option Addr) (m c : Nat) (hs2 : List α) (hm : m = hs2.length) (hA : A = none → m = 0)
    (hc : ∀ ad, A = some ad → ∀ j u, (hs2.flatMap K.enc)[j]? = some u → w.cell? (ad.add j) = some u) (hl : ∀ p ∈ hs2, K.lies w (fun b => ok0 b ∧ some b ≠ v.ownBlock) p) (h63 : hs.length + m ≤ 8388608) (hbytes : bytes ≤ 1000000) :
    ∃ v' w', (Builtin.append_ #[t, t] ty #[v, .slice A m c]).run P w = .ok v' w' ∧ OwnG K e w' base ok0 v' (hs ++ hs2) ∧ w.grownBy w' v.ownBlock ∧ (v'.ownBlock = v.ownBlock ∨ v'.ownBlock = some w.heap.size) := by
  obtain ⟨z, hz, hzc⟩ := T.hi
  obtain ⟨i, hi, hz0, hz1, hz2⟩ := info_parts hz
  cases A with
  | none =>
    obtain rfl := hA rfl
    have h2 : hs2 = [] := List.eq_nil_of_length_eq_zero hm.symm
    obtain ⟨B, cap, hv, hle⟩ : ∃ B cap, v = .slice B hs.length cap ∧ hs.length ≤ cap := by
      rcases h.own.2 with ⟨hv, h0⟩ | ⟨g, cap, cur, hv, hb, hh, hc, _⟩
      · exact ⟨none, 0, by rw [hv, h0], by omega⟩
      · exact ⟨_, cap, hv, hc⟩
    refine ⟨v, w, ?_, by rw [h2, List.append_nil]; exact h, World.grownBy.refl _ _, .inl rfl⟩
    rw [hv]
    exact run_append_zero' (P := P) w t ty e z K.size bytes T.ht hz B hs.length cap c hle
  | some ad =>
    have hfl : (hs2.flatMap K.enc).length = m * K.size := by rw [flat_len K.enc K.size K.len, hm]
    obtain ⟨v', w', hr, k1, k2, -, k3⟩ := run_append_own_at (P := P) w base t ty e i z K.size bytes T.ht hi hz0 hz1 hz2 hzc T.hs v hs.length (hs.flatMap K.enc) h.own ad m c (hs2.flatMap K.enc) hfl (hc ad rfl) (fun u hu => by
      obtain ⟨x, -, hx⟩ := List.mem_flatMap.1 hu
      exact K.one x u hx) (by unfold maxLen; omega) (Nat.le_trans (Nat.mul_le_mul h63 hbytes) (by decide)) hb
    have hcell : ∀ b o y, (ok0 b ∧ some b ≠ v.ownBlock) → w.cell? ⟨b, o, none⟩ = some y → w'.cell? ⟨b, o, none⟩ = some y ∧ (ok0 b ∧ some b ≠ v'.ownBlock) := fun b o y hb hc => by
      have hlt : b < w.heap.size := block_lt_of_cell hc
      refine ⟨k2.cell hc hb.2, hb.1, ?_⟩
      rcases k3 with e2 | e2
      · rw [e2]; exact hb.2
      · rw [e2]
        intro e3
        injection e3 with e3
        omega
    refine ⟨v', w', hr, ⟨by rw [List.length_append, List.flatMap_append, ← hm]; exact k1, fun p hp => ?_⟩, k2, k3⟩
    rcases List.mem_append.1 hp with hp | hp
    · exact K.keep _ _ _ _ _ hcell (h.lies p hp)
    · exact K.keep _ _ _ _ _ hcell (hl p hp)
theorem own_catG (T : ElT P t e K.size bytes) {ops : Array Oper} {rest : List Oper} {o : Oper} {a : Act} {Q : Exit → Act → World → Prop} {w : World} (hgd : o.guard = none) (s y : Operand)
    (ho : o.op = .call { callee := .builtin .append, args := #[s, y], argTypes := #[t, t] }) (hs' : a.eval s = v) (h : OwnG K e w base ok0 v hs) (hb : base ≤ w.heap.size) (A : Option Addr) (m c : Nat) (hs2 : List α) (hy : a.eval y = .slice A m c) (hm : m = hs2.length) (hA : A = none → m = 0)
    (hc : ∀ ad, A = some ad → ∀ j u, (hs2.flatMap K.enc)[j]? = some u → w.cell? (ad.add j) = some u) (hl : ∀ p ∈ hs2, K.lies w (fun b => ok0 b ∧ some b ≠ v.ownBlock) p) (h63 : hs.length + m ≤ 8388608) (hbytes : bytes ≤ 1000000)
    (hK : ∀ v' w', OwnG K e w' base ok0 v' (hs ++ hs2) → w.grownBy w' v.ownBlock → (v'.ownBlock = v.ownBlock ∨ v'.ownBlock = some w.heap.size) → wpList P ops Q rest (a.put o.dst v') w') : wpList P ops Q (o :: rest) a w := by
  obtain ⟨v', w', hr, h1, h2, h3⟩ := run_catG T o.type w h hb A m c hs2 hm hA hc hl h63 hbytes
  refine wpList_plain hgd fun K2 hK2 => ?_
  unfold Oper.wp execOp
  simp only [ho, resolve, invoke, builtin, Sem.run_bind, Sem.run_pure, Result.andThen_ok, List.map_toArray, List.map_cons, List.map_nil, hs', hy, hr]
  exact hK2 _ _ (hK v' w' h1 h2 h3)
variable {W : World} {g n c : Nat}
end Go.Proofs.YtnheioehadldmaaGreat
