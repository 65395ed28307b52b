/- PARTS OF THE WALKS, joined: RkJ, Merge, SortM, SmB, RkK, RkL. -/
import Derived.Test.YtlkpmbkmmfoakaaDoorU13
import Derived.Sort.LotA
import Derived.Test.YtlkpmbkmmfoakaaDoorU00
import Derived.Test.YtlkpmbkmmfoakaaDoorU11
import Derived.Deep.RegionHeld3
import Derived.WalkSpells
import Derived.Deep.Cut
import Derived.Laws.BitsAllLaws
import Derived.BigRegion
import Derived.WalkKit
import Derived.Test.YtlkpmbkmmfoakaaDoorU09
/- THE WALKS over rank.Step and both Run. -/
namespace Go.Proofs.YtlkpmbkmmfoakaaDoor
open Go.RowKit
theorem stepP_tells {g : GraphG} {types : List ByteArray} {damp : Fr} {l O : List Sh} {ov : Bool} (h : chkG g = 0) (h1 : (dampB damp && fitsB g l) = true) (h2 : l.length ≠ 0) (ht : (ov = true → stepN types g.edges damp l = none) ∧ (ov = false → stepN types g.edges damp l = some O)) :
    stepP g types damp l = if ov then ([], 24) else (O, 0) := by
  have hl : l.length = g.nodes.length := by rw [Bool.and_eq_true] at h1; exact (fitsB_iff.1 h1.2).1
  rw [stepP_on h h1 h2, ← hl]
  cases ov with
  | true => rw [show stepR types g.edges damp l (l.length : Int) = none from ht.1 rfl]; rfl
  | false => rw [show stepR types g.edges damp l (l.length : Int) = some O from ht.2 rfl]; rfl
theorem stepP_bad {g : GraphG} {types : List ByteArray} {damp : Fr} {l : List Sh} (h : (stepP g types damp l).2 ≠ 0) : (stepP g types damp l).1 = [] := by
  by_cases h0 : chkG g = 0
  · by_cases h1 : (dampB damp && fitsB g l) = true
    · by_cases h2 : l.length = 0
      · rw [stepP_nil h0 h1 h2]
      · rw [stepP_on h0 h1 h2] at h ⊢
        cases hh : stepR types g.edges damp l (g.nodes.length : Int) with
        | none => rfl
        | some o => rw [hh] at h; exact absurd rfl h
    · rw [stepP_arg h0 (by simpa using h1)]
  · rw [stepP_err h0]
theorem shErr_parts {M : List Sh} {z : Int} {w w' : World} {e : Ending} (h : ShErr (M, z) w e w') : (∃ A' c', e = .returned (.tuple #[.slice A' M.length c', .int .i64 z]) ∧ M.length ≤ c' ∧ Shares w' (fun b => w.heap.size ≤ b) A' M) ∧ Ext w w' := h
/-- k steps from the start -/
def runK (g : GraphG) (types : List ByteArray) (damp : Fr) : Nat → List Sh × Int
  | 0 => (startR g, 0)
  | k + 1 => if (runK g types damp k).2 = 0 then stepP g types damp (runK g types damp k).1 else runK g types damp k
def runP (g : GraphG) (types : List ByteArray) (damp : Fr) (k : Int) : List Sh × Int :=
  if chkG g = 0 then (if (decide (0 ≤ k) && decide (k ≤ 8) && dampB damp) = true then runK g types damp k.toNat else ([], 1)) else ([], chkG g)
section
variable {g : GraphG} {types : List ByteArray} {damp : Fr} {k : Int} {i : Nat} {L : List Sh}
theorem runP_err (h : chkG g ≠ 0) : runP g types damp k = ([], chkG g) := by unfold runP; rw [if_neg h]
theorem runP_arg (h : chkG g = 0) (h1 : (decide (0 ≤ k) && decide (k ≤ 8) && dampB damp) = false) : runP g types damp k = ([], 1) := by unfold runP; rw [if_pos h, if_neg (by simp [h1])]
theorem runP_on (h : chkG g = 0) (h1 : 0 ≤ k) (h2 : k ≤ 8) (h3 : dampB damp = true) : runP g types damp k = runK g types damp k.toNat := by unfold runP; rw [if_pos h, if_pos (by simp [h1, h2, h3])]
theorem runK_next (h : runK g types damp i = (L, 0)) : runK g types damp (i + 1) = stepP g types damp L := by rw [runK, h]; rfl
theorem runK_stay {z : Int} (h : runK g types damp i = ([], z)) (hz : z ≠ 0) : ∀ j, runK g types damp (i + j) = ([], z)
  | 0 => h
  | j + 1 => by rw [← Nat.add_assoc, runK, runK_stay h hz j, if_neg hz]
theorem runK_bad {z : Int} {M : List Sh} (h : runK g types damp i = (L, 0)) (hs : stepP g types damp L = (M, z)) (hz : z ≠ 0) (hk : i < k.toNat) : runK g types damp k.toNat = ([], z) := by
  have h1 : runK g types damp (i + 1) = ([], z) := by
    rw [runK_next h, hs]
    have := stepP_bad (g := g) (types := types) (damp := damp) (l := L) (by rw [hs]; exact hz)
    rw [hs] at this; rw [show M = [] from this]
  have := runK_stay h1 hz (k.toNat - (i + 1))
  rwa [show i + 1 + (k.toNat - (i + 1)) = k.toNat by omega] at this
end
set_option maxRecDepth 100000 in
set_option maxHeartbeats 3200000 in
theorem rk_Step (g : GraphG) (types : List ByteArray) (damp : Fr) (l : List Sh) (ok ok' ok2 : Nat → Prop) (A B T S' : Option Addr) (c d e f : Nat) (w : World) (hzw : ZeroAt w) (hg : GraphAt w ok A B g) (ht : Strs w ok' T types) (hl : Shares w ok2 S' l) :
    Calls Tryd.prog 20 #[.agg #[.slice A g.nodes.length c, .slice B g.edges.length d, .int .i64 g.nn, .int .i64 g.ne], .slice T types.length e, .agg #[.int .i64 damp.1, .int .i64 damp.2], .slice S' l.length f] w (ShErr (stepP g types damp l) w) := by
  have hm := hl.len
  obtain ⟨q, w2, hq, hw2, g0, g1, g2, g3, d0, d1, hx2⟩ := box_gf w A B c d g damp 34 25
  have HW := Lib.hid hw2
  have HG := Lib.hid hq
  have HCH := Lib.hid (fun W (e' : Ext w2 W) => gr_Check g ok A B c d W (hg.ext (hx2.trans e')))
  have HDA := Lib.hid (fun W => rk_damping damp.1 damp.2 W)
  have HFI := Lib.hid (fun W (e' : Ext w2 W) => rk_fits g l ok ok2 A B S' c d f W (hg.nodes.ext (hx2.trans e')) (hl.ext (hx2.trans e')))
  have HST := Lib.hid (fun h0 h1 h2 W (e' : Ext w2 W) => rk_step g types damp l ok ok' ok2 A B T S' c d e f W (hzw.ext (hx2.trans e')) (hg.ext (hx2.trans e')) (ht.ext (hx2.trans e')) (hl.ext (hx2.trans e')) h0 h1 h2)
  clear hw2 hq ht hl
  by_cases h0 : chkG g = 0
  · rw [h0] at HCH
    by_cases h1 : (dampB damp && fitsB g l) = true
    · have h1' := h1
      rw [Bool.and_eq_true] at h1'
      have HS2 := Lib.hid (HST.out h0 h1'.1 h1'.2)
      rw [show dampB (damp.1, damp.2) = true from h1'.1] at HDA
      rw [h1'.2] at HFI
      by_cases h2 : l.length = 0
      · rw [stepP_nil h0 h1 h2]
        have hz2 : ((l.length : Int) == 0) = true := by rw [h2]; rfl
        clear h0 h1 h2 h1' hg HS2 HST
        go_enter Tryd.func20, Tryd.ntmps20
        go_upto_region 1 with (fail)
        rw [← HW.out, ← HG.out]
        clear HW HG
        go_wp2_with (first | (go_at_call 34; ((with_reducible refine (HCH.out _ (by with_reducible repeat (first | exact Ext.refl _ | assumption | refine Ext.drew ?_ | refine Ext.drewN ?_ _ | refine Ext.alloc ?_ _))).mono ?_); rintro e v1 ⟨rfl, hv1⟩; have k0 := hv1.cell g0; have k1 := hv1.cell g1; have k2 := hv1.cell g2; have k3 := hv1.cell g3; have p0 := hv1.cell d0; have p1 := hv1.cell d1)) | (go_at_call 35; ((with_reducible refine (HDA.out _).mono ?_); rintro e v2 ⟨rfl, hv2⟩; replace k0 := hv2.cell k0; replace k1 := hv2.cell k1; replace k2 := hv2.cell k2; replace k3 := hv2.cell k3; replace p0 := hv2.cell p0; replace p1 := hv2.cell p1)) | (go_at_call 44; ((with_reducible refine (HFI.out _ (hv1.trans hv2)).mono ?_); rintro e v3 ⟨rfl, hv3⟩; replace k0 := hv3.cell k0; replace k1 := hv3.cell k1; replace k2 := hv3.cell k2; replace k3 := hv3.cell k3; replace p0 := hv3.cell p0; replace p1 := hv3.cell p1)))
        go_ret2
        exact shErr_nil _ _ _ (hx2.trans (hv1.trans (hv2.trans hv3)))
      · have HT := Lib.hid (fun (O : List Sh) ov => stepP_tells (types := types) (O := O) (ov := ov) h0 h1 h2)
        have hz2 : ((l.length : Int) == 0) = false := beq_eq_false_iff_ne.2 (by omega)
        clear h0 h1 h2 h1' hg HST
        go_enter Tryd.func20, Tryd.ntmps20
        go_upto_region 1 with (fail)
        rw [← HW.out, ← HG.out]
        clear HW HG
        go_upto_region 9 with (first | (go_at_call 34; ((with_reducible refine (HCH.out _ (by with_reducible repeat (first | exact Ext.refl _ | assumption | refine Ext.drew ?_ | refine Ext.drewN ?_ _ | refine Ext.alloc ?_ _))).mono ?_); rintro e v1 ⟨rfl, hv1⟩; have k0 := hv1.cell g0; have k1 := hv1.cell g1; have k2 := hv1.cell g2; have k3 := hv1.cell g3; have p0 := hv1.cell d0; have p1 := hv1.cell d1)) | (go_at_call 35; ((with_reducible refine (HDA.out _).mono ?_); rintro e v2 ⟨rfl, hv2⟩; replace k0 := hv2.cell k0; replace k1 := hv2.cell k1; replace k2 := hv2.cell k2; replace k3 := hv2.cell k3; replace p0 := hv2.cell p0; replace p1 := hv2.cell p1)) | (go_at_call 44; ((with_reducible refine (HFI.out _ (hv1.trans hv2)).mono ?_); rintro e v3 ⟨rfl, hv3⟩; replace k0 := hv3.cell k0; replace k1 := hv3.cell k1; replace k2 := hv3.cell k2; replace k3 := hv3.cell k3; replace p0 := hv3.cell p0; replace p1 := hv3.cell p1)) | (go_at_call 45; ((with_reducible refine (HS2.out _ (hv1.trans (hv2.trans hv3))).mono ?_); rintro e v4 ⟨O, A9, c9, ov, rfl, h9, hS9, hT, hv4⟩; skip)))
        have HT2 := Lib.hid (HT.out O ov hT)
        have HS9 := Lib.hid hS9
        have hE := hx2.trans (hv1.trans (hv2.trans hv3))
        have HLE := Lib.hid hE.le
        clear hT HT hS9 hv1 hv2 hv3
        cases ov
        · go_wp2_with fail
          go_ret2
          rw [HT2.out]
          exact ⟨⟨A9, c9, rfl, h9, HS9.out.keep (fun _ _ _ hb hc => ⟨hc, Nat.le_trans HLE.out hb⟩)⟩, hE.trans hv4⟩
        · go_wp2_with fail
          go_ret2
          rw [HT2.out]
          exact shErr_nil _ _ _ (hE.trans hv4)
    · have h1' : (dampB damp && fitsB g l) = false := by cases hh : (dampB damp && fitsB g l) <;> simp_all
      rw [stepP_arg h0 h1']
      clear h0 h1 hg HST
      cases hd : dampB damp
      · rw [show dampB (damp.1, damp.2) = false from hd] at HDA
        clear h1' hd
        go_enter Tryd.func20, Tryd.ntmps20
        go_upto_region 1 with (fail)
        rw [← HW.out, ← HG.out]
        clear HW HG
        go_wp2_with (first | (go_at_call 34; ((with_reducible refine (HCH.out _ (by with_reducible repeat (first | exact Ext.refl _ | assumption | refine Ext.drew ?_ | refine Ext.drewN ?_ _ | refine Ext.alloc ?_ _))).mono ?_); rintro e v1 ⟨rfl, hv1⟩; have k0 := hv1.cell g0; have k1 := hv1.cell g1; have k2 := hv1.cell g2; have k3 := hv1.cell g3; have p0 := hv1.cell d0; have p1 := hv1.cell d1)) | (go_at_call 35; ((with_reducible refine (HDA.out _).mono ?_); rintro e v2 ⟨rfl, hv2⟩; replace k0 := hv2.cell k0; replace k1 := hv2.cell k1; replace k2 := hv2.cell k2; replace k3 := hv2.cell k3; replace p0 := hv2.cell p0; replace p1 := hv2.cell p1)) | (go_at_call 44; ((with_reducible refine (HFI.out _ (hv1.trans hv2)).mono ?_); rintro e v3 ⟨rfl, hv3⟩; replace k0 := hv3.cell k0; replace k1 := hv3.cell k1; replace k2 := hv3.cell k2; replace k3 := hv3.cell k3; replace p0 := hv3.cell p0; replace p1 := hv3.cell p1)))
        go_ret2
        exact shErr_nil _ _ _ (hx2.trans (hv1.trans hv2))
      · rw [show dampB (damp.1, damp.2) = true from hd] at HDA
        rw [hd, Bool.true_and] at h1'
        rw [h1'] at HFI
        clear h1' hd
        go_enter Tryd.func20, Tryd.ntmps20
        go_upto_region 1 with (fail)
        rw [← HW.out, ← HG.out]
        clear HW HG
        go_wp2_with (first | (go_at_call 34; ((with_reducible refine (HCH.out _ (by with_reducible repeat (first | exact Ext.refl _ | assumption | refine Ext.drew ?_ | refine Ext.drewN ?_ _ | refine Ext.alloc ?_ _))).mono ?_); rintro e v1 ⟨rfl, hv1⟩; have k0 := hv1.cell g0; have k1 := hv1.cell g1; have k2 := hv1.cell g2; have k3 := hv1.cell g3; have p0 := hv1.cell d0; have p1 := hv1.cell d1)) | (go_at_call 35; ((with_reducible refine (HDA.out _).mono ?_); rintro e v2 ⟨rfl, hv2⟩; replace k0 := hv2.cell k0; replace k1 := hv2.cell k1; replace k2 := hv2.cell k2; replace k3 := hv2.cell k3; replace p0 := hv2.cell p0; replace p1 := hv2.cell p1)) | (go_at_call 44; ((with_reducible refine (HFI.out _ (hv1.trans hv2)).mono ?_); rintro e v3 ⟨rfl, hv3⟩; replace k0 := hv3.cell k0; replace k1 := hv3.cell k1; replace k2 := hv3.cell k2; replace k3 := hv3.cell k3; replace p0 := hv3.cell p0; replace p1 := hv3.cell p1)))
        go_ret2
        exact shErr_nil _ _ _ (hx2.trans (hv1.trans (hv2.trans hv3)))
  · rw [stepP_err h0]
    have hz2 : (chkG g != 0) = true := bne_iff_ne.2 h0
    generalize chkG g = z at *
    clear h0 hg HST
    go_enter Tryd.func20, Tryd.ntmps20
    go_upto_region 1 with (fail)
    rw [← HW.out, ← HG.out]
    clear HW HG
    go_wp2_with (first | (go_at_call 34; ((with_reducible refine (HCH.out _ (by with_reducible repeat (first | exact Ext.refl _ | assumption | refine Ext.drew ?_ | refine Ext.drewN ?_ _ | refine Ext.alloc ?_ _))).mono ?_); rintro e v1 ⟨rfl, hv1⟩; have k0 := hv1.cell g0; have k1 := hv1.cell g1; have k2 := hv1.cell g2; have k3 := hv1.cell g3; have p0 := hv1.cell d0; have p1 := hv1.cell d1)) | (go_at_call 35; ((with_reducible refine (HDA.out _).mono ?_); rintro e v2 ⟨rfl, hv2⟩; replace k0 := hv2.cell k0; replace k1 := hv2.cell k1; replace k2 := hv2.cell k2; replace k3 := hv2.cell k3; replace p0 := hv2.cell p0; replace p1 := hv2.cell p1)) | (go_at_call 44; ((with_reducible refine (HFI.out _ (hv1.trans hv2)).mono ?_); rintro e v3 ⟨rfl, hv3⟩; replace k0 := hv3.cell k0; replace k1 := hv3.cell k1; replace k2 := hv3.cell k2; replace k3 := hv3.cell k3; replace p0 := hv3.cell p0; replace p1 := hv3.cell p1)))
    go_ret2
    exact shErr_nil _ _ _ (hx2.trans hv1)
set_option maxRecDepth 100000 in
set_option maxHeartbeats 3200000 in
theorem rk_Run (g : GraphG) (types : List ByteArray) (damp : Fr) (k : Int) (ok ok' : Nat → Prop) (A B T : Option Addr) (c d e : Nat) (w : World) (hzw : ZeroAt w) (hg : GraphAt w ok A B g) (ht : Strs w ok' T types) :
    Calls Tryd.prog 13 #[.agg #[.slice A g.nodes.length c, .slice B g.edges.length d, .int .i64 g.nn, .int .i64 g.ne], .slice T types.length e, .agg #[.int .i64 damp.1, .int .i64 damp.2], .int .i64 k] w (ShErr (runP g types damp k) w) := by
  obtain ⟨q, w2, hq, hw2, g0, g1, g2, g3, d0, d1, hx2⟩ := box_gf w A B c d g damp 34 25
  have HW := Lib.hid hw2
  have HG := Lib.hid hq
  have HCH := Lib.hid (fun W (e' : Ext w2 W) => gr_Check g ok A B c d W (hg.ext (hx2.trans e')))
  have HDA := Lib.hid (fun W => rk_damping damp.1 damp.2 W)
  have HSA := Lib.hid (fun W (e' : Ext w2 W) => rk_Start g ok A B c d W (hg.ext (hx2.trans e')))
  have HST := Lib.hid (fun l ok2 S' f W (e' : Ext w2 W) (hl : Shares W ok2 S' l) => rk_Step g types damp l ok ok' ok2 A B T S' c d e f W (hzw.ext (hx2.trans e')) (hg.ext (hx2.trans e')) (ht.ext (hx2.trans e')) hl)
  clear hw2 hq ht
  by_cases h0 : chkG g = 0
  · rw [h0] at HCH
    by_cases h1 : 0 ≤ k
    · have hk0 : decide (k < 0) = false := decide_eq_false (by omega)
      by_cases h2 : k ≤ 8
      · have hk1 : decide (8 < k) = false := decide_eq_false (by omega)
        cases hd : dampB damp
        · rw [runP_arg h0 (by rw [hd, Bool.and_false])]
          rw [show dampB (damp.1, damp.2) = false from hd] at HDA
          clear h0 hg hd HSA HST
          go_enter Tryd.func13, Tryd.ntmps13
          go_upto_region 1 with (fail)
          rw [← HW.out, ← HG.out]
          clear HW HG
          go_wp2_with (first | (go_at_call 34; ((with_reducible refine (HCH.out _ (by with_reducible repeat (first | exact Ext.refl _ | assumption | refine Ext.drew ?_ | refine Ext.drewN ?_ _ | refine Ext.alloc ?_ _))).mono ?_); rintro e v1 ⟨rfl, hv1⟩; have k0 := hv1.cell g0; have k1 := hv1.cell g1; have k2 := hv1.cell g2; have k3 := hv1.cell g3; have p0 := hv1.cell d0; have p1 := hv1.cell d1)) | (go_at_call 35; ((with_reducible refine (HDA.out _).mono ?_); rintro e v2 ⟨rfl, hv2⟩; replace k0 := hv2.cell k0; replace k1 := hv2.cell k1; replace k2 := hv2.cell k2; replace k3 := hv2.cell k3; replace p0 := hv2.cell p0; replace p1 := hv2.cell p1)))
          go_ret2
          exact shErr_nil _ _ _ (hx2.trans (hv1.trans hv2))
        · rw [runP_on h0 h1 h2 hd]
          rw [show dampB (damp.1, damp.2) = true from hd] at HDA
          have HRZ := Lib.hid (show runK g types damp 0 = (startR g, 0) from rfl)
          have HNX := Lib.hid (fun i L => runK_next (g := g) (types := types) (damp := damp) (i := i) (L := L))
          have HBD := Lib.hid (fun i L z M => runK_bad (g := g) (types := types) (damp := damp) (k := k) (i := i) (L := L) (z := z) (M := M))
          have HRK := Lib.hid (show runK g types damp k.toNat = runK g types damp k.toNat from rfl)
          clear h0 hg hd
          generalize startR g = s0 at *
          go_enter Tryd.func13, Tryd.ntmps13
          go_upto_region 1 with (fail)
          rw [← HW.out, ← HG.out]
          clear HW HG
          go_upto_region 7 with (first | (go_at_call 34; ((with_reducible refine (HCH.out _ (by with_reducible repeat (first | exact Ext.refl _ | assumption | refine Ext.drew ?_ | refine Ext.drewN ?_ _ | refine Ext.alloc ?_ _))).mono ?_); rintro e v1 ⟨rfl, hv1⟩; have k0 := hv1.cell g0; have k1 := hv1.cell g1; have k2 := hv1.cell g2; have k3 := hv1.cell g3; have p0 := hv1.cell d0; have p1 := hv1.cell d1)) | (go_at_call 35; ((with_reducible refine (HDA.out _).mono ?_); rintro e v2 ⟨rfl, hv2⟩; replace k0 := hv2.cell k0; replace k1 := hv2.cell k1; replace k2 := hv2.cell k2; replace k3 := hv2.cell k3; replace p0 := hv2.cell p0; replace p1 := hv2.cell p1)) | (go_at_call 19; ((with_reducible refine (HSA.out _ (hv1.trans hv2)).mono ?_); rintro e v3 ⟨A3, c3, rfl, hc3, hS3, hv3⟩; replace k0 := hv3.cell k0; replace k1 := hv3.cell k1; replace k2 := hv3.cell k2; replace k3 := hv3.cell k3; replace p0 := hv3.cell p0; replace p1 := hv3.cell p1)))
          have hE := hv1.trans (hv2.trans hv3)
          have HLE := Lib.hid (show w.heap.size ≤ v2.heap.size from (hx2.trans (hv1.trans hv2)).le)
          have HS3 := Lib.hid (hS3.keep (ok' := fun b => w.heap.size ≤ b) (fun _ _ _ hb hc => ⟨hc, Nat.le_trans HLE.out hb⟩))
          clear hv1 hv2 hv3 HSA HCH HDA hS3 HLE hk0 hk1
          go_wp2_with fail
          go_loopw [11, 33] (fun v u W => ∃ (i : Nat) (M0 : List Sh) (A4 : Option Addr) (c4 : Nat), u = .int .i64 i ∧ (i : Int) ≤ k ∧ v = .slice A4 M0.length c4 ∧ M0.length ≤ c4 ∧ Hid (runK g types damp i = (M0, 0)) ∧ Hid (Shares W (fun b => w.heap.size ≤ b) A4 M0) ∧ Ext w2 W) (fun _ u _ => k.toNat - (intOf u).toNat)
          case atStart => exact ⟨0, s0, A3, c3, rfl, h1, rfl, hc3, HRZ, Lib.hid (HS3.out.ext (by with_reducible repeat (first | exact Ext.refl _ | assumption | refine Ext.drew ?_ | refine Ext.drewN ?_ _ | refine Ext.alloc ?_ _))), hE.trans (by with_reducible repeat (first | exact Ext.refl _ | assumption | refine Ext.drew ?_ | refine Ext.drewN ?_ _ | refine Ext.alloc ?_ _))⟩
          case round =>
            clear HRZ HS3
            obtain ⟨i, M0, A4, c4, rfl, hi, rfl, hc4, hR, hS, hEr⟩ := hrel
            replace k0 := hEr.cell g0
            replace k1 := hEr.cell g1
            replace k2 := hEr.cell g2
            replace k3 := hEr.cell g3
            replace p0 := hEr.cell d0
            replace p1 := hEr.cell d1
            have HLE := Lib.hid (show w.heap.size ≤ wr.heap.size from (hx2.trans hEr).le)
            by_cases hlt : (i : Int) < k
            · have HN2 := Lib.hid (HNX.out i M0 hR.out)
              have HB2 := Lib.hid (fun z M => HBD.out i M0 z M hR.out)
              have HSM := Lib.hid (HST.out M0 (fun b => w.heap.size ≤ b) A4 c4 wr hEr hS.out)
              generalize hP : stepP g types damp M0 = P at *
              have HP := Lib.hid hP
              clear hP
              obtain ⟨M1, z⟩ := P
              have HSP := Lib.hid (HSM.out.mono (fun _ _ h => shErr_parts h))
              by_cases hz : z = 0
              · subst hz
                go_wp2_with ((go_at_call 20; ((with_reducible refine (HSP.out).mono ?_); rintro e v5 ⟨⟨A5, c5, rfl, hc5, hS5⟩, hv5⟩; replace k0 := hv5.cell k0; replace k1 := hv5.cell k1; replace k2 := hv5.cell k2; replace k3 := hv5.cell k3; replace p0 := hv5.cell p0; replace p1 := hv5.cell p1)))
                have HS5 := Lib.hid (hS5.keep (ok' := fun b => w.heap.size ≤ b) (fun _ _ _ hb hc => ⟨hc, Nat.le_trans HLE.out hb⟩))
                clear hS5 HB2 HBD
                go_roundw
                case rel => exact ⟨i + 1, M1, A5, c5, by go_num, by omega, rfl, hc5, HN2, HS5, hEr.trans hv5⟩
                case measure => simp [intOf]; omega
              · have HT := Lib.hid (HB2.out z M1 rfl hz (by omega))
                have hz2 : (z != 0) = true := bne_iff_ne.2 hz
                clear hz HB2 HN2 HBD
                go_wp2_with ((go_at_call 20; ((with_reducible refine (HSP.out).mono ?_); rintro e v5 ⟨⟨A5, c5, rfl, hc5, hS5⟩, hv5⟩; replace k0 := hv5.cell k0; replace k1 := hv5.cell k1; replace k2 := hv5.cell k2; replace k3 := hv5.cell k3; replace p0 := hv5.cell p0; replace p1 := hv5.cell p1)))
                go_ret2
                rw [HT.out]
                exact shErr_nil _ _ _ (hx2.trans (hEr.trans hv5))
            · have HT := Lib.hid (show runK g types damp k.toNat = (M0, 0) by rw [show k.toNat = i by omega]; exact hR.out)
              go_wp2_with fail
              go_ret2
              rw [HT.out]
              exact ⟨⟨A4, c4, rfl, hc4, hS.out⟩, hx2.trans hEr⟩
      · rw [runP_arg h0 (by simp; omega)]
        have hk1 : decide (8 < k) = true := decide_eq_true (by omega)
        clear h0 hg HSA HST
        go_enter Tryd.func13, Tryd.ntmps13
        go_upto_region 1 with (fail)
        rw [← HW.out, ← HG.out]
        clear HW HG
        go_wp2_with (first | (go_at_call 34; ((with_reducible refine (HCH.out _ (by with_reducible repeat (first | exact Ext.refl _ | assumption | refine Ext.drew ?_ | refine Ext.drewN ?_ _ | refine Ext.alloc ?_ _))).mono ?_); rintro e v1 ⟨rfl, hv1⟩; have k0 := hv1.cell g0; have k1 := hv1.cell g1; have k2 := hv1.cell g2; have k3 := hv1.cell g3; have p0 := hv1.cell d0; have p1 := hv1.cell d1)) | (go_at_call 35; ((with_reducible refine (HDA.out _).mono ?_); rintro e v2 ⟨rfl, hv2⟩; replace k0 := hv2.cell k0; replace k1 := hv2.cell k1; replace k2 := hv2.cell k2; replace k3 := hv2.cell k3; replace p0 := hv2.cell p0; replace p1 := hv2.cell p1)))
        go_ret2
        exact shErr_nil _ _ _ (hx2.trans hv1)
    · rw [runP_arg h0 (by simp; omega)]
      have hk0 : decide (k < 0) = true := decide_eq_true (by omega)
      clear h0 hg HSA HST
      go_enter Tryd.func13, Tryd.ntmps13
      go_upto_region 1 with (fail)
      rw [← HW.out, ← HG.out]
      clear HW HG
      go_wp2_with (first | (go_at_call 34; ((with_reducible refine (HCH.out _ (by with_reducible repeat (first | exact Ext.refl _ | assumption | refine Ext.drew ?_ | refine Ext.drewN ?_ _ | refine Ext.alloc ?_ _))).mono ?_); rintro e v1 ⟨rfl, hv1⟩; have k0 := hv1.cell g0; have k1 := hv1.cell g1; have k2 := hv1.cell g2; have k3 := hv1.cell g3; have p0 := hv1.cell d0; have p1 := hv1.cell d1)) | (go_at_call 35; ((with_reducible refine (HDA.out _).mono ?_); rintro e v2 ⟨rfl, hv2⟩; replace k0 := hv2.cell k0; replace k1 := hv2.cell k1; replace k2 := hv2.cell k2; replace k3 := hv2.cell k3; replace p0 := hv2.cell p0; replace p1 := hv2.cell p1)))
      go_ret2
      exact shErr_nil _ _ _ (hx2.trans hv1)
  · rw [runP_err h0]
    have hz2 : (chkG g != 0) = true := bne_iff_ne.2 h0
    generalize chkG g = z at *
    clear h0 hg HSA HST
    go_enter Tryd.func13, Tryd.ntmps13
    go_upto_region 1 with (fail)
    rw [← HW.out, ← HG.out]
    clear HW HG
    go_wp2_with (first | (go_at_call 34; ((with_reducible refine (HCH.out _ (by with_reducible repeat (first | exact Ext.refl _ | assumption | refine Ext.drew ?_ | refine Ext.drewN ?_ _ | refine Ext.alloc ?_ _))).mono ?_); rintro e v1 ⟨rfl, hv1⟩; have k0 := hv1.cell g0; have k1 := hv1.cell g1; have k2 := hv1.cell g2; have k3 := hv1.cell g3; have p0 := hv1.cell d0; have p1 := hv1.cell d1)) | (go_at_call 35; ((with_reducible refine (HDA.out _).mono ?_); rintro e v2 ⟨rfl, hv2⟩; replace k0 := hv2.cell k0; replace k1 := hv2.cell k1; replace k2 := hv2.cell k2; replace k3 := hv2.cell k3; replace p0 := hv2.cell p0; replace p1 := hv2.cell p1)))
    go_ret2
    exact shErr_nil _ _ _ (hx2.trans hv1)
end Go.Proofs.YtlkpmbkmmfoakaaDoor

/- PLAIN: MERGING IN PLACE, as slices.SortStableFunc does it: what its parts make of a row. No program in sight. -/
namespace Go.Proofs.YtlkpmbkmmfoakaaDoor
open Go.Sort
variable {α : Type} [Inhabited α] {lt : α → α → Bool}
/-- nothing of [m, b) is less than anything of [a, m) -/
def Cross (lt : α → α → Bool) (a m b : Nat) (d : Array α) : Prop := ∀ i j, a ≤ i → i < m → m ≤ j → j < b → lt d[j]! d[i]! = false
theorem srt_sub {a b a' b' : Nat} {d : Array α} (h : SortedIn lt a b d) (ha : a ≤ a') (hb : b' ≤ b) : SortedIn lt a' b' d := fun i j h1 h2 h3 => h i j (by omega) h2 (by omega)
theorem srt_kept {a b lo hi : Nat} {d e : Array α} (h : SortedIn lt a b d) (hp : PermIn lo hi d e) (ho : b ≤ lo ∨ hi ≤ a) : SortedIn lt a b e := fun i j h1 h2 h3 => by
  rw [hp.2.1 i (by omega), hp.2.1 j (by omega)]; exact h i j h1 h2 h3
theorem Cross.left {a m b : Nat} {d e : Array α} (hm : m ≤ d.size) (h : Cross lt a m b d) (hp : PermIn a m d e) : Cross lt a m b e := fun i j h1 h2 h3 h4 => by
  rw [hp.2.1 j (by omega)]
  exact permIn_all d e a m (fun u => lt d[j]! u = false) hm hp (fun i h1 h2 => h i j h1 h2 h3 h4) i h1 h2
theorem Cross.right {a m b : Nat} {d e : Array α} (hb : b ≤ d.size) (h : Cross lt a m b d) (hp : PermIn m b d e) : Cross lt a m b e := fun i j h1 h2 h3 h4 => by
  rw [hp.2.1 i (by omega)]
  exact permIn_all d e m b (fun u => lt u d[i]! = false) hb hp (fun j h3 h4 => h i j h1 h2 h3 h4) j h3 h4
/-- BLOCKS: runs of bs elements each rise -/
def Blocks (lt : α → α → Bool) (bs n : Nat) (d : Array α) : Prop := ∀ q, SortedIn lt (q * bs) (min (q * bs + bs) n) d
/-- behind some rounds of a level: runs of 2 bs up to a, runs of bs from there -/
structure Level (lt : α → α → Bool) (bs n a : Nat) (d : Array α) : Prop where
  two : ∀ q, q * (2 * bs) + 2 * bs ≤ a → SortedIn lt (q * (2 * bs)) (q * (2 * bs) + 2 * bs) d
  one : ∀ q, a ≤ q * bs → SortedIn lt (q * bs) (min (q * bs + bs) n) d
theorem Level.start {bs n : Nat} {d : Array α} (hb : 0 < bs) (h : Blocks lt bs n d) : Level lt bs n 0 d := ⟨fun q hq => by omega, fun q _ => h q⟩
theorem Level.step {bs n q : Nat} {d e : Array α} (hb : 0 < bs) (h : Level lt bs n (q * (2 * bs)) d) (hn : q * (2 * bs) + 2 * bs ≤ n) (hp : PermIn (q * (2 * bs)) (q * (2 * bs) + 2 * bs) d e) (hs : SortedIn lt (q * (2 * bs)) (q * (2 * bs) + 2 * bs) e) :
    Level lt bs n ((q + 1) * (2 * bs)) e := by
  have e1 : (q + 1) * (2 * bs) = q * (2 * bs) + 2 * bs := by rw [Nat.add_mul, Nat.one_mul]
  rw [e1]
  refine ⟨fun p hpq => ?_, fun p hpq => ?_⟩
  · rcases Nat.lt_trichotomy p q with h1 | h1 | h1
    · have h2 : (p + 1) * (2 * bs) ≤ q * (2 * bs) := Nat.mul_le_mul_right _ h1
      rw [Nat.add_mul, Nat.one_mul] at h2
      exact srt_kept (h.two p h2) hp (.inl h2)
    · subst h1; exact hs
    · have h2 : (q + 1) * (2 * bs) ≤ p * (2 * bs) := Nat.mul_le_mul_right _ h1
      omega
  · exact srt_kept (h.one p (by omega)) hp (.inr hpq)
/-- the last round of a level -/
theorem Level.last {bs n q : Nat} {d e : Array α} (h : Level lt bs n (q * (2 * bs)) d) (hn : n < q * (2 * bs) + 2 * bs) (ha : q * (2 * bs) ≤ n) (hp : PermIn (q * (2 * bs)) n d e) (hs : SortedIn lt (q * (2 * bs)) n e) : Blocks lt (bs * 2) n e := by
  intro p
  rw [Nat.mul_comm bs 2]
  rcases Nat.lt_trichotomy p q with h1 | h1 | h1
  · have h2 : (p + 1) * (2 * bs) ≤ q * (2 * bs) := Nat.mul_le_mul_right _ h1
    rw [Nat.add_mul, Nat.one_mul] at h2
    exact srt_sub (srt_kept (h.two p h2) hp (.inl h2)) (Nat.le_refl _) (by omega)
  · subst h1; exact srt_sub hs (Nat.le_refl _) (by omega)
  · have h2 : (q + 1) * (2 * bs) ≤ p * (2 * bs) := Nat.mul_le_mul_right _ h1
    rw [Nat.add_mul, Nat.one_mul] at h2
    intro i j hi hij hj
    omega
theorem Level.runs {bs n q : Nat} {d : Array α} (h : Level lt bs n (q * (2 * bs)) d) : SortedIn lt (q * (2 * bs)) (min (q * (2 * bs) + bs) n) d ∧ SortedIn lt (q * (2 * bs) + bs) (min (q * (2 * bs) + bs + bs) n) d := by
  have e1 : 2 * q * bs = q * (2 * bs) := by rw [Nat.mul_comm 2 q, Nat.mul_assoc]
  have e2 : (2 * q + 1) * bs = q * (2 * bs) + bs := by rw [Nat.add_mul, Nat.one_mul, e1]
  have h1 := h.one (2 * q) (by omega)
  have h2 := h.one (2 * q + 1) (by omega)
  rw [e1] at h1
  rw [e2] at h2
  exact ⟨h1, h2⟩
theorem Blocks.done {bs n : Nat} {d : Array α} (h : Blocks lt bs n d) (hn : n ≤ bs) : SortedIn lt 0 n d := by
  have := h 0
  rw [Nat.zero_mul] at this
  exact srt_sub this (Nat.le_refl _) (by omega)
/-- THE FIRST LEVEL: blocks sorted by insertion -/
def First (lt : α → α → Bool) (bs a : Nat) (d : Array α) : Prop := ∀ q, q * bs + bs ≤ a → SortedIn lt (q * bs) (q * bs + bs) d
theorem First.step {bs q : Nat} {d e : Array α} (h : First lt bs (q * bs) d) (hp : PermIn (q * bs) (q * bs + bs) d e) (hs : SortedIn lt (q * bs) (q * bs + bs) e) : First lt bs ((q + 1) * bs) e := by
  have e1 : (q + 1) * bs = q * bs + bs := by rw [Nat.add_mul, Nat.one_mul]
  rw [e1]
  intro p hpq
  rcases Nat.lt_trichotomy p q with h1 | h1 | h1
  · have h2 : (p + 1) * bs ≤ q * bs := Nat.mul_le_mul_right _ h1
    rw [Nat.add_mul, Nat.one_mul] at h2
    exact srt_kept (h p h2) hp (.inl h2)
  · subst h1; exact hs
  · have h2 : (q + 1) * bs ≤ p * bs := Nat.mul_le_mul_right _ h1
    intro i j hi hij hj
    omega
theorem First.last {bs n q : Nat} {d e : Array α} (h : First lt bs (q * bs) d) (hn : n < q * bs + bs) (hp : PermIn (q * bs) n d e) (hs : SortedIn lt (q * bs) n e) : Blocks lt bs n e := by
  intro p
  rcases Nat.lt_trichotomy p q with h1 | h1 | h1
  · have h2 : (p + 1) * bs ≤ q * bs := Nat.mul_le_mul_right _ h1
    rw [Nat.add_mul, Nat.one_mul] at h2
    exact srt_sub (srt_kept (h p h2) hp (.inl h2)) (Nat.le_refl _) (by omega)
  · subst h1; exact srt_sub hs (Nat.le_refl _) (by omega)
  · have h2 : (q + 1) * bs ≤ p * bs := Nat.mul_le_mul_right _ h1
    rw [Nat.add_mul, Nat.one_mul] at h2
    intro i j hi hij hj
    omega
end Go.Proofs.YtlkpmbkmmfoakaaDoor

/- A ROW OF SHARES THAT IS SORTED IN PLACE: the worlds that such a sort passes through. -/
namespace Go.Proofs.YtlkpmbkmmfoakaaDoor
open Go.RowKit Go.Sort
theorem grown_transM {a b c : World} {row : Option Nat} (h : a.grownBy b row) (k : b.grownBy c row) : a.grownBy c row :=
  ⟨k.os.trans h.os, k.tape.trans h.tape, k.output.trans h.output, Nat.le_trans h.size k.size, fun i hi hne => (k.block i (Nat.lt_of_lt_of_le hi h.size) hne).trans (h.block i hi hne)⟩
theorem Ext.grownM {a b : World} (h : Ext a b) (row : Option Nat) : a.grownBy b row := ⟨h.os, h.tape, h.output, h.size, fun k hk _ => h.block k hk⟩
/-- block g holds the shares of d (and spare cells behind them); all other blocks of w0 are as they were -/
structure SortM (w0 : World) (B g cap : Nat) (t : TypeId) (d : Array Sh) (W : World) : Prop where
  gr : w0.grownBy W (some g)
  own : W.ownsRow B t 3 (.slice (some ⟨g, 0, none⟩) d.size cap) d.size (d.toList.flatMap Sh.cells)
theorem flat_set3 (l : List Sh) (j : Nat) (x : Sh) : (((l.flatMap Sh.cells).set (j * 3) (.int .i64 x.id)).set (j * 3 + 1) (.int .i64 x.n)).set (j * 3 + 2) (.int .i64 x.d) = (l.set j x).flatMap Sh.cells := by
  induction l generalizing j with
  | nil => rfl
  | cons y l ih =>
    cases j with
    | zero => rfl
    | succ j =>
      rw [List.flatMap_cons, List.set_cons_succ, List.flatMap_cons, ← ih j]
      simp only [Sh.cells, List.cons_append, List.nil_append, show (j + 1) * 3 = j * 3 + 1 + 1 + 1 by omega, List.set_cons_succ]
theorem flat_at3 (l : List Sh) (j i : Nat) (hj : j < l.length) (hi : i < 3) : (l.flatMap Sh.cells)[j * 3 + i]? = (Sh.cells l[j])[i]? := flat_get Sh.cells 3 (fun _ => rfl) l j i hj hi
section
variable {w0 : World} {B g cap : Nat} {t : TypeId} {d : Array Sh} {W : World}
theorem SortM.start (h : w0.ownsRow B t 3 (.slice (some ⟨g, 0, none⟩) d.size cap) d.size (d.toList.flatMap Sh.cells)) : SortM w0 B g cap t d w0 := ⟨World.grownBy.refl _ _, h⟩
theorem SortM.ext {W' : World} (h : SortM w0 B g cap t d W) (e : Ext W W') : SortM w0 B g cap t d W' := ⟨grown_transM h.gr (e.grownM _), own_ext h.own e⟩
theorem SortM.drew (h : SortM w0 B g cap t d W) : SortM w0 B g cap t d W.drew := h.ext ((Ext.refl _).drew)
theorem SortM.cell (h : SortM w0 B g cap t d W) {j : Nat} (hj : j < d.size) (i : Nat) (hi : i < 3) : W.cell? ⟨g, j * 3 + i, none⟩ = (Sh.cells d[j]!)[i]? := by
  rw [h.own.cellAt (j * 3 + i) (by omega), flat_at3 _ j i (by simpa using hj) hi]
  rw [getElem!_pos d j hj]; rfl
theorem SortM.cells (h : SortM w0 B g cap t d W) {j : Nat} (hj : j < d.size) : W.cell? ⟨g, j * 3, none⟩ = some (.int .i64 d[j]!.id) ∧ W.cell? ⟨g, j * 3 + 1, none⟩ = some (.int .i64 d[j]!.n) ∧ W.cell? ⟨g, j * 3 + 2, none⟩ = some (.int .i64 d[j]!.d) :=
  ⟨h.cell hj 0 (by omega), h.cell hj 1 (by omega), h.cell hj 2 (by omega)⟩
theorem SortM.frozen (h : SortM w0 B g cap t d W) (j : Nat) : W.frozen? ⟨g, j, none⟩ = false := h.own.frozenAt j
theorem SortM.set (h : SortM w0 B g cap t d W) (j : Nat) (x : Sh) : SortM w0 B g cap t (d.setIfInBounds j x) (((W.setCell ⟨g, j * 3, none⟩ (.int .i64 x.id)).setCell ⟨g, j * 3 + 1, none⟩ (.int .i64 x.n)).setCell ⟨g, j * 3 + 2, none⟩ (.int .i64 x.d)) := by
  obtain ⟨h1, k1⟩ := h.own.stored (j * 3) (.int .i64 x.id)
  obtain ⟨h2, k2⟩ := h1.stored (j * 3 + 1) (.int .i64 x.n)
  obtain ⟨h3, k3⟩ := h2.stored (j * 3 + 2) (.int .i64 x.d)
  refine ⟨grown_transM h.gr (grown_transM k1 (grown_transM k2 k3)), ?_⟩
  rw [flat_set3] at h3
  rw [Array.size_setIfInBounds, Array.toList_setIfInBounds]; exact h3
theorem SortM.swap (h : SortM w0 B g cap t d W) (i j : Nat) : SortM w0 B g cap t (swp d i j) ((((((W.setCell ⟨g, i * 3, none⟩ (.int .i64 d[j]!.id)).setCell ⟨g, i * 3 + 1, none⟩ (.int .i64 d[j]!.n)).setCell ⟨g, i * 3 + 2, none⟩ (.int .i64 d[j]!.d)).setCell ⟨g, j * 3, none⟩ (.int .i64 d[i]!.id)).setCell ⟨g, j * 3 + 1, none⟩ (.int .i64 d[i]!.n)).setCell ⟨g, j * 3 + 2, none⟩ (.int .i64 d[i]!.d)) := (h.set i d[j]!).set j d[i]!
/-- what is asked of the order -/
def CmpOkM (P : Program) (f : Nat) (cb : Array Value) (cf : Sh → Sh → Int) (w0 : World) (g : Nat) : Prop :=
  ∀ W, w0.grownBy W (some g) → ∀ x y : Sh, Calls P f (#[.agg #[.int .i64 x.id, .int .i64 x.n, .int .i64 x.d], .agg #[.int .i64 y.id, .int .i64 y.n, .int .i64 y.d]] ++ cb) W fun e W' => e = .returned (.int .i64 (cf x y)) ∧ Ext W W'
def ltM (cf : Sh → Sh → Int) (x y : Sh) : Bool := decide (cf x y < 0)
theorem ltM_t {cf : Sh → Sh → Int} {x y : Sh} (h : cf x y < 0) : ltM cf x y = true := decide_eq_true h
theorem ltM_f {cf : Sh → Sh → Int} {x y : Sh} (h : ¬ cf x y < 0) : ltM cf x y = false := decide_eq_false h
end
end Go.Proofs.YtlkpmbkmmfoakaaDoor

/- THE WALK over slices.insertionSortCmpFunc, at shares. -/
namespace Go.Proofs.YtlkpmbkmmfoakaaDoor
open Go.RowKit Go.Sort
set_option maxRecDepth 100000 in
set_option maxHeartbeats 1600000 in
theorem sm_insert (w0 : World) (B g cap : Nat) (cf : Sh → Sh → Int) (f : Nat) (cb : Array Value) (d : Array Sh) (a b : Nat) (w : World)
    (eg : ∀ args w, (callFunc f args).run Tryd.prog w = .ok (.enter f args) w) (hcmp : CmpOkM Tryd.prog f cb cf w0 g) (hS : SWO (ltM cf)) (hs : SortM w0 B g cap 42 d w) (hab : a ≤ b) (hb : b ≤ d.size) (hsz : d.size ≤ 8000000) :
    Calls Tryd.prog 80 #[.slice (some ⟨g, 0, none⟩) d.size cap, .int .i64 a, .int .i64 b, .func (.func f) #[] cb] w fun e w' => e = .returned (.tuple #[]) ∧ ∃ d', SortM w0 B g cap 42 d' w' ∧ PermIn a b d d' ∧ SortedIn (ltM cf) a b d' := by
  have HS := Lib.hid hs
  have HC := Lib.hid hcmp
  have HW := Lib.hid hS
  clear hs hcmp hS
  go_enter Tryd.func80, Tryd.ntmps80
  go_wp2
  go_loopw [8] (fun u W => ∃ (i : Nat) (e : Array Sh), u = .int .i64 i ∧ a < i ∧ Hid (i ≤ b ∨ i = a + 1) ∧ Hid (SortM w0 B g cap 42 e W) ∧ Hid (SortedIn (ltM cf) a i e) ∧ Hid (PermIn a b d e)) (fun u _ => b + 1 - (intOf u).toNat)
  case atStart => exact ⟨a + 1, d, by go_num, by omega, Lib.hid (.inr rfl), HS, Lib.hid (fun p q h1 h2 h3 => by omega), Lib.hid (permIn_refl _ _ _)⟩
  case round =>
    obtain ⟨i, e, rfl, hai, hib, he, hso, hp⟩ := hrel
    by_cases hlt : i < b
    · go_wp2_with fail
      go_loopw [9] (fun u W => ∃ (j : Nat) (e : Array Sh), u = .int .i64 j ∧ a ≤ j ∧ j ≤ i ∧ Hid (SortM w0 B g cap 42 e W) ∧ Hid (Ins (ltM cf) a j i e) ∧ Hid (PermIn a b d e)) (fun u _ => (intOf u).toNat)
      case atStart => exact ⟨i, e, rfl, by omega, Nat.le_refl _, he, Lib.hid ⟨fun p q hap hpq hqi _ hq => hso.out p q hap hpq (by omega), fun q h1 h2 => by omega⟩, hp⟩
      case round =>
        clear he hso hp hib
        obtain ⟨j, e, rfl, haj, hji, he, hin, hp⟩ := hrel
        have hes := hp.out.1
        by_cases hja : a < j
        · obtain ⟨jp, rfl⟩ : ∃ jp, j = jp + 1 := ⟨j - 1, by omega⟩
          obtain ⟨c10, c11, c12⟩ := he.out.cells (show jp + 1 < e.size by omega)
          obtain ⟨c20, c21, c22⟩ := he.out.cells (show jp < e.size by omega)
          have HN := Lib.hid (fun V (h : Ext wr V) => ((he.out.ext h).swap (jp + 1) jp).drew)
          have HX := Lib.hid (fun V (h : Ext wr V) => he.out.ext h)
          have HQ := Lib.hid (fun V (h : Ext wr V) => HC.out V (he.out.ext h).gr e[jp + 1]! e[jp]!)
          have HG := Lib.hid (fun (h : cf e[jp + 1]! e[jp]! < 0) => hin.out.step (ltM_t h) (by omega) (by omega))
          have HE := Lib.hid (fun (h : ¬ cf e[jp + 1]! e[jp]! < 0) => hin.out.stop HW.out (.inr (ltM_f h)))
          have HP := Lib.hid (permIn_trans _ _ _ a b hp.out (swp_permIn e a b (jp + 1) jp (by omega) (by omega) (by omega) (by omega) (by omega)))
          generalize cf e[jp + 1]! e[jp]! = z at *
          generalize e[jp + 1]! = x1 at *
          generalize e[jp]! = x2 at *
          have MK := Lib.hid (fun V (e : Ext wr V) => (⟨e.cell c10, e.cell c11, e.cell c12, e.cell c20, e.cell c21, e.cell c22, e⟩ : V.cell? ⟨g, (jp + 1) * 3, none⟩ = some (.int .i64 x1.id) ∧ V.cell? ⟨g, (jp + 1) * 3 + 1, none⟩ = some (.int .i64 x1.n) ∧ V.cell? ⟨g, (jp + 1) * 3 + 2, none⟩ = some (.int .i64 x1.d) ∧ V.cell? ⟨g, jp * 3, none⟩ = some (.int .i64 x2.id) ∧ V.cell? ⟨g, jp * 3 + 1, none⟩ = some (.int .i64 x2.n) ∧ V.cell? ⟨g, jp * 3 + 2, none⟩ = some (.int .i64 x2.d) ∧ Ext wr V))
          have hwp : IntKind.i64.wrap (jp : Int) = (jp : Int) := by rw [IntKind.wrap_i64]; omega
          have b1 : (jp : Int) + 1 < (d.size : Int) := by omega
          have b2 : (jp : Int) < (d.size : Int) := by omega
          have b3 : (0 : Int) ≤ (jp : Int) + 1 := by omega
          have b4 : ((jp : Int) + 1).toNat = jp + 1 := by omega
          have hjaz' : (a : Int) < (jp : Int) + 1 := by omega
          by_cases hz : z < 0
          · have hg := Lib.hid (HG.out hz)
            clear HG HE c10 c11 c12 c20 c21 c22
            go_wp2_with fail
            go_region_held3 (fun V => V.cell? ⟨g, (jp + 1) * 3, none⟩ = some (.int .i64 x1.id) ∧ V.cell? ⟨g, (jp + 1) * 3 + 1, none⟩ = some (.int .i64 x1.n) ∧ V.cell? ⟨g, (jp + 1) * 3 + 2, none⟩ = some (.int .i64 x1.d) ∧ V.cell? ⟨g, jp * 3, none⟩ = some (.int .i64 x2.id) ∧ V.cell? ⟨g, jp * 3 + 1, none⟩ = some (.int .i64 x2.n) ∧ V.cell? ⟨g, jp * 3 + 2, none⟩ = some (.int .i64 x2.d) ∧ Ext wr V) ((exact MK.out _ (by with_reducible repeat (first | exact Ext.refl _ | assumption | refine Ext.drew ?_ | refine Ext.drewN ?_ _ | refine Ext.alloc ?_ _)))) ((refine (HQ.out _ (by with_reducible repeat (first | exact Ext.refl _ | assumption | refine Ext.drew ?_ | refine Ext.drewN ?_ _ | refine Ext.alloc ?_ _))).mono ?_; rintro e w' ⟨rfl, hb⟩; replace hb : Ext wr w' := Ext.trans (by with_reducible repeat (first | exact Ext.refl _ | assumption | refine Ext.drew ?_ | refine Ext.drewN ?_ _ | refine Ext.alloc ?_ _)) hb))
            rename_i hHeld
            have hN := Lib.hid (HN.out w' hb)
            obtain ⟨g10, g11, g12, g20, g21, g22, -⟩ := hHeld
            have f10 := (HX.out w' hb).frozen ((jp + 1) * 3)
            have f11 := (HX.out w' hb).frozen ((jp + 1) * 3 + 1)
            have f12 := (HX.out w' hb).frozen ((jp + 1) * 3 + 2)
            have f20 := (HX.out w' hb).frozen (jp * 3)
            have f21 := (HX.out w' hb).frozen (jp * 3 + 1)
            have f22 := (HX.out w' hb).frozen (jp * 3 + 2)
            clear HN HX HQ MK
            have MKE := Lib.hid (fun V (e : Ext w' V) => (⟨e.cell g10, e.cell g11, e.cell g12, e.cell g20, e.cell g21, e.cell g22⟩ : V.cell? ⟨g, (jp + 1) * 3, none⟩ = some (.int .i64 x1.id) ∧ V.cell? ⟨g, (jp + 1) * 3 + 1, none⟩ = some (.int .i64 x1.n) ∧ V.cell? ⟨g, (jp + 1) * 3 + 2, none⟩ = some (.int .i64 x1.d) ∧ V.cell? ⟨g, jp * 3, none⟩ = some (.int .i64 x2.id) ∧ V.cell? ⟨g, jp * 3 + 1, none⟩ = some (.int .i64 x2.n) ∧ V.cell? ⟨g, jp * 3 + 2, none⟩ = some (.int .i64 x2.d)))
            go_upto_region 6 with (fail)
            refine AnyE.start (S := (fun V => V.cell? ⟨g, (jp + 1) * 3, none⟩ = some (.int .i64 x1.id) ∧ V.cell? ⟨g, (jp + 1) * 3 + 1, none⟩ = some (.int .i64 x1.n) ∧ V.cell? ⟨g, (jp + 1) * 3 + 2, none⟩ = some (.int .i64 x1.d) ∧ V.cell? ⟨g, jp * 3, none⟩ = some (.int .i64 x2.id) ∧ V.cell? ⟨g, jp * 3 + 1, none⟩ = some (.int .i64 x2.n) ∧ V.cell? ⟨g, jp * 3 + 2, none⟩ = some (.int .i64 x2.d))) (E := 15) (by kernel_rfl) ?hs1 (fun hHeld => ?go1)
            case hs1 => (exact MKE.out _ (by with_reducible repeat (first | exact Ext.refl _ | assumption | refine Ext.drew ?_ | refine Ext.drewN ?_ _ | refine Ext.alloc ?_ _)))
            refine AnyE.takeP (i := 0) (oi := ⟨(some 37), (.move (.tmp 0)), 22, "zsortanyfunc.go:13", #[], none⟩) (v := ?v2) rfl (by kernel_rfl) (by kernel_rfl) (by kernel_rfl) (fun _ _ _ h => h) rfl (Or.inl ⟨rfl, ?hy2⟩) (fun _ => hHeld) ?rest2
            case hy2 => (intro w _; go_simp <;> rfl)
            (try simp only [PU])
            refine AnyE.takeP (i := 1) (oi := ⟨(some 38), (.move (.tmp 9)), 3, "zsortanyfunc.go:13", #[], none⟩) (v := ?v3) rfl (by kernel_rfl) (by kernel_rfl) (by kernel_rfl) (fun _ _ _ h => h) rfl (Or.inl ⟨rfl, ?hy3⟩) (fun _ => hHeld) ?rest3
            case hy3 => (intro w _; go_simp <;> rfl)
            (try simp only [PU])
            refine AnyE.takeP (i := 2) (oi := ⟨(some 39), (.move (.tmp 0)), 22, "zsortanyfunc.go:13", #[⟨15, (.gcOnly Departure.lateStores)⟩], none⟩) (v := ?v4) rfl (by kernel_rfl) (by kernel_rfl) (by kernel_rfl) (fun _ _ _ h => h) rfl (Or.inl ⟨rfl, ?hy4⟩) (fun _ => hHeld) ?rest4
            case hy4 => (intro w _; go_simp <;> rfl)
            (try simp only [PU])
            refine AnyE.takeP (i := 3) (oi := ⟨(some 40), (.move (.tmp 9)), 3, "zsortanyfunc.go:13", #[⟨15, (.gcOnly Departure.lateStores)⟩], none⟩) (v := ?v5) rfl (by kernel_rfl) (by kernel_rfl) (by kernel_rfl) (fun _ _ _ h => h) rfl (Or.inl ⟨rfl, ?hy5⟩) (fun _ => hHeld) ?rest5
            case hy5 => (intro w _; go_simp <;> rfl)
            (try simp only [PU])
            refine AnyE.takeP (i := 4) (oi := ⟨(some 41), (.binOp .sub 3 (.tmp 40) (.const (.int .i64 1)) 3), 3, "zsortanyfunc.go:13", #[⟨3, .data⟩, ⟨15, (.gcOnly Departure.lateStores)⟩], none⟩) (v := ?v6) rfl (by kernel_rfl) (by kernel_rfl) (by kernel_rfl) (fun _ _ _ h => h) rfl (Or.inl ⟨rfl, ?hy6⟩) (fun _ => hHeld) ?rest6
            case hy6 => (intro w _; go_simp <;> first | with_reducible rfl | rw [if_neg (by omega)] | rw [if_pos (by omega)])
            (try simp only [PU])
            refine AnyE.takeP (i := 5) (oi := ⟨(some 42), (.move (.tmp 0)), 22, "zsortanyfunc.go:13", #[], none⟩) (v := ?v7) rfl (by kernel_rfl) (by kernel_rfl) (by kernel_rfl) (fun _ _ _ h => h) rfl (Or.inl ⟨rfl, ?hy7⟩) (fun _ => hHeld) ?rest7
            case hy7 => (intro w _; go_simp <;> rfl)
            (try simp only [PU])
            refine AnyE.takeP (i := 6) (oi := ⟨(some 43), (.move (.tmp 9)), 3, "zsortanyfunc.go:13", #[], none⟩) (v := ?v8) rfl (by kernel_rfl) (by kernel_rfl) (by kernel_rfl) (fun _ _ _ h => h) rfl (Or.inl ⟨rfl, ?hy8⟩) (fun _ => hHeld) ?rest8
            case hy8 => (intro w _; go_simp <;> rfl)
            (try simp only [PU])
            refine AnyE.takeP (i := 7) (oi := ⟨(some 44), (.binOp .sub 3 (.tmp 43) (.const (.int .i64 1)) 3), 3, "zsortanyfunc.go:13", #[⟨6, .data⟩], none⟩) (v := ?v9) rfl (by kernel_rfl) (by kernel_rfl) (by kernel_rfl) (fun _ _ _ h => h) rfl (Or.inl ⟨rfl, ?hy9⟩) (fun _ => hHeld) ?rest9
            case hy9 => (intro w _; go_simp <;> first | with_reducible rfl | rw [if_neg (by omega)] | rw [if_pos (by omega)])
            (try simp only [PU])
            refine AnyE.takeP (i := 8) (oi := ⟨(some 45), (.indexAddr 22 (.tmp 42) (.tmp 44)), 0, "zsortanyfunc.go:13", #[⟨5, .data⟩, ⟨7, .data⟩], none⟩) (v := ?v10) rfl (by kernel_rfl) (by kernel_rfl) (by kernel_rfl) (fun _ _ _ h => h) rfl (Or.inl ⟨rfl, ?hy10⟩) (fun _ => hHeld) ?rest10
            case hy10 => (intro w _; go_simp <;> first | with_reducible rfl | rw [if_neg (by omega)] | rw [if_pos (by omega)])
            (try simp only [PU])
            refine AnyE.take (i := 9) (oi := ⟨(some 46), (.load 42 (.tmp 45)), 42, "zsortanyfunc.go:13", #[⟨8, .data⟩], none⟩) (v := ?v11) rfl (by kernel_rfl) (by kernel_rfl) (by kernel_rfl) (fun _ _ _ h => h) (by kernel_rfl) rfl (by kernel_rfl) (Or.inl ⟨rfl, ?hy11⟩) hHeld ?rest11
            case hy11 => (intro w hSw; (try dsimp only at hSw); go_simp <;> first | with_reducible rfl | rw [if_neg (by omega)] | rw [if_pos (by omega)])
            (try simp only [PU])
            refine AnyE.takeP (i := 10) (oi := ⟨(some 47), (.move (.tmp 0)), 22, "zsortanyfunc.go:13", #[], none⟩) (v := ?v12) rfl (by kernel_rfl) (by kernel_rfl) (by kernel_rfl) (fun _ _ _ h => h) rfl (Or.inl ⟨rfl, ?hy12⟩) (fun _ => hHeld) ?rest12
            case hy12 => (intro w _; go_simp <;> rfl)
            (try simp only [PU])
            refine AnyE.takeP (i := 11) (oi := ⟨(some 48), (.move (.tmp 9)), 3, "zsortanyfunc.go:13", #[], none⟩) (v := ?v13) rfl (by kernel_rfl) (by kernel_rfl) (by kernel_rfl) (fun _ _ _ h => h) rfl (Or.inl ⟨rfl, ?hy13⟩) (fun _ => hHeld) ?rest13
            case hy13 => (intro w _; go_simp <;> rfl)
            (try simp only [PU])
            refine AnyE.takeP (i := 12) (oi := ⟨(some 49), (.indexAddr 22 (.tmp 47) (.tmp 48)), 0, "zsortanyfunc.go:13", #[⟨10, .data⟩, ⟨11, .data⟩], none⟩) (v := ?v14) rfl (by kernel_rfl) (by kernel_rfl) (by kernel_rfl) (fun _ _ _ h => h) rfl (Or.inl ⟨rfl, ?hy14⟩) (fun _ => hHeld) ?rest14
            case hy14 => (intro w _; go_simp <;> first | with_reducible rfl | rw [if_neg (by omega)] | rw [if_pos (by omega)])
            (try simp only [PU])
            refine AnyE.take (i := 13) (oi := ⟨(some 50), (.load 42 (.tmp 49)), 42, "zsortanyfunc.go:13", #[⟨12, .data⟩], none⟩) (v := ?v15) rfl (by kernel_rfl) (by kernel_rfl) (by kernel_rfl) (fun _ _ _ h => h) (by kernel_rfl) rfl (by kernel_rfl) (Or.inl ⟨rfl, ?hy15⟩) hHeld ?rest15
            case hy15 => (intro w hSw; (try dsimp only at hSw); go_simp <;> first | with_reducible rfl | rw [if_neg (by omega)] | rw [if_pos (by omega)])
            (try simp only [PU])
            refine AnyE.takeP (i := 14) (oi := ⟨(some 51), (.indexAddr 22 (.tmp 37) (.tmp 38)), 0, "zsortanyfunc.go:13", #[⟨0, .data⟩, ⟨1, .data⟩, ⟨0, .phase⟩, ⟨1, .phase⟩, ⟨2, (.textOnly Departure.lateStores)⟩, ⟨3, (.textOnly Departure.lateStores)⟩, ⟨4, (.textOnly Departure.lateStores)⟩, ⟨5, .phase⟩, ⟨6, .phase⟩, ⟨7, .phase⟩, ⟨8, .phase⟩, ⟨9, .phase⟩, ⟨10, (.textOnly Departure.lateStores)⟩, ⟨11, (.textOnly Departure.lateStores)⟩, ⟨12, (.textOnly Departure.lateStoresUnsure)⟩, ⟨13, .phase⟩], none⟩) (v := ?v16) rfl (by kernel_rfl) (by kernel_rfl) (by kernel_rfl) (fun _ _ _ h => h) rfl (Or.inl ⟨rfl, ?hy16⟩) (fun _ => hHeld) ?rest16
            case hy16 => (intro w _; go_simp <;> first | with_reducible rfl | rw [if_neg (by omega)] | rw [if_pos (by omega)])
            (try simp only [PU])
            refine AnyE.ready (rs := [15]) (by kernel_rfl) (by simp) ?_
            refine AllE.cons (o := ⟨none, (.store 42 (.tmp 51) (.tmp 46)), 0, "zsortanyfunc.go:13", #[⟨14, .data⟩, ⟨9, .data⟩, ⟨0, .phase⟩, ⟨1, .phase⟩, ⟨2, (.textOnly Departure.lateStores)⟩, ⟨3, (.textOnly Departure.lateStores)⟩, ⟨4, (.textOnly Departure.lateStores)⟩, ⟨5, .phase⟩, ⟨6, .phase⟩, ⟨7, .phase⟩, ⟨8, .phase⟩, ⟨9, .phase⟩, ⟨10, (.textOnly Departure.lateStores)⟩, ⟨11, (.textOnly Departure.lateStores)⟩, ⟨12, (.textOnly Departure.lateStoresUnsure)⟩, ⟨13, .phase⟩], none⟩) rfl (fun K hK => ?step17x0) ?more17x0
            case more17x0 => exact AllE.nil
            go_simp
            refine hK.out _ _ ?hS17x0 (fun hHeld17 => ?rest17x0)
            case hS17x0 => first | (intro h; exact absurd h (by decide)) | (intro h; simp at h)
            clear hK K
            clear hHeld
            refine AnyE.ready (rs := [16]) (by kernel_rfl) (by simp) ?_
            refine AllE.cons (o := ⟨(some 52), (.indexAddr 22 (.tmp 39) (.tmp 41)), 0, "zsortanyfunc.go:13", #[⟨2, .data⟩, ⟨4, .data⟩, ⟨0, .phase⟩, ⟨1, .phase⟩, ⟨2, .phase⟩, ⟨3, .phase⟩, ⟨4, .phase⟩, ⟨5, .phase⟩, ⟨6, .phase⟩, ⟨7, .phase⟩, ⟨8, .phase⟩, ⟨9, .phase⟩, ⟨10, .phase⟩, ⟨11, .phase⟩, ⟨12, .phase⟩, ⟨13, .phase⟩, ⟨14, .phase⟩, ⟨15, .phase⟩], none⟩) rfl (fun K hK => ?step18x0) ?more18x0
            case more18x0 => exact AllE.nil
            go_simp
            refine hK.out _ _ ?hS18x0 (fun hHeld18 => ?rest18x0)
            case hS18x0 => first | (intro h; exact absurd h (by decide)) | (intro h; simp at h)
            clear hK K
            clear hHeld17
            (try simp only [PU])
            refine AnyE.ready (rs := [17]) (by kernel_rfl) (by simp) ?_
            refine AllE.cons (o := ⟨none, (.store 42 (.tmp 52) (.tmp 50)), 0, "zsortanyfunc.go:13", #[⟨16, .data⟩, ⟨13, .data⟩, ⟨15, .chain⟩, ⟨0, .phase⟩, ⟨1, .phase⟩, ⟨2, .phase⟩, ⟨3, .phase⟩, ⟨4, .phase⟩, ⟨5, .phase⟩, ⟨6, .phase⟩, ⟨7, .phase⟩, ⟨8, .phase⟩, ⟨9, .phase⟩, ⟨10, .phase⟩, ⟨11, .phase⟩, ⟨12, .phase⟩, ⟨13, .phase⟩, ⟨14, .phase⟩, ⟨15, .phase⟩], none⟩) rfl (fun K hK => ?step19x0) ?more19x0
            case more19x0 => exact AllE.nil
            go_simp
            refine hK.out _ _ ?hS19x0 (fun hHeld19 => ?rest19x0)
            case hS19x0 => first | (intro h; exact absurd h (by decide)) | (intro h; simp at h)
            clear hK K
            clear hHeld18
            refine AnyE.done (by kernel_rfl) ?_ _
            clear hHeld19
            go_wp2_with fail

            go_roundw
            case rel => exact ⟨jp, swp e (jp + 1) jp, by first | rfl | go_num, by omega, by omega, hN, hg, HP⟩
            case measure => simp [intOf]
          · have he := Lib.hid (HE.out hz)
            clear HG HE HN c10 c11 c12 c20 c21 c22
            go_wp2_with fail
            go_region_held3 (fun V => V.cell? ⟨g, (jp + 1) * 3, none⟩ = some (.int .i64 x1.id) ∧ V.cell? ⟨g, (jp + 1) * 3 + 1, none⟩ = some (.int .i64 x1.n) ∧ V.cell? ⟨g, (jp + 1) * 3 + 2, none⟩ = some (.int .i64 x1.d) ∧ V.cell? ⟨g, jp * 3, none⟩ = some (.int .i64 x2.id) ∧ V.cell? ⟨g, jp * 3 + 1, none⟩ = some (.int .i64 x2.n) ∧ V.cell? ⟨g, jp * 3 + 2, none⟩ = some (.int .i64 x2.d) ∧ Ext wr V) ((exact MK.out _ (by with_reducible repeat (first | exact Ext.refl _ | assumption | refine Ext.drew ?_ | refine Ext.drewN ?_ _ | refine Ext.alloc ?_ _)))) ((refine (HQ.out _ (by with_reducible repeat (first | exact Ext.refl _ | assumption | refine Ext.drew ?_ | refine Ext.drewN ?_ _ | refine Ext.alloc ?_ _))).mono ?_; rintro e w' ⟨rfl, hb⟩; replace hb : Ext wr w' := Ext.trans (by with_reducible repeat (first | exact Ext.refl _ | assumption | refine Ext.drew ?_ | refine Ext.drewN ?_ _ | refine Ext.alloc ?_ _)) hb))
            have hN := Lib.hid (HX.out w' hb)
            clear HX HQ MK
            go_wp2
            go_roundw
            case rel => exact ⟨i + 1, e, by go_num, by omega, Lib.hid (.inl (by omega)), hN, he, hp⟩
            case measure => simp [intOf]; omega
        · have hja2 : j = a := by omega
          subst hja2
          have HE := Lib.hid (hin.out.stop HW.out (.inl (Nat.le_refl _)))
          have hjaz : decide ((j : Int) > (j : Int)) = false := decide_eq_false (by omega)
          go_wp2_with fail
          go_big_region
          all_goals go_wp2
          all_goals go_roundw
          case rel => exact ⟨i + 1, e, by go_num, by omega, Lib.hid (.inl (by omega)), Lib.hid he.out.drew, HE, hp⟩
          case measure => simp [intOf]; omega
    · have HE := Lib.hid (show SortedIn (ltM cf) a b e from by
        rcases hib.out with h | h
        · have : i = b := by omega
          subst this; exact hso.out
        · intro p q h1 h2 h3; omega)
      go_wp2
      go_end0
      exact ⟨rfl, e, he.out, hp.out, HE.out⟩
end Go.Proofs.YtlkpmbkmmfoakaaDoor

/- THE WALKS over both Total, slices.Clone at shares, rank.Top. -/
namespace Go.Proofs.YtlkpmbkmmfoakaaDoor
open Go.RowKit Go.Sort
def totStep (a : Option Fr) (x : Sh) : Option Fr := a.bind (fun s => addO s (x.n, x.d))
def totO (l : List Sh) : Option Fr := l.foldl totStep (some (0, 1))
theorem totO_snoc {l : List Sh} {k : Nat} (h : k < l.length) : totO (l.take (k + 1)) = totStep (totO (l.take k)) l[k]! := by
  unfold totO
  rw [List.take_succ_eq_append_getElem h, List.foldl_append, getElem!_pos l k h]; rfl
theorem totO_none {l : List Sh} {k : Nat} (h : totO (l.take k) = none) : totO l = none := by
  have : ∀ l' : List Sh, l'.foldl totStep none = none := fun l' => by
    induction l' with
    | nil => rfl
    | cons x r ih => rw [List.foldl_cons]; exact ih
  unfold totO at *
  rw [← List.take_append_drop k l, List.foldl_append, h]; exact this _
/-- what Total gives -/
def totV (l : List Sh) : Int × Int × Bool := match totO l with | some f => (f.1, f.2, true) | none => (0, 0, false)
theorem totV_some {l : List Sh} {f : Fr} (h : totO l = some f) : totV l = (f.1, f.2, true) := by unfold totV; rw [h]
theorem totV_none {l : List Sh} (h : totO l = none) : totV l = (0, 0, false) := by unfold totV; rw [h]
theorem opt_none {a : Option Fr} (h : false = a.isSome) : a = none := by cases a with
  | none => rfl
  | some f => cases h
theorem opt_some {a : Option Fr} {r : Fr} (h : true = a.isSome) (k : ∀ f, a = some f → f = r) : a = some r := by cases a with
  | none => cases h
  | some f => rw [k f rfl]
theorem box_rest (w : World) (a b : Int) (t : TypeId) : ∃ (q : Nat) (w1 : World), q = w.heap.size ∧ w1 = w.alloc (.cells #[.int .i64 a, .int .i64 b] t) ∧ RestAt w1 q (a, b) ∧ Ext w w1 :=
  ⟨_, _, rfl, rfl, ⟨by go_simp, by go_simp, by go_simp, by go_simp⟩, (Ext.refl _).alloc _⟩
set_option maxRecDepth 100000 in
set_option maxHeartbeats 1600000 in
theorem rk_Total (l : List Sh) (ok : Nat → Prop) (A : Option Addr) (c : Nat) (w : World) (hz : ZeroAt w) (hl : Shares w ok A l) (hlen : l.length ≤ 8000000) :
    Calls Tryd.prog 8 #[.slice A l.length c] w fun e w' => e = .returned (.tuple #[.agg #[.int .i64 (totV l).1, .int .i64 (totV l).2.1], .bool (totV l).2.2]) ∧ Ext w w' := by
  have HL := Lib.hid (fun W (e : Ext w W) => hl.ext e)
  have HTS := Lib.hid (fun f => totV_some (l := l) (f := f))
  have HTN := Lib.hid (totV_none (l := l))
  obtain ⟨tb, w1, htb, hw1, ht1, hx1⟩ := box_rest w 0 0 25
  have HT1 := Lib.hid ht1
  have HTB := Lib.hid (show w.heap.size ≤ tb by omega)
  have HW1 := Lib.hid hw1
  have HB1 := Lib.hid htb
  generalize totV l = tv at *
  clear hl ht1 hw1 htb
  go_enter Tryd.func8, Tryd.ntmps8
  go_upto_region 1 with (fail)
  rw [← HW1.out, ← HB1.out]
  clear HW1 HB1
  go_upto_region 2 with (go_at_call 23; ((with_reducible refine (rk_whole 0 _).mono ?_); rintro e w2 ⟨rfl, hx2⟩))
  obtain ⟨sb, w3, hsb, hw3, hs3, hx3⟩ := box_rest w2 0 1 25
  rw [← hw3, ← hsb]
  have HS3 := Lib.hid hs3
  have HSB := Lib.hid (show w.heap.size ≤ sb by have := hx1.le; have := hx2.le; omega)
  have hne : tb ≠ sb := by have := block_lt_of_cell (hx2.cell HT1.out.n); rw [hsb]; simp at this; omega
  have HT3 := Lib.hid ((HT1.out.ext hx2).ext hx3)
  have hE3 := hx1.trans (hx2.trans hx3)
  clear hs3 hsb hw3 hx1 hx2 hx3 HT1
  go_wp2_with fail
  go_loopw [12] (fun u W => ∃ (i : Nat) (s : Fr), u = .int .i64 i ∧ i ≤ l.length ∧ Hid (totO (l.take i) = some s) ∧ Hid (RestAt W sb s) ∧ Hid (RestAt W tb (0, 0)) ∧ Ext w W) (fun u _ => l.length - (intOf u).toNat)
  case atStart => exact ⟨0, (0, 1), rfl, Nat.zero_le _, Lib.hid rfl, Lib.hid (HS3.out.ext (by with_reducible repeat (first | exact Ext.refl _ | assumption | refine Ext.drew ?_ | refine Ext.drewN ?_ _ | refine Ext.alloc ?_ _))), Lib.hid (HT3.out.ext (by with_reducible repeat (first | exact Ext.refl _ | assumption | refine Ext.drew ?_ | refine Ext.drewN ?_ _ | refine Ext.alloc ?_ _))), hE3.trans (by with_reducible repeat (first | exact Ext.refl _ | assumption | refine Ext.drew ?_ | refine Ext.drewN ?_ _ | refine Ext.alloc ?_ _))⟩
  case round =>
    clear HS3 HT3
    obtain ⟨i, s, rfl, hi, hT, hS, hR, hEr⟩ := hrel
    by_cases hlt : i < l.length
    · obtain ⟨bs, os, rfl, hc⟩ := (HL.out wr hEr).at_ hlt
      obtain ⟨-, a0, a1, a2⟩ := hc i hlt
      have HNX := Lib.hid (show totO (l.take (i + 1)) = addO s (l[i]!.n, l[i]!.d) by rw [totO_snoc hlt, hT.out]; rfl)
      have HNN := Lib.hid (fun h => HTN.out (totO_none (k := i + 1) h))
      obtain ⟨y, w4, hy, hw4, n0, n1, n2, hx4⟩ := box_share wr l[i]! 42
      have HOP := Lib.hid (fun W (e : Ext wr W) => frac_Add s.1 s.2 l[i]!.n l[i]!.d W (hz.ext (hEr.trans e)))
      have HR := Lib.hid (addO_of s (l[i]!.n, l[i]!.d))
      dsimp only at HR
      have HW4 := Lib.hid hw4
      have HY := Lib.hid hy
      clear hc hy hw4 hT
      generalize addO s (l[i]!.n, l[i]!.d) = av at *
      generalize l[i]! = x at *
      generalize addS s.1 s.2 x.n x.d = r at *
      obtain ⟨r1, r2, r3⟩ := r
      dsimp only at HR
      obtain ⟨s0, s1, -, -⟩ := hS.out.ext hx4
      go_upto_region 5 with (fail)
      rw [← HW4.out, ← HY.out]
      clear HW4 HY a0 a1 a2
      go_upto_region 6 with (go_at_call 24; ((refine (HOP.out _ hx4).mono ?_); rintro e w5 ⟨rfl, hb⟩))
      obtain ⟨z, w6, hzz, hw6, m0, m1, -, -, hx6⟩ := box_frac w5 r1 r2 25
      rw [← hw6, ← hzz]
      have hx := hx4.trans ((of_below hb).trans hx6)
      clear hzz hw6 n0 n1 n2 s0 s1 hx4 hx6 hb HOP
      obtain ⟨s0, s1, s2, s3⟩ := hS.out.ext hx
      obtain ⟨t0, t1, t2, t3⟩ := hR.out.ext hx
      cases hr3 : r3
      · have HT := Lib.hid (HNN.out (by rw [HNX.out]; have h := HR.out.1; rw [hr3] at h; exact opt_none h))
        subst hr3
        clear HR HNN HNX
        go_wp2_with fail
        refine bodyPost_ret (v := .tuple #[.agg #[.int .i64 0, .int .i64 0], .bool false]) (by simp [results, Tryd.results8, go_sem, t0, t1]) rfl ⟨by rw [HT.out], ((hEr.trans hx).setCell HTB.out _).setCell HTB.out _⟩
      · have HT := Lib.hid (show totO (l.take (i + 1)) = some (r1, r2) by rw [HNX.out]; have h := HR.out; rw [hr3] at h; exact opt_some h.1 h.2)
        subst hr3
        have HS7 := Lib.hid ((hS.out.ext hx).set (r1, r2))
        have HR7 := Lib.hid ((hR.out.ext hx).kp (kp_set2 (b := sb) (.int .i64 r1) (.int .i64 r2)) hne)
        clear HR HNN HNX
        go_wp2_with fail
        go_roundw
        case rel => exact ⟨i + 1, (r1, r2), by go_num, by omega, HT, HS7, HR7, ((hEr.trans hx).setCell HSB.out _).setCell HSB.out _⟩
        case measure => simp [intOf]; omega
    · have HT := Lib.hid (HTS.out s (by have h := hT.out; rwa [List.take_of_length_le (by omega)] at h))
      obtain ⟨s0, s1, -, -⟩ := hS.out
      obtain ⟨t0, t1, t2, t3⟩ := hR.out
      clear hT HTS HTN
      go_wp2_with fail
      refine bodyPost_ret (v := .tuple #[.agg #[.int .i64 s.1, .int .i64 s.2], .bool true]) (by simp [results, Tryd.results8, go_sem, t0, t1]) rfl ⟨by rw [HT.out], (hEr.setCell HTB.out _).setCell HTB.out _⟩
end Go.Proofs.YtlkpmbkmmfoakaaDoor

/- THE WALKS over slices.Clone at shares and rank.Top; the order of Top, plain. -/
namespace Go.Proofs.YtlkpmbkmmfoakaaDoor
open Go.RowKit Go.Sort
theorem shares_flat {w : World} {ok : Nat → Prop} {A : Option Addr} {l : List Sh} (h : Shares w ok A l) : ∀ ad, A = some ad → ∀ (j : Nat) u, (l.flatMap Sh.cells)[j]? = some u → w.cell? (ad.add j) = some u := by
  intro ad e j u hu
  have hlen : (l.flatMap Sh.cells).length = l.length * 3 := flat_len Sh.cells 3 (fun _ => rfl) l
  have hj : j < l.length * 3 := by rw [← hlen]; exact (List.getElem?_eq_some_iff.1 hu).1
  obtain ⟨b, o, rfl, hc⟩ := h.2 (by omega)
  injection e with e
  subst e
  obtain ⟨k, i, hk, hi, rfl⟩ : ∃ k i, k < l.length ∧ i < 3 ∧ j = k * 3 + i := ⟨j / 3, j % 3, by omega, by omega, by omega⟩
  rw [flat_at3 l k i hk hi] at hu
  obtain ⟨-, c0, c1, c2⟩ := hc k hk
  rw [Addr.add_mid]
  have hi' : i = 0 ∨ i = 1 ∨ i = 2 := by omega
  rcases hi' with rfl | rfl | rfl <;> simp only [Sh.cells, List.getElem?_cons_zero, List.getElem?_cons_succ, Option.some.injEq] at hu <;> subst hu
  · exact c0
  · rw [← Nat.add_assoc]; exact c1
  · rw [← Nat.add_assoc]; exact c2
theorem shs_one (l : List Sh) : ∀ u ∈ l.flatMap Sh.cells, u.oneCell' = true := fun u hu => by
  obtain ⟨x, -, hx⟩ := List.mem_flatMap.1 hu
  exact Sh.cells_one x u hx
set_option maxRecDepth 100000 in
theorem c_Clone_share (n : Nat) (A : Option Addr) (c : Nat) (news : List Value) (w : World) (hA : A = none → n = 0) (hl : news.length = n * 3) (hs : ∀ ad, A = some ad → ∀ j u, news[j]? = some u → w.cell? (ad.add j) = some u) (h1 : ∀ u ∈ news, u.oneCell' = true) (hn : n ≤ 8000000) :
    Calls Tryd.prog 27 #[.slice A n c] w fun e w' => ∃ v, e = .returned v ∧ w'.ownsRow w.heap.size 42 3 v n news ∧ Ext w w' := by
  have hq := fun W => Lib.run_eql_slice_nil (P := Tryd.prog) W 22 42 A n c 0 0 Tryd.underlying22
  cases A with
  | none =>
    have h0 := hA rfl
    subst h0
    have HS := Lib.hid (List.eq_nil_of_length_eq_zero (show news.length = 0 by omega))
    clear hA hs hl
    simp only [Option.isNone_none] at hq
    go_enter Tryd.func27, Tryd.ntmps27
    go_wp2
    go_ret
    refine ⟨_, rfl, ?_, Ext.refl _⟩
    rw [HS.out]
    exact World.ownsRow_nil _ _ _ _
  | some ad =>
    have HF := Lib.hid (hs ad rfl)
    have HL := Lib.hid hl
    clear hs hA hl
    simp only [Option.isNone_some] at hq
    go_enter Tryd.func27, Tryd.ntmps27
    go_wp2_with (at_builtin; refine own_append El_share rfl (.tmp 5) (.tmp 6) rfl w _ 0 [] rfl (World.ownsRow_made w #[] 0 (Nat.le_refl _) (by unfold maxLen; omega) rfl) ((Ext.refl _).alloc _) ad n c news rfl HL.out (fun j u hu => ((Ext.refl w).alloc _).cell (HF.out j u hu)) h1 (by omega) (by decide) ?_; intro v' w' hown' hE')
    go_wp2_with fail
    go_ret
    exact ⟨v', rfl, by rw [Nat.zero_add, List.nil_append] at hown'; exact hown', hE'⟩
/-- the order of Top -/
def topC (a b : Sh) : Int := thenC (cmpS b.n b.d a.n a.d) (thenC (Lib.compareInt a.id b.id) 0)
theorem topC_anti (a b : Sh) : topC b a = - topC a b := by
  unfold topC
  rw [cmp_anti a.n a.d b.n b.d, TotC.int.anti a.id b.id, ← thenC_neg, ← thenC_neg]; rfl
theorem topC_id {a b : Sh} (h : topC a b = 0) : a.id = b.id := by
  unfold topC at h
  have h1 := (thenC_eq0.1 h).2
  exact (TotC.int.zero _ _).1 (thenC_eq0.1 h1).1
theorem topC_trans (a b c : Sh) (h : topC a b ≤ 0) (k : topC b c ≤ 0) : topC a c ≤ 0 := by
  unfold topC at *
  have t1 : ∀ {x y z : Sh}, cmpS y.n y.d x.n x.d ≤ 0 → cmpS z.n z.d y.n y.d ≤ 0 → cmpS z.n z.d x.n x.d ≤ 0 := fun h1 h2 => cmp_trans h2 h1
  have a1 := cmp_anti a.n a.d b.n b.d
  have a2 := cmp_anti b.n b.d c.n c.d
  have a3 := cmp_anti a.n a.d c.n c.d
  have i1 := TotC.int.trans a.id b.id c.id
  have z0 : ∀ x : Int, thenC x 0 = x := fun x => by unfold thenC; split <;> omega
  rw [z0] at *
  have g1 := t1 (x := a) (y := b) (z := c)
  have g2 := t1 (x := b) (y := c) (z := a)
  have g3 := t1 (x := c) (y := a) (z := b)
  unfold thenC at h k ⊢
  split at h <;> split at k <;> split <;> omega
/-- two rising lists of the same elements agree in whatever equal elements agree -/
theorem rise_map {α β : Type} {k : α → α → Int} (ha : ∀ x y, k y x = - k x y) (ht : ∀ x y z, k x y ≤ 0 → k y z ≤ 0 → k x z ≤ 0) {f : α → β} (hf : ∀ x y, k x y = 0 → f x = f y) :
    ∀ (n : Nat) {a b : List α}, a.length = n → a.length = b.length → (∀ x, (a.filter (fun y => decide (k x y = 0))).length = (b.filter (fun y => decide (k x y = 0))).length) → a.Pairwise (fun x y => k x y ≤ 0) → b.Pairwise (fun x y => k x y ≤ 0) → a.map f = b.map f := by
  intro n
  induction n with
  | zero =>
    intro a b h0 hl _ _ _
    have e1 := List.eq_nil_of_length_eq_zero h0
    have e2 := List.eq_nil_of_length_eq_zero (hl ▸ h0)
    rw [e1, e2]
  | succ n ih =>
    intro a b h0 hl hc hpa hpb
    cases a with
    | nil => cases h0
    | cons x a =>
      cases b with
      | nil => cases hl
      | cons y b =>
        have hr : ∀ z, k z z = 0 := fun z => by have := ha z z; omega
        have hpa' := List.pairwise_cons.1 hpa
        have hpb' := List.pairwise_cons.1 hpb
        have h1 : k y x ≤ 0 := by
          have h2 : 0 < ((y :: b).filter (fun z => decide (k x z = 0))).length := by
            rw [← hc x, List.filter_cons, if_pos (by simp [hr])]; simp
          obtain ⟨z, hz⟩ := List.exists_mem_of_length_pos h2
          rw [List.mem_filter] at hz
          have h3 := of_decide_eq_true hz.2
          have h4 : k y z ≤ 0 := by
            rcases List.mem_cons.1 hz.1 with e | e
            · rw [e, hr]; omega
            · exact hpb'.1 z e
          exact ht y z x h4 (by have := ha x z; omega)
        have h2 : k x y ≤ 0 := by
          have h2 : 0 < ((x :: a).filter (fun z => decide (k y z = 0))).length := by
            rw [hc y, List.filter_cons, if_pos (by simp [hr])]; simp
          obtain ⟨z, hz⟩ := List.exists_mem_of_length_pos h2
          rw [List.mem_filter] at hz
          have h3 := of_decide_eq_true hz.2
          have h4 : k x z ≤ 0 := by
            rcases List.mem_cons.1 hz.1 with e | e
            · rw [e, hr]; omega
            · exact hpa'.1 z e
          exact ht x z y h4 (by have := ha y z; omega)
        have h3 : k x y = 0 := by have := ha x y; omega
        rw [List.map_cons, List.map_cons, hf x y h3]
        congr 1
        refine ih (by simpa using h0) (by simpa using hl) (fun z => ?_) hpa'.2 hpb'.2
        have h4 := hc z
        have h5 : k z x = 0 ↔ k z y = 0 := by
          have e1 := ha x y
          have e2 := ha z x
          have e3 := ha z y
          have t1 := ht z x y
          have t2 := ht z y x
          have t3 := ht x y z
          have t4 := ht y x z
          constructor <;> intro h6 <;> omega
        rw [List.filter_cons, List.filter_cons] at h4
        by_cases h6 : k z x = 0
        · rw [if_pos (by simpa using h6), if_pos (by simpa using h5.1 h6)] at h4
          simpa using h4
        · rw [if_neg (by simpa using h6), if_neg (by simpa using fun h => h6 (h5.2 h))] at h4
          exact h4
theorem top_unique {a b : List Sh} (hp : a.Perm b) (ha : a.Pairwise (fun x y => topC x y ≤ 0)) (hb : b.Pairwise (fun x y => topC x y ≤ 0)) : a.map Sh.id = b.map Sh.id :=
  rise_map topC_anti topC_trans (fun _ _ h => topC_id h) a.length rfl hp.length_eq (fun _ => (hp.filter _).length_eq) ha hb
def topS (l : List Sh) : List Sh := l.mergeSort (fun x y => decide (topC x y ≤ 0))
theorem topS_perm (l : List Sh) : (topS l).Perm l := List.mergeSort_perm _ _
theorem topS_rise (l : List Sh) : (topS l).Pairwise (fun x y => topC x y ≤ 0) := by
  have h := List.pairwise_mergeSort (le := fun x y : Sh => decide (topC x y ≤ 0)) (fun a b c h1 h2 => decide_eq_true (topC_trans a b c (of_decide_eq_true h1) (of_decide_eq_true h2))) (fun a b => by
    have := topC_anti a b
    rw [Bool.or_eq_true]
    by_cases h : topC a b ≤ 0
    · exact .inl (decide_eq_true h)
    · exact .inr (decide_eq_true (by omega))) l
  exact h.imp (fun h => of_decide_eq_true h)
/-- the ids by falling shares -/
def topI (l : List Sh) : List Int := (topS l).map Sh.id
theorem topI_len (l : List Sh) : (topI l).length = l.length := by unfold topI; rw [List.length_map]; exact (topS_perm l).length_eq
theorem topI_of {l m : List Sh} (hp : m.Perm l) (hs : m.Pairwise (fun x y => topC x y ≤ 0)) : m.map Sh.id = topI l := top_unique (hp.trans (topS_perm l).symm) hs (topS_rise l)
theorem permIn_wholeM {α : Type} [Inhabited α] {d d' : Array α} (h : PermIn 0 d.size d d') : d'.toList.Perm d.toList := by
  have h1 := h.2.2
  have h2 : d'.extract 0 d.size = d' := by rw [← h.1]; exact Array.extract_size
  rw [h2, Array.extract_size] at h1
  exact h1
theorem sorted_riseM {d : Array Sh} (h : SortedIn (ltM topC) 0 d.size d) : d.toList.Pairwise (fun x y => topC x y ≤ 0) := by
  rw [List.pairwise_iff_getElem]
  intro i j hi hj hij
  rw [Array.length_toList] at hi hj
  have := h i j (Nat.zero_le _) hij hj
  rw [getElem!_pos d i hi, getElem!_pos d j hj] at this
  unfold ltM at this
  have h1 := of_decide_eq_false this
  rw [Array.getElem_toList, Array.getElem_toList]
  have h2 := topC_anti d[i] d[j]
  omega
theorem swo_ofM {k : Sh → Sh → Int} (ha : ∀ x y, k y x = - k x y) (ht : ∀ x y z, k x y ≤ 0 → k y z ≤ 0 → k x z ≤ 0) : SWO (ltM k) := by
  have hlt : ∀ {x y}, ltM k x y = true ↔ k x y < 0 := fun {x y} => by unfold ltM; exact decide_eq_true_iff
  have hle : ∀ {x y}, ltM k x y = false ↔ k y x ≤ 0 := fun {x y} => by
    unfold ltM; rw [decide_eq_false_iff_not]; have := ha x y; omega
  refine ⟨fun x => ?_, fun x y z h1 h2 => ?_, fun x y z h1 h2 => ?_⟩
  · rw [hle]; have := ha x x; omega
  · rw [hlt] at *
    have := ht x y z (by omega) (by omega)
    have h5 := ha x z
    by_cases h6 : k x z = 0
    · have h7 := ht z x y (by omega) (by omega)
      have h8 := ha y z
      omega
    · omega
  · rw [hle] at *
    exact ht z y x h2 h1
theorem topC_orL (a b : Sh) : orL [cmpS b.n b.d a.n a.d, Lib.compareInt a.id b.id] = topC a b := rfl
set_option maxRecDepth 100000 in
set_option maxHeartbeats 800000 in
theorem rk_Top1 (a b : Sh) (w : World) (hz : ZeroAt w) :
    Calls Tryd.prog 29 #[.agg #[.int .i64 a.id, .int .i64 a.n, .int .i64 a.d], .agg #[.int .i64 b.id, .int .i64 b.n, .int .i64 b.d]] w fun e w' => e = .returned (.int .i64 (topC a b)) ∧ Ext w w' := by
  obtain ⟨q, w2, hq, hw2, hc, hx⟩ : ∃ (q : Nat) (w2 : World), q = w.heap.size ∧ w2 = (w.alloc (.cells #[.int .i64 a.id, .int .i64 a.n, .int .i64 a.d] 42)).alloc (.cells #[.int .i64 b.id, .int .i64 b.n, .int .i64 b.d] 42) ∧ (w2.cell? ⟨q, 0, none⟩ = some (.int .i64 a.id) ∧ w2.cell? ⟨q, 1, none⟩ = some (.int .i64 a.n) ∧ w2.cell? ⟨q, 2, none⟩ = some (.int .i64 a.d) ∧ w2.cell? ⟨q + 1, 0, none⟩ = some (.int .i64 b.id) ∧ w2.cell? ⟨q + 1, 1, none⟩ = some (.int .i64 b.n) ∧ w2.cell? ⟨q + 1, 2, none⟩ = some (.int .i64 b.d)) ∧ Ext w w2 :=
    ⟨_, _, rfl, rfl, ⟨by go_simp, by go_simp, by go_simp, by go_simp, by go_simp, by go_simp⟩, (by with_reducible repeat (first | exact Ext.refl _ | assumption | refine Ext.drew ?_ | refine Ext.drewN ?_ _ | refine Ext.alloc ?_ _))⟩
  have HW := Lib.hid hw2
  have HG := Lib.hid hq
  have HT := Lib.hid (topC_orL a b)
  have HC := Lib.hid (fun W (e : Ext w2 W) => frac_Cmp b.n b.d a.n a.d W (hz.ext (hx.trans e)))
  have MK := Lib.hid (fun V (e : Ext w2 V) => (⟨e.cell hc.1, e.cell hc.2.1, e.cell hc.2.2.1, e.cell hc.2.2.2.1, e.cell hc.2.2.2.2.1, e.cell hc.2.2.2.2.2⟩ : V.cell? ⟨q, 0, none⟩ = some (.int .i64 a.id) ∧ V.cell? ⟨q, 1, none⟩ = some (.int .i64 a.n) ∧ V.cell? ⟨q, 2, none⟩ = some (.int .i64 a.d) ∧ V.cell? ⟨q + 1, 0, none⟩ = some (.int .i64 b.id) ∧ V.cell? ⟨q + 1, 1, none⟩ = some (.int .i64 b.n) ∧ V.cell? ⟨q + 1, 2, none⟩ = some (.int .i64 b.d)))
  clear hw2 hq hc
  generalize topC a b = tc at *
  generalize cmpS b.n b.d a.n a.d = c1 at *
  go_enter Tryd.func29, Tryd.ntmps29
  go_upto_region 1 with (fail)
  rw [← HW.out, ← HG.out]
  clear HW HG
  refine wp_region_held_drew (S := (fun V => V.cell? ⟨q, 0, none⟩ = some (.int .i64 a.id) ∧ V.cell? ⟨q, 1, none⟩ = some (.int .i64 a.n) ∧ V.cell? ⟨q, 2, none⟩ = some (.int .i64 a.d) ∧ V.cell? ⟨q + 1, 0, none⟩ = some (.int .i64 b.id) ∧ V.cell? ⟨q + 1, 1, none⟩ = some (.int .i64 b.n) ∧ V.cell? ⟨q + 1, 2, none⟩ = some (.int .i64 b.d))) (by kernel_rfl) ?hs1 (fun hHeld => ?go1)
  case hs1 => (exact MK.out _ (by with_reducible repeat (first | exact Ext.refl _ | assumption | refine Ext.drew ?_ | refine Ext.drewN ?_ _ | refine Ext.alloc ?_ _)))
  refine wpAnyH_take (i := 0) (oi := ⟨(some 5), (.fieldAddr 42 (.tmp 3) 1), 0, "rank.go:155", #[], none⟩) (v := ?v2) rfl (by kernel_rfl) (by kernel_rfl) (by kernel_rfl) (fun _ _ _ h => h) (Or.inl ⟨rfl, ?hy2⟩) hHeld ?rest2
  case hy2 => (intro w _; go_simp <;> rfl)
  (try simp only [PU])
  refine wpAnyH_take (i := 1) (oi := ⟨(some 6), (.load 25 (.tmp 5)), 25, "rank.go:155", #[⟨0, .data⟩], none⟩) (v := ?v3) rfl (by kernel_rfl) (by kernel_rfl) (by kernel_rfl) (fun _ _ _ h => h) (Or.inl ⟨rfl, ?hy3⟩) hHeld ?rest3
  case hy3 => (intro w hSw; (try dsimp only at hSw); go_simp <;> first | with_reducible rfl | rw [if_neg (by omega)] | rw [if_pos (by omega)])
  (try simp only [PU])
  refine wpAnyH_take (i := 2) (oi := ⟨(some 7), (.fieldAddr 42 (.tmp 2) 1), 0, "rank.go:155", #[], none⟩) (v := ?v4) rfl (by kernel_rfl) (by kernel_rfl) (by kernel_rfl) (fun _ _ _ h => h) (Or.inl ⟨rfl, ?hy4⟩) hHeld ?rest4
  case hy4 => (intro w _; go_simp <;> rfl)
  (try simp only [PU])
  refine wpAnyH_take (i := 3) (oi := ⟨(some 8), (.load 25 (.tmp 7)), 25, "rank.go:155", #[⟨2, .data⟩], none⟩) (v := ?v5) rfl (by kernel_rfl) (by kernel_rfl) (by kernel_rfl) (fun _ _ _ h => h) (Or.inl ⟨rfl, ?hy5⟩) hHeld ?rest5
  case hy5 => (intro w hSw; (try dsimp only at hSw); go_simp <;> first | with_reducible rfl | rw [if_neg (by omega)] | rw [if_pos (by omega)])
  (try simp only [PU])
  refine wpAnyH_take (i := 5) (oi := ⟨(some 10), (.fieldAddr 42 (.tmp 2) 0), 0, "rank.go:155", #[], none⟩) (v := ?v6) rfl (by kernel_rfl) (by kernel_rfl) (by kernel_rfl) (fun _ _ _ h => h) (Or.inl ⟨rfl, ?hy6⟩) hHeld ?rest6
  case hy6 => (intro w _; go_simp <;> rfl)
  (try simp only [PU])
  refine wpAnyH_take (i := 6) (oi := ⟨(some 11), (.load 3 (.tmp 10)), 3, "rank.go:155", #[⟨5, .data⟩], none⟩) (v := ?v7) rfl (by kernel_rfl) (by kernel_rfl) (by kernel_rfl) (fun _ _ _ h => h) (Or.inl ⟨rfl, ?hy7⟩) hHeld ?rest7
  case hy7 => (intro w hSw; (try dsimp only at hSw); go_simp <;> first | with_reducible rfl | rw [if_neg (by omega)] | rw [if_pos (by omega)])
  (try simp only [PU])
  refine wpAnyH_take (i := 7) (oi := ⟨(some 12), (.fieldAddr 42 (.tmp 3) 0), 0, "rank.go:155", #[], none⟩) (v := ?v8) rfl (by kernel_rfl) (by kernel_rfl) (by kernel_rfl) (fun _ _ _ h => h) (Or.inl ⟨rfl, ?hy8⟩) hHeld ?rest8
  case hy8 => (intro w _; go_simp <;> rfl)
  (try simp only [PU])
  refine wpAnyH_take (i := 8) (oi := ⟨(some 13), (.load 3 (.tmp 12)), 3, "rank.go:155", #[⟨7, .data⟩], none⟩) (v := ?v9) rfl (by kernel_rfl) (by kernel_rfl) (by kernel_rfl) (fun _ _ _ h => h) (Or.inl ⟨rfl, ?hy9⟩) hHeld ?rest9
  case hy9 => (intro w hSw; (try dsimp only at hSw); go_simp <;> first | with_reducible rfl | rw [if_neg (by omega)] | rw [if_pos (by omega)])
  (try simp only [PU])
  refine wpAnyH_ready (rs := [4]) (by kernel_rfl) (by simp) ?_
  refine AllReadyH.cons (o := ⟨(some 9), (.call { callee := (.value (.func 31)), args := #[(.tmp 6), (.tmp 8)], argTypes := #[25, 25] }), 3, "rank.go:155", #[⟨1, .data⟩, ⟨3, .data⟩], none⟩) rfl (fun K hK => ?step10x0) ?more10x0
  case more10x0 => exact AllReadyH.nil
  go_simp
  (refine (HC.out _ (by with_reducible repeat (first | exact Ext.refl _ | assumption | refine Ext.drew ?_ | refine Ext.drewN ?_ _ | refine Ext.alloc ?_ _))).mono ?_; rintro e w3 ⟨rfl, hb3⟩; replace hb3 : Ext w2 w3 := Ext.trans (by with_reducible repeat (first | exact Ext.refl _ | assumption | refine Ext.drew ?_ | refine Ext.drewN ?_ _ | refine Ext.alloc ?_ _)) (of_below hb3))
  refine hK.out _ _ ?hS10x0 (fun hHeld10 => ?rest10x0)
  case hS10x0 => first | (exact MK.out _ (by with_reducible repeat (first | exact Ext.refl _ | assumption | refine Ext.drew ?_ | refine Ext.drewN ?_ _ | refine Ext.alloc ?_ _))) | ((try dsimp only); (exact MK.out _ (by with_reducible repeat (first | exact Ext.refl _ | assumption | refine Ext.drew ?_ | refine Ext.drewN ?_ _ | refine Ext.alloc ?_ _))))
  clear hK K
  clear hHeld
  (try simp only [PU])
  refine wpAnyH_ready (rs := [9]) (by kernel_rfl) (by simp) ?_
  refine AllReadyH.cons (o := ⟨(some 14), (.call { callee := (.value (.func 32)), args := #[(.tmp 11), (.tmp 13)], argTypes := #[3, 3] }), 3, "rank.go:155", #[⟨6, .data⟩, ⟨8, .data⟩, ⟨4, .chain⟩], none⟩) rfl (fun K hK => ?step11x0) ?more11x0
  case more11x0 => exact AllReadyH.nil
  go_simp
  (refine (c_cmp_int _ _ _).mono ?_; rintro e w4 ⟨rfl, rfl⟩)
  refine hK.out _ _ ?hS11x0 (fun hHeld11 => ?rest11x0)
  case hS11x0 => first | (exact MK.out _ (by with_reducible repeat (first | exact Ext.refl _ | assumption | refine Ext.drew ?_ | refine Ext.drewN ?_ _ | refine Ext.alloc ?_ _))) | ((try dsimp only); (exact MK.out _ (by with_reducible repeat (first | exact Ext.refl _ | assumption | refine Ext.drew ?_ | refine Ext.drewN ?_ _ | refine Ext.alloc ?_ _))))
  clear hK K
  clear hHeld10
  (try simp only [PU])
  refine wpAnyH_ready (rs := [10]) (by kernel_rfl) (by simp) ?_
  refine AllReadyH.cons (o := ⟨(some 15), (.buildSlice 28 2 #[(0, (.tmp 9)), (1, (.tmp 14))]), 28, "rank.go:155", #[⟨4, .data⟩, ⟨9, .data⟩], none⟩) rfl (fun K hK => ?step12x0) ?more12x0
  case more12x0 => exact AllReadyH.nil
  go_simp
  refine hK.out _ _ ?hS12x0 (fun hHeld12 => ?rest12x0)
  case hS12x0 => first | (exact MK.out _ (by with_reducible repeat (first | exact Ext.refl _ | assumption | refine Ext.drew ?_ | refine Ext.drewN ?_ _ | refine Ext.alloc ?_ _))) | ((try dsimp only); (exact MK.out _ (by with_reducible repeat (first | exact Ext.refl _ | assumption | refine Ext.drew ?_ | refine Ext.drewN ?_ _ | refine Ext.alloc ?_ _))))
  clear hK K
  clear hHeld11
  (try simp only [PU])
  refine wpAnyH_ready (rs := [11]) (by kernel_rfl) (by simp) ?_
  refine AllReadyH.cons (o := ⟨(some 16), (.call { callee := (.value (.func 30)), args := #[(.tmp 15)], argTypes := #[28] }), 3, "rank.go:155", #[⟨10, .data⟩, ⟨9, .chain⟩], none⟩) rfl (fun K hK => ?step13x0) ?more13x0
  case more13x0 => exact AllReadyH.nil
  go_simp
  (refine Calls.mono (c_or_int _ [c1, Lib.compareInt a.id b.id] _ (by simp) ?hcs) ?_; (case hcs => (intro j hj; have hj6 : j = 0 ∨ j = 1 := (by simp at hj; omega); rcases hj6 with rfl | rfl <;> (go_simp; done))); rintro e w5 ⟨rfl, rfl⟩)
  refine hK.out _ _ ?hS13x0 (fun hHeld13 => ?rest13x0)
  case hS13x0 => first | (exact MK.out _ (by with_reducible repeat (first | exact Ext.refl _ | assumption | refine Ext.drew ?_ | refine Ext.drewN ?_ _ | refine Ext.alloc ?_ _))) | ((try dsimp only); (exact MK.out _ (by with_reducible repeat (first | exact Ext.refl _ | assumption | refine Ext.drew ?_ | refine Ext.drewN ?_ _ | refine Ext.alloc ?_ _))))
  clear hK K
  clear hHeld12
  (try simp only [PU])
  refine wpAnyH_take (i := 12) (oi := ⟨(some 4), (.assign (.tmp 16)), 3, "rank.go:155", #[⟨11, .data⟩, ⟨11, .chain⟩, ⟨0, .phase⟩, ⟨1, .phase⟩, ⟨2, .phase⟩, ⟨3, .phase⟩, ⟨4, .phase⟩, ⟨5, .phase⟩, ⟨6, .phase⟩, ⟨7, .phase⟩, ⟨8, .phase⟩, ⟨9, .phase⟩, ⟨10, .phase⟩, ⟨11, .phase⟩], none⟩) (v := ?v14) rfl (by kernel_rfl) (by kernel_rfl) (by kernel_rfl) (fun _ _ _ h => h) (Or.inl ⟨rfl, ?hy14⟩) hHeld13 ?rest14
  case hy14 => (intro w _; go_simp <;> first | with_reducible rfl | rw [if_neg (by omega)] | rw [if_pos (by omega)])
  (try simp only [PU])
  refine wpAnyH_done (by kernel_rfl) ?_ _
  clear hHeld13
  go_wp2_with fail
  go_ret
  exact ⟨by first | rfl | (rw [← HT.out]; rfl) | rw [HT.out], hx.trans (by with_reducible repeat (first | exact Ext.refl _ | assumption | refine Ext.drew ?_ | refine Ext.drewN ?_ _ | refine Ext.alloc ?_ _))⟩
theorem eg_Top1 (args : Array Value) (w : World) : (callFunc 29 args).run Tryd.prog w = .ok (.enter 29 args) w :=
  run_enter (c := Tryd.f29.body.get!) Tryd.func29 (by kernel_rfl) (by kernel_rfl) args w
theorem ZeroAt.grownM {w w' : World} {g : Nat} (h : ZeroAt w) (hg : w.grownBy w' (some g)) (hne : 0 ≠ g) : ZeroAt w' :=
  ⟨hg.cell h.1 (fun e => hne (Option.some.inj e)), hg.cell h.2.1 (fun e => hne (Option.some.inj e)), Nat.lt_of_lt_of_le h.2.2 hg.size⟩
set_option maxRecDepth 100000 in
set_option maxHeartbeats 800000 in
theorem sm_none (A : Option Addr) (c : Nat) (fv : Value) (w : World) : Calls Tryd.prog 80 #[.slice A 0 c, .int .i64 0, .int .i64 0, fv] w fun e w' => e = .returned (.tuple #[]) ∧ w = w' := by
  go_enter Tryd.func80, Tryd.ntmps80
  go_wp2
  go_loopw [8] (fun u W => u = .int .i64 1 ∧ W = w) (fun _ _ => 0)
  case atStart => exact ⟨rfl, rfl⟩
  case round =>
    obtain ⟨rfl, rfl⟩ := hrel
    go_wp2
    go_end0
    exact ⟨rfl, rfl⟩
set_option maxRecDepth 100000 in
set_option maxHeartbeats 800000 in
theorem sm_stable0 (A : Option Addr) (c : Nat) (fv : Value) (w : World) : Calls Tryd.prog 56 #[.slice A 0 c, .int .i64 0, fv] w fun e w' => e = .returned (.tuple #[]) ∧ w = w' := by
  go_enter Tryd.func56, Tryd.ntmps56
  go_wp2_with fail
  go_loopw [7, 8] (fun u v W => u = .int .i64 0 ∧ v = .int .i64 20 ∧ W = w) (fun _ _ _ => 0)
  case atStart => exact ⟨rfl, rfl, rfl⟩
  case round =>
    obtain ⟨rfl, rfl, rfl⟩ := hrel
    go_wp2_with (go_at_call 80; refine (sm_none _ _ _ _).mono ?_; rintro e w' ⟨rfl, rfl⟩)
    go_loopw [6] (fun u W => u = .int .i64 20 ∧ W = wr) (fun _ _ => 0)
    case atStart => exact ⟨rfl, rfl⟩
    case round =>
      obtain ⟨rfl, rfl⟩ := hrel
      go_wp2
      go_end0
      exact ⟨rfl, rfl⟩
set_option maxRecDepth 100000 in
theorem sm_sort0 (A : Option Addr) (c : Nat) (fv : Value) (w : World) : Calls Tryd.prog 28 #[.slice A 0 c, fv] w fun e w' => e = .returned (.tuple #[]) ∧ w = w' := by
  go_enter Tryd.func28, Tryd.ntmps28
  go_wp2_with (go_at_call 56; refine (sm_stable0 _ _ _ _).mono ?_; rintro e w' ⟨rfl, rfl⟩)
  go_end0
  exact ⟨rfl, rfl⟩
/-- the tail of Top, over a row of shares -/
theorem ids_take (d : List Sh) (k : Nat) (h : k < d.length) : ((d.take (k + 1)).map Sh.id).map (Value.int .i64) = ((d.take k).map Sh.id).map (Value.int .i64) ++ [Value.int .i64 d[k]!.id] := by
  rw [List.take_succ_eq_append_getElem h, List.map_append, List.map_append, getElem!_pos d k h]; rfl
set_option maxRecDepth 100000 in
set_option maxHeartbeats 1600000 in
theorem rk_Top_of (l : List Sh) (ok : Nat → Prop) (A : Option Addr) (c : Nat) (w : World) (hz : ZeroAt w) (hl : Shares w ok A l) (hlen : l.length ≤ 8000000)
    (hsort : ∀ (w2 : World) (g cap : Nat), CmpOkM Tryd.prog 29 #[] topC w2 g → SortM w2 w.heap.size g cap 42 l.toArray w2 → Calls Tryd.prog 28 #[.slice (some ⟨g, 0, none⟩) l.toArray.size cap, .func (.func 29) #[] #[]] w2 fun e w' => e = .returned (.tuple #[]) ∧ ∃ d', SortM w2 w.heap.size g cap 42 d' w' ∧ PermIn 0 l.toArray.size l.toArray d' ∧ SortedIn (ltM topC) 0 l.toArray.size d') :
    Calls Tryd.prog 10 #[.slice A l.length c] w fun e w' => ∃ A' c', e = .returned (.slice A' (topI l).length c') ∧ (topI l).length ≤ c' ∧ Nums w' (fun b => w.heap.size ≤ b) A' (topI l) ∧ Ext w w' := by
  have HCL := Lib.hid (c_Clone_share l.length A c (l.flatMap Sh.cells) w (fun h => hl.none_ h) (flat_len Sh.cells 3 (fun _ => rfl) l) (shares_flat hl) (shs_one l) hlen)
  have HN := Lib.hid (topI_len l)
  by_cases h0 : l.length = 0
  · have hl0 : l = [] := List.eq_nil_of_length_eq_zero h0
    subst hl0
    have HTI := Lib.hid (show topI [] = [] from List.eq_nil_of_length_eq_zero (HN.out))
    clear hl h0 hlen HN hsort
    rw [HTI.out]
    go_enter Tryd.func10, Tryd.ntmps10
    go_wp2_with fail
    refine (HCL.out).mono ?_
    rintro e w2 ⟨v, rfl, hown, hx⟩
    obtain ⟨A2, c2, rfl⟩ := own_form hown
    clear hown
    go_wp2_with (go_at_call 28; refine (sm_sort0 _ _ _ _).mono ?_; rintro e w' ⟨rfl, rfl⟩)
    go_loopw [4, 13] (fun v u W => v = .slice none 0 0 ∧ u = .int .i64 0 ∧ Ext w W) (fun _ _ _ => 0)
    case atStart => exact ⟨rfl, rfl, hx⟩
    case round =>
      obtain ⟨rfl, rfl, hEr⟩ := hrel
      go_wp2
      go_ret
      exact ⟨none, 0, rfl, Nat.le_refl _, SliceR.nil _ _ _, hEr⟩
  · have HNE := Lib.hid h0
    clear hl h0
    go_enter Tryd.func10, Tryd.ntmps10
    go_wp2_with fail
    refine (HCL.out).mono ?_
    rintro e w2 ⟨v, rfl, hown, hx⟩
    obtain ⟨g, cap, rfl, hgb, hgs⟩ : ∃ g cap, v = .slice (some ⟨g, 0, none⟩) l.length cap ∧ w.heap.size ≤ g ∧ g < w2.heap.size := by
      rcases hown.2 with ⟨-, h1⟩ | ⟨g, cap, cur, hv, hb, hh, -⟩
      · exact absurd h1 HNE.out
      · exact ⟨g, cap, hv, hb, (Array.getElem?_eq_some_iff.1 hh).1⟩
    have hzg : 0 ≠ g := by have := hz.2.2; omega
    have HSO := Lib.hid (hsort w2 g cap (fun W hg x y => rk_Top1 x y W ((hz.ext hx).grownM hg hzg)) (SortM.start (by simpa using hown)))
    simp only [List.size_toArray] at HSO
    clear hown HCL hz hzg hsort
    go_wp2_with fail
    refine (HSO.out).mono ?_
    rintro e w3 ⟨rfl, d, hs, hp, hso⟩
    have hds : d.size = l.length := hp.1
    have HTI := Lib.hid (show d.toList.map Sh.id = topI l from topI_of (permIn_wholeM (d := l.toArray) (by simpa using hp)) (sorted_riseM (by rw [hds]; exact hso)))
    have HDS := Lib.hid hds
    have HS := Lib.hid hs
    have hx3 : Ext w w3 := hx.grown hs.gr (fun k hk => by rw [← Option.some.inj hk]; exact hgb)
    have HS0 := Lib.hid (fun W : World => World.ownsRow_nil W W.heap.size 3 1)
    clear hs hp hso hds HSO hx hgs
    go_wp2_with fail
    go_loopw [4, 13] (fun v u W => ∃ k : Nat, u = .int .i64 k ∧ k ≤ l.length ∧ Hid (W.ownsRow w3.heap.size 3 1 v k (((d.toList.take k).map Sh.id).map (Value.int .i64))) ∧ Ext w3 W) (fun _ u _ => l.length - (intOf u).toNat)
    case atStart => exact ⟨0, rfl, Nat.zero_le _, Lib.hid (HS0.out _), Ext.refl _⟩
    case round =>
      clear HS0
      obtain ⟨k, rfl, hk, HO, hEr⟩ := hrel
      by_cases hlt : k < l.length
      · obtain ⟨a0, a1, a2⟩ := (HS.out.ext hEr).cells (show k < d.size by rw [HDS.out]; exact hlt)
        have HT := Lib.hid (ids_take d.toList k (by rw [Array.length_toList, HDS.out]; exact hlt))
        have HE := Lib.hid (show d.toList[k]! = d[k]! from by rw [getElem!_pos d k (by rw [HDS.out]; exact hlt), getElem!_pos d.toList k (by rw [Array.length_toList, HDS.out]; exact hlt)]; rfl)
        rw [HE.out] at HT
        obtain ⟨y, w4, hy, hw4, n0, n1, n2, hx4⟩ := box_share wr d[k]! 42
        have HW4 := Lib.hid hw4
        have HY := Lib.hid hy
        have HO4 := Lib.hid (own_ext HO.out hx4)
        have hkb : k + 1 ≤ 8388608 := by omega
        clear hy hw4 HE HO
        generalize d[k]! = x at *
        go_upto_region 7 with (fail)
        rw [← HW4.out, ← HY.out]
        clear HW4 HY a0 a1 a2
        go_wp2_with (at_builtin; refine own_pushF El_int rfl (.tmp 17) (.tmp 20) rfl w3 w4 _ k _ [.int .i64 x.id] rfl HO4.out (hEr.trans hx4) rfl rfl rfl (by simp [Value.oneCell']) hkb (by decide) ?_; intro v2 w5 hown2 hx5 _)
        have HO5 := Lib.hid (show w5.ownsRow w3.heap.size 3 1 v2 (k + 1) (((d.toList.take (k + 1)).map Sh.id).map (Value.int .i64)) by rw [HT.out]; exact hown2)
        clear hown2 HO4
        go_wp2_with fail
        go_roundw
        case rel => exact ⟨k + 1, by go_num, by omega, HO5, hx5⟩
        case measure => simp [intOf]; omega
      · have hof := HO.out
        rw [List.take_of_length_le (by rw [Array.length_toList, HDS.out]; omega), HTI.out] at hof
        have HOF := Lib.hid hof
        clear hof
        have hkn : k = (topI l).length := by rw [HN.out]; omega
        obtain ⟨A9, c9, rfl, h9, hS9⟩ := nums_of_own HOF.out hkn (by rw [HN.out]; omega)
        have HS9 := Lib.hid hS9
        have HK := Lib.hid hkn
        clear HO HOF hS9 hkn HN HTI
        go_wp2_with fail
        go_ret
        exact ⟨A9, c9, rfl, h9, SliceR.mono HS9.out (fun _ _ _ _ h => ⟨Nat.le_trans hx3.le h.1, h.2⟩), hx3.trans hEr⟩
set_option maxRecDepth 100000 in
set_option maxHeartbeats 800000 in
theorem sm_stableS (w0 : World) (B g cap : Nat) (cf : Sh → Sh → Int) (f : Nat) (cb : Array Value) (d : Array Sh) (w : World)
    (eg : ∀ args w, (callFunc f args).run Tryd.prog w = .ok (.enter f args) w) (hcmp : CmpOkM Tryd.prog f cb cf w0 g) (hS : SWO (ltM cf)) (hs : SortM w0 B g cap 42 d w) (hsz : d.size ≤ 19) :
    Calls Tryd.prog 56 #[.slice (some ⟨g, 0, none⟩) d.size cap, .int .i64 d.size, .func (.func f) #[] cb] w fun e w' => e = .returned (.tuple #[]) ∧ ∃ d', SortM w0 B g cap 42 d' w' ∧ PermIn 0 d.size d d' ∧ SortedIn (ltM cf) 0 d.size d' := by
  have HI := Lib.hid (sm_insert w0 B g cap cf f cb d 0 d.size w eg hcmp hS hs (Nat.zero_le _) (Nat.le_refl _) (by omega))
  clear hs hcmp hS
  generalize d.size = n at *
  go_enter Tryd.func56, Tryd.ntmps56
  go_wp2_with fail
  go_loopw [7, 8] (fun u v W => u = .int .i64 0 ∧ v = .int .i64 20 ∧ W = w) (fun _ _ _ => 0)
  case atStart => exact ⟨rfl, rfl, rfl⟩
  case round =>
    obtain ⟨rfl, rfl, rfl⟩ := hrel
    go_wp2_with (go_at_call 80; refine (HI.out).mono ?_; rintro e w' ⟨rfl, HE⟩; replace HE := Lib.hid HE)
    go_loopw [6] (fun u W => u = .int .i64 20 ∧ W = w') (fun _ _ => 0)
    case atStart => exact ⟨rfl, rfl⟩
    case round =>
      obtain ⟨rfl, rfl⟩ := hrel
      go_wp2
      go_end0
      exact ⟨rfl, HE.out⟩
set_option maxRecDepth 100000 in
theorem sm_sortS (w0 : World) (B g cap : Nat) (cf : Sh → Sh → Int) (f : Nat) (cb : Array Value) (d : Array Sh) (w : World)
    (eg : ∀ args w, (callFunc f args).run Tryd.prog w = .ok (.enter f args) w) (hcmp : CmpOkM Tryd.prog f cb cf w0 g) (hS : SWO (ltM cf)) (hs : SortM w0 B g cap 42 d w) (hsz : d.size ≤ 19) :
    Calls Tryd.prog 28 #[.slice (some ⟨g, 0, none⟩) d.size cap, .func (.func f) #[] cb] w fun e w' => e = .returned (.tuple #[]) ∧ ∃ d', SortM w0 B g cap 42 d' w' ∧ PermIn 0 d.size d d' ∧ SortedIn (ltM cf) 0 d.size d' := by
  have HS := Lib.hid (sm_stableS w0 B g cap cf f cb d w eg hcmp hS hs hsz)
  clear hs hcmp hS
  go_enter Tryd.func28, Tryd.ntmps28
  go_wp2_with (go_at_call 56; refine HS.out.mono ?_; rintro r w1 ⟨rfl, HE⟩; replace HE := Lib.hid HE)
  go_end0
  exact ⟨rfl, HE.out⟩
/-- Top of few shares: the insertion sort alone -/
theorem rk_TopS (l : List Sh) (ok : Nat → Prop) (A : Option Addr) (c : Nat) (w : World) (hz : ZeroAt w) (hl : Shares w ok A l) (hlen : l.length ≤ 19) :
    Calls Tryd.prog 10 #[.slice A l.length c] w fun e w' => ∃ A' c', e = .returned (.slice A' (topI l).length c') ∧ (topI l).length ≤ c' ∧ Nums w' (fun b => w.heap.size ≤ b) A' (topI l) ∧ Ext w w' :=
  rk_Top_of l ok A c w hz hl (by omega) (fun w2 g cap hc hs => sm_sortS w2 w.heap.size g cap topC 29 #[] l.toArray w2 eg_Top1 hc (swo_ofM topC_anti topC_trans) hs (by simpa using hlen))
end Go.Proofs.YtlkpmbkmmfoakaaDoor
