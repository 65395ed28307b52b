/- PARTS OF THE WALKS, joined: RkJ, Merge, SortM, SmB, SmA. -/
import Derived.Test.YtlkpmbkmmfoakaaDoorV11
import Derived.Sort.LotA
import Derived.Test.YtlkpmbkmmfoakaaDoorV00
import Derived.Test.YtlkpmbkmmfoakaaDoorV09
import Derived.Test.YtlkpmbkmmfoakaaDoorV10
import Derived.Deep.RegionHeld3
import Derived.WalkSpells
import Derived.Deep.Cut
import Derived.BigRegion
import Derived.WalkKit
/- THE WALKS over rank.Step and both Run. -/
namespace Go.Proofs.YtlkpmbkmmfoakaaDoor
open Go.RowKit
theorem stepP_tells {g : GraphG} {types : List ByteArray} {damp : Fr} {l O : List Sh} {ov : Bool} (h : chkG g = 0) (h1 : (dampB damp && fitsB g l) = true) (h2 : l.length ≠ 0) (ht : (ov = true → stepN types g.edges damp l = none) ∧ (ov = false → stepN types g.edges damp l = some O)) :
    stepP g types damp l = if ov then ([], 24) else (O, 0) := by
  have hl : l.length = g.nodes.length := by rw [Bool.and_eq_true] at h1; exact (fitsB_iff.1 h1.2).1
  rw [stepP_on h h1 h2, ← hl]
  cases ov with
  | true => rw [show stepR types g.edges damp l (l.length : Int) = none from ht.1 rfl]; rfl
  | false => rw [show stepR types g.edges damp l (l.length : Int) = some O from ht.2 rfl]; rfl
theorem stepP_bad {g : GraphG} {types : List ByteArray} {damp : Fr} {l : List Sh} (h : (stepP g types damp l).2 ≠ 0) : (stepP g types damp l).1 = [] := by
  by_cases h0 : chkG g = 0
  · by_cases h1 : (dampB damp && fitsB g l) = true
    · by_cases h2 : l.length = 0
      · rw [stepP_nil h0 h1 h2]
      · rw [stepP_on h0 h1 h2] at h ⊢
        cases hh : stepR types g.edges damp l (g.nodes.length : Int) with
        | none => rfl
        | some o => rw [hh] at h; exact absurd rfl h
    · rw [stepP_arg h0 (by simpa using h1)]
  · rw [stepP_err h0]
theorem shErr_parts {M : List Sh} {z : Int} {w w' : World} {e : Ending} (h : ShErr (M, z) w e w') : (∃ A' c', e = .returned (.tuple #[.slice A' M.length c', .int .i64 z]) ∧ M.length ≤ c' ∧ Shares w' (fun b => w.heap.size ≤ b) A' M) ∧ Ext w w' := h
/-- k steps from the start -/
def runK (g : GraphG) (types : List ByteArray) (damp : Fr) : Nat → List Sh × Int
  | 0 => (startR g, 0)
  | k + 1 => if (runK g types damp k).2 = 0 then stepP g types damp (runK g types damp k).1 else runK g types damp k
def runP (g : GraphG) (types : List ByteArray) (damp : Fr) (k : Int) : List Sh × Int :=
  if chkG g = 0 then (if (decide (0 ≤ k) && decide (k ≤ 8) && dampB damp) = true then runK g types damp k.toNat else ([], 1)) else ([], chkG g)
section
variable {g : GraphG} {types : List ByteArray} {damp : Fr} {k : Int} {i : Nat} {L : List Sh}
theorem runP_err (h : chkG g ≠ 0) : runP g types damp k = ([], chkG g) := by unfold runP; rw [if_neg h]
theorem runP_arg (h : chkG g = 0) (h1 : (decide (0 ≤ k) && decide (k ≤ 8) && dampB damp) = false) : runP g types damp k = ([], 1) := by unfold runP; rw [if_pos h, if_neg (by simp [h1])]
theorem runP_on (h : chkG g = 0) (h1 : 0 ≤ k) (h2 : k ≤ 8) (h3 : dampB damp = true) : runP g types damp k = runK g types damp k.toNat := by unfold runP; rw [if_pos h, if_pos (by simp [h1, h2, h3])]
theorem runK_next (h : runK g types damp i = (L, 0)) : runK g types damp (i + 1) = stepP g types damp L := by rw [runK, h]; rfl
theorem runK_stay {z : Int} (h : runK g types damp i = ([], z)) (hz : z ≠ 0) : ∀ j, runK g types damp (i + j) = ([], z)
  | 0 => h
  | j + 1 => by rw [← Nat.add_assoc, runK, runK_stay h hz j, if_neg hz]
theorem runK_bad {z : Int} {M : List Sh} (h : runK g types damp i = (L, 0)) (hs : stepP g types damp L = (M, z)) (hz : z ≠ 0) (hk : i < k.toNat) : runK g types damp k.toNat = ([], z) := by
  have h1 : runK g types damp (i + 1) = ([], z) := by
    rw [runK_next h, hs]
    have := stepP_bad (g := g) (types := types) (damp := damp) (l := L) (by rw [hs]; exact hz)
    rw [hs] at this; rw [show M = [] from this]
  have := runK_stay h1 hz (k.toNat - (i + 1))
  rwa [show i + 1 + (k.toNat - (i + 1)) = k.toNat by omega] at this
end
set_option maxRecDepth 100000 in
set_option maxHeartbeats 3200000 in
theorem rk_Step (g : GraphG) (types : List ByteArray) (damp : Fr) (l : List Sh) (ok ok' ok2 : Nat → Prop) (A B T S' : Option Addr) (c d e f : Nat) (w : World) (hzw : ZeroAt w) (hg : GraphAt w ok A B g) (ht : Strs w ok' T types) (hl : Shares w ok2 S' l) :
    Calls Tryd.prog 20 #[.agg #[.slice A g.nodes.length c, .slice B g.edges.length d, .int .i64 g.nn, .int .i64 g.ne], .slice T types.length e, .agg #[.int .i64 damp.1, .int .i64 damp.2], .slice S' l.length f] w (ShErr (stepP g types damp l) w) := by
  have hm := hl.len
  obtain ⟨q, w2, hq, hw2, g0, g1, g2, g3, d0, d1, hx2⟩ := box_gf w A B c d g damp 34 25
  have HW := Lib.hid hw2
  have HG := Lib.hid hq
  have HCH := Lib.hid (fun W (e' : Ext w2 W) => gr_Check g ok A B c d W (hg.ext (hx2.trans e')))
  have HDA := Lib.hid (fun W => rk_damping damp.1 damp.2 W)
  have HFI := Lib.hid (fun W (e' : Ext w2 W) => rk_fits g l ok ok2 A B S' c d f W (hg.nodes.ext (hx2.trans e')) (hl.ext (hx2.trans e')))
  have HST := Lib.hid (fun h0 h1 h2 W (e' : Ext w2 W) => rk_step g types damp l ok ok' ok2 A B T S' c d e f W (hzw.ext (hx2.trans e')) (hg.ext (hx2.trans e')) (ht.ext (hx2.trans e')) (hl.ext (hx2.trans e')) h0 h1 h2)
  clear hw2 hq ht hl
  by_cases h0 : chkG g = 0
  · rw [h0] at HCH
    by_cases h1 : (dampB damp && fitsB g l) = true
    · have h1' := h1
      rw [Bool.and_eq_true] at h1'
      have HS2 := Lib.hid (HST.out h0 h1'.1 h1'.2)
      rw [show dampB (damp.1, damp.2) = true from h1'.1] at HDA
      rw [h1'.2] at HFI
      by_cases h2 : l.length = 0
      · rw [stepP_nil h0 h1 h2]
        have hz2 : ((l.length : Int) == 0) = true := by rw [h2]; rfl
        clear h0 h1 h2 h1' hg HS2 HST
        go_enter Tryd.func20, Tryd.ntmps20
        go_upto_region 1 with (fail)
        rw [← HW.out, ← HG.out]
        clear HW HG
        go_wp2_with (first | (go_at_call 34; ((with_reducible refine (HCH.out _ (by with_reducible repeat (first | exact Ext.refl _ | assumption | refine Ext.drew ?_ | refine Ext.drewN ?_ _ | refine Ext.alloc ?_ _))).mono ?_); rintro e v1 ⟨rfl, hv1⟩; have k0 := hv1.cell g0; have k1 := hv1.cell g1; have k2 := hv1.cell g2; have k3 := hv1.cell g3; have p0 := hv1.cell d0; have p1 := hv1.cell d1)) | (go_at_call 35; ((with_reducible refine (HDA.out _).mono ?_); rintro e v2 ⟨rfl, hv2⟩; replace k0 := hv2.cell k0; replace k1 := hv2.cell k1; replace k2 := hv2.cell k2; replace k3 := hv2.cell k3; replace p0 := hv2.cell p0; replace p1 := hv2.cell p1)) | (go_at_call 44; ((with_reducible refine (HFI.out _ (hv1.trans hv2)).mono ?_); rintro e v3 ⟨rfl, hv3⟩; replace k0 := hv3.cell k0; replace k1 := hv3.cell k1; replace k2 := hv3.cell k2; replace k3 := hv3.cell k3; replace p0 := hv3.cell p0; replace p1 := hv3.cell p1)))
        go_ret2
        exact shErr_nil _ _ _ (hx2.trans (hv1.trans (hv2.trans hv3)))
      · have HT := Lib.hid (fun (O : List Sh) ov => stepP_tells (types := types) (O := O) (ov := ov) h0 h1 h2)
        have hz2 : ((l.length : Int) == 0) = false := beq_eq_false_iff_ne.2 (by omega)
        clear h0 h1 h2 h1' hg HST
        go_enter Tryd.func20, Tryd.ntmps20
        go_upto_region 1 with (fail)
        rw [← HW.out, ← HG.out]
        clear HW HG
        go_upto_region 9 with (first | (go_at_call 34; ((with_reducible refine (HCH.out _ (by with_reducible repeat (first | exact Ext.refl _ | assumption | refine Ext.drew ?_ | refine Ext.drewN ?_ _ | refine Ext.alloc ?_ _))).mono ?_); rintro e v1 ⟨rfl, hv1⟩; have k0 := hv1.cell g0; have k1 := hv1.cell g1; have k2 := hv1.cell g2; have k3 := hv1.cell g3; have p0 := hv1.cell d0; have p1 := hv1.cell d1)) | (go_at_call 35; ((with_reducible refine (HDA.out _).mono ?_); rintro e v2 ⟨rfl, hv2⟩; replace k0 := hv2.cell k0; replace k1 := hv2.cell k1; replace k2 := hv2.cell k2; replace k3 := hv2.cell k3; replace p0 := hv2.cell p0; replace p1 := hv2.cell p1)) | (go_at_call 44; ((with_reducible refine (HFI.out _ (hv1.trans hv2)).mono ?_); rintro e v3 ⟨rfl, hv3⟩; replace k0 := hv3.cell k0; replace k1 := hv3.cell k1; replace k2 := hv3.cell k2; replace k3 := hv3.cell k3; replace p0 := hv3.cell p0; replace p1 := hv3.cell p1)) | (go_at_call 45; ((with_reducible refine (HS2.out _ (hv1.trans (hv2.trans hv3))).mono ?_); rintro e v4 ⟨O, A9, c9, ov, rfl, h9, hS9, hT, hv4⟩; skip)))
        have HT2 := Lib.hid (HT.out O ov hT)
        have HS9 := Lib.hid hS9
        have hE := hx2.trans (hv1.trans (hv2.trans hv3))
        have HLE := Lib.hid hE.le
        clear hT HT hS9 hv1 hv2 hv3
        cases ov
        · go_wp2_with fail
          go_ret2
          rw [HT2.out]
          exact ⟨⟨A9, c9, rfl, h9, HS9.out.keep (fun _ _ _ hb hc => ⟨hc, Nat.le_trans HLE.out hb⟩)⟩, hE.trans hv4⟩
        · go_wp2_with fail
          go_ret2
          rw [HT2.out]
          exact shErr_nil _ _ _ (hE.trans hv4)
    · have h1' : (dampB damp && fitsB g l) = false := by cases hh : (dampB damp && fitsB g l) <;> simp_all
      rw [stepP_arg h0 h1']
      clear h0 h1 hg HST
      cases hd : dampB damp
      · rw [show dampB (damp.1, damp.2) = false from hd] at HDA
        clear h1' hd
        go_enter Tryd.func20, Tryd.ntmps20
        go_upto_region 1 with (fail)
        rw [← HW.out, ← HG.out]
        clear HW HG
        go_wp2_with (first | (go_at_call 34; ((with_reducible refine (HCH.out _ (by with_reducible repeat (first | exact Ext.refl _ | assumption | refine Ext.drew ?_ | refine Ext.drewN ?_ _ | refine Ext.alloc ?_ _))).mono ?_); rintro e v1 ⟨rfl, hv1⟩; have k0 := hv1.cell g0; have k1 := hv1.cell g1; have k2 := hv1.cell g2; have k3 := hv1.cell g3; have p0 := hv1.cell d0; have p1 := hv1.cell d1)) | (go_at_call 35; ((with_reducible refine (HDA.out _).mono ?_); rintro e v2 ⟨rfl, hv2⟩; replace k0 := hv2.cell k0; replace k1 := hv2.cell k1; replace k2 := hv2.cell k2; replace k3 := hv2.cell k3; replace p0 := hv2.cell p0; replace p1 := hv2.cell p1)) | (go_at_call 44; ((with_reducible refine (HFI.out _ (hv1.trans hv2)).mono ?_); rintro e v3 ⟨rfl, hv3⟩; replace k0 := hv3.cell k0; replace k1 := hv3.cell k1; replace k2 := hv3.cell k2; replace k3 := hv3.cell k3; replace p0 := hv3.cell p0; replace p1 := hv3.cell p1)))
        go_ret2
        exact shErr_nil _ _ _ (hx2.trans (hv1.trans hv2))
      · rw [show dampB (damp.1, damp.2) = true from hd] at HDA
        rw [hd, Bool.true_and] at h1'
        rw [h1'] at HFI
        clear h1' hd
        go_enter Tryd.func20, Tryd.ntmps20
        go_upto_region 1 with (fail)
        rw [← HW.out, ← HG.out]
        clear HW HG
        go_wp2_with (first | (go_at_call 34; ((with_reducible refine (HCH.out _ (by with_reducible repeat (first | exact Ext.refl _ | assumption | refine Ext.drew ?_ | refine Ext.drewN ?_ _ | refine Ext.alloc ?_ _))).mono ?_); rintro e v1 ⟨rfl, hv1⟩; have k0 := hv1.cell g0; have k1 := hv1.cell g1; have k2 := hv1.cell g2; have k3 := hv1.cell g3; have p0 := hv1.cell d0; have p1 := hv1.cell d1)) | (go_at_call 35; ((with_reducible refine (HDA.out _).mono ?_); rintro e v2 ⟨rfl, hv2⟩; replace k0 := hv2.cell k0; replace k1 := hv2.cell k1; replace k2 := hv2.cell k2; replace k3 := hv2.cell k3; replace p0 := hv2.cell p0; replace p1 := hv2.cell p1)) | (go_at_call 44; ((with_reducible refine (HFI.out _ (hv1.trans hv2)).mono ?_); rintro e v3 ⟨rfl, hv3⟩; replace k0 := hv3.cell k0; replace k1 := hv3.cell k1; replace k2 := hv3.cell k2; replace k3 := hv3.cell k3; replace p0 := hv3.cell p0; replace p1 := hv3.cell p1)))
        go_ret2
        exact shErr_nil _ _ _ (hx2.trans (hv1.trans (hv2.trans hv3)))
  · rw [stepP_err h0]
    have hz2 : (chkG g != 0) = true := bne_iff_ne.2 h0
    generalize chkG g = z at *
    clear h0 hg HST
    go_enter Tryd.func20, Tryd.ntmps20
    go_upto_region 1 with (fail)
    rw [← HW.out, ← HG.out]
    clear HW HG
    go_wp2_with (first | (go_at_call 34; ((with_reducible refine (HCH.out _ (by with_reducible repeat (first | exact Ext.refl _ | assumption | refine Ext.drew ?_ | refine Ext.drewN ?_ _ | refine Ext.alloc ?_ _))).mono ?_); rintro e v1 ⟨rfl, hv1⟩; have k0 := hv1.cell g0; have k1 := hv1.cell g1; have k2 := hv1.cell g2; have k3 := hv1.cell g3; have p0 := hv1.cell d0; have p1 := hv1.cell d1)) | (go_at_call 35; ((with_reducible refine (HDA.out _).mono ?_); rintro e v2 ⟨rfl, hv2⟩; replace k0 := hv2.cell k0; replace k1 := hv2.cell k1; replace k2 := hv2.cell k2; replace k3 := hv2.cell k3; replace p0 := hv2.cell p0; replace p1 := hv2.cell p1)) | (go_at_call 44; ((with_reducible refine (HFI.out _ (hv1.trans hv2)).mono ?_); rintro e v3 ⟨rfl, hv3⟩; replace k0 := hv3.cell k0; replace k1 := hv3.cell k1; replace k2 := hv3.cell k2; replace k3 := hv3.cell k3; replace p0 := hv3.cell p0; replace p1 := hv3.cell p1)))
    go_ret2
    exact shErr_nil _ _ _ (hx2.trans hv1)
set_option maxRecDepth 100000 in
set_option maxHeartbeats 3200000 in
theorem rk_Run (g : GraphG) (types : List ByteArray) (damp : Fr) (k : Int) (ok ok' : Nat → Prop) (A B T : Option Addr) (c d e : Nat) (w : World) (hzw : ZeroAt w) (hg : GraphAt w ok A B g) (ht : Strs w ok' T types) :
    Calls Tryd.prog 13 #[.agg #[.slice A g.nodes.length c, .slice B g.edges.length d, .int .i64 g.nn, .int .i64 g.ne], .slice T types.length e, .agg #[.int .i64 damp.1, .int .i64 damp.2], .int .i64 k] w (ShErr (runP g types damp k) w) := by
  obtain ⟨q, w2, hq, hw2, g0, g1, g2, g3, d0, d1, hx2⟩ := box_gf w A B c d g damp 34 25
  have HW := Lib.hid hw2
  have HG := Lib.hid hq
  have HCH := Lib.hid (fun W (e' : Ext w2 W) => gr_Check g ok A B c d W (hg.ext (hx2.trans e')))
  have HDA := Lib.hid (fun W => rk_damping damp.1 damp.2 W)
  have HSA := Lib.hid (fun W (e' : Ext w2 W) => rk_Start g ok A B c d W (hg.ext (hx2.trans e')))
  have HST := Lib.hid (fun l ok2 S' f W (e' : Ext w2 W) (hl : Shares W ok2 S' l) => rk_Step g types damp l ok ok' ok2 A B T S' c d e f W (hzw.ext (hx2.trans e')) (hg.ext (hx2.trans e')) (ht.ext (hx2.trans e')) hl)
  clear hw2 hq ht
  by_cases h0 : chkG g = 0
  · rw [h0] at HCH
    by_cases h1 : 0 ≤ k
    · have hk0 : decide (k < 0) = false := decide_eq_false (by omega)
      by_cases h2 : k ≤ 8
      · have hk1 : decide (8 < k) = false := decide_eq_false (by omega)
        cases hd : dampB damp
        · rw [runP_arg h0 (by rw [hd, Bool.and_false])]
          rw [show dampB (damp.1, damp.2) = false from hd] at HDA
          clear h0 hg hd HSA HST
          go_enter Tryd.func13, Tryd.ntmps13
          go_upto_region 1 with (fail)
          rw [← HW.out, ← HG.out]
          clear HW HG
          go_wp2_with (first | (go_at_call 34; ((with_reducible refine (HCH.out _ (by with_reducible repeat (first | exact Ext.refl _ | assumption | refine Ext.drew ?_ | refine Ext.drewN ?_ _ | refine Ext.alloc ?_ _))).mono ?_); rintro e v1 ⟨rfl, hv1⟩; have k0 := hv1.cell g0; have k1 := hv1.cell g1; have k2 := hv1.cell g2; have k3 := hv1.cell g3; have p0 := hv1.cell d0; have p1 := hv1.cell d1)) | (go_at_call 35; ((with_reducible refine (HDA.out _).mono ?_); rintro e v2 ⟨rfl, hv2⟩; replace k0 := hv2.cell k0; replace k1 := hv2.cell k1; replace k2 := hv2.cell k2; replace k3 := hv2.cell k3; replace p0 := hv2.cell p0; replace p1 := hv2.cell p1)))
          go_ret2
          exact shErr_nil _ _ _ (hx2.trans (hv1.trans hv2))
        · rw [runP_on h0 h1 h2 hd]
          rw [show dampB (damp.1, damp.2) = true from hd] at HDA
          have HRZ := Lib.hid (show runK g types damp 0 = (startR g, 0) from rfl)
          have HNX := Lib.hid (fun i L => runK_next (g := g) (types := types) (damp := damp) (i := i) (L := L))
          have HBD := Lib.hid (fun i L z M => runK_bad (g := g) (types := types) (damp := damp) (k := k) (i := i) (L := L) (z := z) (M := M))
          have HRK := Lib.hid (show runK g types damp k.toNat = runK g types damp k.toNat from rfl)
          clear h0 hg hd
          generalize startR g = s0 at *
          go_enter Tryd.func13, Tryd.ntmps13
          go_upto_region 1 with (fail)
          rw [← HW.out, ← HG.out]
          clear HW HG
          go_upto_region 7 with (first | (go_at_call 34; ((with_reducible refine (HCH.out _ (by with_reducible repeat (first | exact Ext.refl _ | assumption | refine Ext.drew ?_ | refine Ext.drewN ?_ _ | refine Ext.alloc ?_ _))).mono ?_); rintro e v1 ⟨rfl, hv1⟩; have k0 := hv1.cell g0; have k1 := hv1.cell g1; have k2 := hv1.cell g2; have k3 := hv1.cell g3; have p0 := hv1.cell d0; have p1 := hv1.cell d1)) | (go_at_call 35; ((with_reducible refine (HDA.out _).mono ?_); rintro e v2 ⟨rfl, hv2⟩; replace k0 := hv2.cell k0; replace k1 := hv2.cell k1; replace k2 := hv2.cell k2; replace k3 := hv2.cell k3; replace p0 := hv2.cell p0; replace p1 := hv2.cell p1)) | (go_at_call 19; ((with_reducible refine (HSA.out _ (hv1.trans hv2)).mono ?_); rintro e v3 ⟨A3, c3, rfl, hc3, hS3, hv3⟩; replace k0 := hv3.cell k0; replace k1 := hv3.cell k1; replace k2 := hv3.cell k2; replace k3 := hv3.cell k3; replace p0 := hv3.cell p0; replace p1 := hv3.cell p1)))
          have hE := hv1.trans (hv2.trans hv3)
          have HLE := Lib.hid (show w.heap.size ≤ v2.heap.size from (hx2.trans (hv1.trans hv2)).le)
          have HS3 := Lib.hid (hS3.keep (ok' := fun b => w.heap.size ≤ b) (fun _ _ _ hb hc => ⟨hc, Nat.le_trans HLE.out hb⟩))
          clear hv1 hv2 hv3 HSA HCH HDA hS3 HLE hk0 hk1
          go_wp2_with fail
          go_loopw [11, 33] (fun v u W => ∃ (i : Nat) (M0 : List Sh) (A4 : Option Addr) (c4 : Nat), u = .int .i64 i ∧ (i : Int) ≤ k ∧ v = .slice A4 M0.length c4 ∧ M0.length ≤ c4 ∧ Hid (runK g types damp i = (M0, 0)) ∧ Hid (Shares W (fun b => w.heap.size ≤ b) A4 M0) ∧ Ext w2 W) (fun _ u _ => k.toNat - (intOf u).toNat)
          case atStart => exact ⟨0, s0, A3, c3, rfl, h1, rfl, hc3, HRZ, Lib.hid (HS3.out.ext (by with_reducible repeat (first | exact Ext.refl _ | assumption | refine Ext.drew ?_ | refine Ext.drewN ?_ _ | refine Ext.alloc ?_ _))), hE.trans (by with_reducible repeat (first | exact Ext.refl _ | assumption | refine Ext.drew ?_ | refine Ext.drewN ?_ _ | refine Ext.alloc ?_ _))⟩
          case round =>
            clear HRZ HS3
            obtain ⟨i, M0, A4, c4, rfl, hi, rfl, hc4, hR, hS, hEr⟩ := hrel
            replace k0 := hEr.cell g0
            replace k1 := hEr.cell g1
            replace k2 := hEr.cell g2
            replace k3 := hEr.cell g3
            replace p0 := hEr.cell d0
            replace p1 := hEr.cell d1
            have HLE := Lib.hid (show w.heap.size ≤ wr.heap.size from (hx2.trans hEr).le)
            by_cases hlt : (i : Int) < k
            · have HN2 := Lib.hid (HNX.out i M0 hR.out)
              have HB2 := Lib.hid (fun z M => HBD.out i M0 z M hR.out)
              have HSM := Lib.hid (HST.out M0 (fun b => w.heap.size ≤ b) A4 c4 wr hEr hS.out)
              generalize hP : stepP g types damp M0 = P at *
              have HP := Lib.hid hP
              clear hP
              obtain ⟨M1, z⟩ := P
              have HSP := Lib.hid (HSM.out.mono (fun _ _ h => shErr_parts h))
              by_cases hz : z = 0
              · subst hz
                go_wp2_with ((go_at_call 20; ((with_reducible refine (HSP.out).mono ?_); rintro e v5 ⟨⟨A5, c5, rfl, hc5, hS5⟩, hv5⟩; replace k0 := hv5.cell k0; replace k1 := hv5.cell k1; replace k2 := hv5.cell k2; replace k3 := hv5.cell k3; replace p0 := hv5.cell p0; replace p1 := hv5.cell p1)))
                have HS5 := Lib.hid (hS5.keep (ok' := fun b => w.heap.size ≤ b) (fun _ _ _ hb hc => ⟨hc, Nat.le_trans HLE.out hb⟩))
                clear hS5 HB2 HBD
                go_roundw
                case rel => exact ⟨i + 1, M1, A5, c5, by go_num, by omega, rfl, hc5, HN2, HS5, hEr.trans hv5⟩
                case measure => simp [intOf]; omega
              · have HT := Lib.hid (HB2.out z M1 rfl hz (by omega))
                have hz2 : (z != 0) = true := bne_iff_ne.2 hz
                clear hz HB2 HN2 HBD
                go_wp2_with ((go_at_call 20; ((with_reducible refine (HSP.out).mono ?_); rintro e v5 ⟨⟨A5, c5, rfl, hc5, hS5⟩, hv5⟩; replace k0 := hv5.cell k0; replace k1 := hv5.cell k1; replace k2 := hv5.cell k2; replace k3 := hv5.cell k3; replace p0 := hv5.cell p0; replace p1 := hv5.cell p1)))
                go_ret2
                rw [HT.out]
                exact shErr_nil _ _ _ (hx2.trans (hEr.trans hv5))
            · have HT := Lib.hid (show runK g types damp k.toNat = (M0, 0) by rw [show k.toNat = i by omega]; exact hR.out)
              go_wp2_with fail
              go_ret2
              rw [HT.out]
              exact ⟨⟨A4, c4, rfl, hc4, hS.out⟩, hx2.trans hEr⟩
      · rw [runP_arg h0 (by simp; omega)]
        have hk1 : decide (8 < k) = true := decide_eq_true (by omega)
        clear h0 hg HSA HST
        go_enter Tryd.func13, Tryd.ntmps13
        go_upto_region 1 with (fail)
        rw [← HW.out, ← HG.out]
        clear HW HG
        go_wp2_with (first | (go_at_call 34; ((with_reducible refine (HCH.out _ (by with_reducible repeat (first | exact Ext.refl _ | assumption | refine Ext.drew ?_ | refine Ext.drewN ?_ _ | refine Ext.alloc ?_ _))).mono ?_); rintro e v1 ⟨rfl, hv1⟩; have k0 := hv1.cell g0; have k1 := hv1.cell g1; have k2 := hv1.cell g2; have k3 := hv1.cell g3; have p0 := hv1.cell d0; have p1 := hv1.cell d1)) | (go_at_call 35; ((with_reducible refine (HDA.out _).mono ?_); rintro e v2 ⟨rfl, hv2⟩; replace k0 := hv2.cell k0; replace k1 := hv2.cell k1; replace k2 := hv2.cell k2; replace k3 := hv2.cell k3; replace p0 := hv2.cell p0; replace p1 := hv2.cell p1)))
        go_ret2
        exact shErr_nil _ _ _ (hx2.trans hv1)
    · rw [runP_arg h0 (by simp; omega)]
      have hk0 : decide (k < 0) = true := decide_eq_true (by omega)
      clear h0 hg HSA HST
      go_enter Tryd.func13, Tryd.ntmps13
      go_upto_region 1 with (fail)
      rw [← HW.out, ← HG.out]
      clear HW HG
      go_wp2_with (first | (go_at_call 34; ((with_reducible refine (HCH.out _ (by with_reducible repeat (first | exact Ext.refl _ | assumption | refine Ext.drew ?_ | refine Ext.drewN ?_ _ | refine Ext.alloc ?_ _))).mono ?_); rintro e v1 ⟨rfl, hv1⟩; have k0 := hv1.cell g0; have k1 := hv1.cell g1; have k2 := hv1.cell g2; have k3 := hv1.cell g3; have p0 := hv1.cell d0; have p1 := hv1.cell d1)) | (go_at_call 35; ((with_reducible refine (HDA.out _).mono ?_); rintro e v2 ⟨rfl, hv2⟩; replace k0 := hv2.cell k0; replace k1 := hv2.cell k1; replace k2 := hv2.cell k2; replace k3 := hv2.cell k3; replace p0 := hv2.cell p0; replace p1 := hv2.cell p1)))
      go_ret2
      exact shErr_nil _ _ _ (hx2.trans hv1)
  · rw [runP_err h0]
    have hz2 : (chkG g != 0) = true := bne_iff_ne.2 h0
    generalize chkG g = z at *
    clear h0 hg HSA HST
    go_enter Tryd.func13, Tryd.ntmps13
    go_upto_region 1 with (fail)
    rw [← HW.out, ← HG.out]
    clear HW HG
    go_wp2_with (first | (go_at_call 34; ((with_reducible refine (HCH.out _ (by with_reducible repeat (first | exact Ext.refl _ | assumption | refine Ext.drew ?_ | refine Ext.drewN ?_ _ | refine Ext.alloc ?_ _))).mono ?_); rintro e v1 ⟨rfl, hv1⟩; have k0 := hv1.cell g0; have k1 := hv1.cell g1; have k2 := hv1.cell g2; have k3 := hv1.cell g3; have p0 := hv1.cell d0; have p1 := hv1.cell d1)) | (go_at_call 35; ((with_reducible refine (HDA.out _).mono ?_); rintro e v2 ⟨rfl, hv2⟩; replace k0 := hv2.cell k0; replace k1 := hv2.cell k1; replace k2 := hv2.cell k2; replace k3 := hv2.cell k3; replace p0 := hv2.cell p0; replace p1 := hv2.cell p1)))
    go_ret2
    exact shErr_nil _ _ _ (hx2.trans hv1)
end Go.Proofs.YtlkpmbkmmfoakaaDoor

/- PLAIN: MERGING IN PLACE, as slices.SortStableFunc does it: what its parts make of a row. No program in sight. -/
namespace Go.Proofs.YtlkpmbkmmfoakaaDoor
open Go.Sort
variable {α : Type} [Inhabited α] {lt : α → α → Bool}
theorem swp_at (d : Array α) {i j : Nat} (hi : i < d.size) (hj : j < d.size) (k : Nat) : (swp d i j)[k]! = if k = j then d[i]! else if k = i then d[j]! else d[k]! := swp_get d hi hj k
/-- where the exchange of two ranges takes place x from -/
def swS (a b n x : Nat) : Nat := if a ≤ x ∧ x < a + n then x - a + b else if b ≤ x ∧ x < b + n then x - b + a else x
theorem swS_zero (a b x : Nat) : swS a b 0 x = x := by unfold swS; rw [if_neg (by omega), if_neg (by omega)]
theorem swS_step (d e : Array α) {a b n i : Nat} (hs : e.size = d.size) (hab : a + n ≤ b) (hi : i < n) (hb : b + n ≤ d.size) (h : ∀ x, e[x]! = d[swS a b i x]!) (x : Nat) : (swp e (a + i) (b + i))[x]! = d[swS a b (i + 1) x]! := by
  rw [swp_at e (by omega) (by omega)]
  split
  · rename_i hx
    rw [h]; congr 1; subst hx; unfold swS
    repeat' split
    all_goals omega
  · split
    · rename_i hx
      rw [h]; congr 1; subst hx; unfold swS
      repeat' split
      all_goals omega
    · rw [h]; congr 1; unfold swS
      repeat' split
      all_goals omega
/-- where a rotation takes place x from -/
def rotS (a m b x : Nat) : Nat := if a ≤ x ∧ x < b then (if x < a + (b - m) then m + (x - a) else x - (b - m)) else x
theorem rotS_left {m i j x : Nat} (hi : i ≤ m) (hij : j < i) : swS (m - i) m j (rotS (m - (i - j)) m (m + j) x) = rotS (m - i) m (m + j) x := by
  unfold rotS swS
  repeat' split
  all_goals omega
theorem rotS_right {m i j x : Nat} (hi : i ≤ m) (hij : i < j) : swS (m - i) (m + j - i) i (rotS (m - i) m (m + (j - i)) x) = rotS (m - i) m (m + j) x := by
  unfold rotS swS
  repeat' split
  all_goals omega
theorem rotS_end {m i x : Nat} (hi : i ≤ m) : swS (m - i) m i x = rotS (m - i) m (m + i) x := by
  unfold rotS swS
  repeat' split
  all_goals omega
theorem rotS_idl (m b x : Nat) : rotS m m b x = x := by
  unfold rotS
  repeat' split
  all_goals omega
theorem rotS_idr (a m x : Nat) : rotS a m m x = x := by
  unfold rotS
  repeat' split
  all_goals omega
/-- nothing of [m, b) is less than anything of [a, m) -/
def Cross (lt : α → α → Bool) (a m b : Nat) (d : Array α) : Prop := ∀ i j, a ≤ i → i < m → m ≤ j → j < b → lt d[j]! d[i]! = false
theorem srt_sub {a b a' b' : Nat} {d : Array α} (h : SortedIn lt a b d) (ha : a ≤ a') (hb : b' ≤ b) : SortedIn lt a' b' d := fun i j h1 h2 h3 => h i j (by omega) h2 (by omega)
theorem srt_kept {a b lo hi : Nat} {d e : Array α} (h : SortedIn lt a b d) (hp : PermIn lo hi d e) (ho : b ≤ lo ∨ hi ≤ a) : SortedIn lt a b e := fun i j h1 h2 h3 => by
  rw [hp.2.1 i (by omega), hp.2.1 j (by omega)]; exact h i j h1 h2 h3
theorem srt_glue {a m b : Nat} {d : Array α} (h1 : SortedIn lt a m d) (h2 : SortedIn lt m b d) (h : Cross lt a m b d) : SortedIn lt a b d := fun i j hi hij hj => by
  by_cases hm : j < m
  · exact h1 i j hi hij hm
  · by_cases hm' : m ≤ i
    · exact h2 i j hm' hij hj
    · exact h i j hi (by omega) (by omega) hj
theorem srt_le (hS : SWO lt) {a b : Nat} {d : Array α} (h : SortedIn lt a b d) {i j : Nat} (hi : a ≤ i) (hij : i ≤ j) (hj : j < b) : lt d[j]! d[i]! = false := by
  rcases Nat.lt_or_eq_of_le hij with h1 | h1
  · exact h i j hi h1 hj
  · subst h1; exact hS.irrefl _
theorem Cross.left {a m b : Nat} {d e : Array α} (hm : m ≤ d.size) (h : Cross lt a m b d) (hp : PermIn a m d e) : Cross lt a m b e := fun i j h1 h2 h3 h4 => by
  rw [hp.2.1 j (by omega)]
  exact permIn_all d e a m (fun u => lt d[j]! u = false) hm hp (fun i h1 h2 => h i j h1 h2 h3 h4) i h1 h2
theorem Cross.right {a m b : Nat} {d e : Array α} (hb : b ≤ d.size) (h : Cross lt a m b d) (hp : PermIn m b d e) : Cross lt a m b e := fun i j h1 h2 h3 h4 => by
  rw [hp.2.1 i (by omega)]
  exact permIn_all d e m b (fun u => lt u d[i]! = false) hb hp (fun j h3 h4 => h i j h1 h2 h3 h4) j h3 h4
/-- less and not less: 'x < y ≤ z' -/
theorem lt_le {β : Type} {lt : β → β → Bool} (hS : SWO lt) {x y z : β} (h1 : lt x y = true) (h2 : lt z y = false) : lt x z = true := by
  cases hz : lt x z with
  | true => rfl
  | false =>
    -- z ≤ x, x < y: but y ≤ z
    have := hS.ntrans x z y hz h2
    rw [h1] at this; cases this
theorem le_lt {β : Type} {lt : β → β → Bool} (hS : SWO lt) {x y z : β} (h1 : lt y x = false) (h2 : lt y z = true) : lt x z = true := by
  cases hz : lt x z with
  | true => rfl
  | false =>
    have := hS.ntrans y x z h1 hz
    rw [h2] at this; cases this
/-- THE SEARCH OF symMerge: where it begins and ends -/
def symLo (a m b : Nat) : Nat := if m > (a + b) / 2 then (a + b) / 2 + m - b else a
def symHi (a m b : Nat) : Nat := if m > (a + b) / 2 then (a + b) / 2 else m
theorem sym_rng {a m b : Nat} (h1 : a < m) (h2 : m < b) : a ≤ symLo a m b ∧ symLo a m b ≤ symHi a m b ∧ symHi a m b ≤ m ∧ symHi a m b ≤ (a + b) / 2 ∧ (a + b) / 2 + m - symLo a m b ≤ b ∧ b ≤ (a + b) / 2 + m + (b - m) := by
  unfold symLo symHi; split <;> omega
/-- what is known of the place s that it finds -/
structure SymAt (lt : α → α → Bool) (a m b s : Nat) (d : Array α) : Prop where
  lo : symLo a m b ≤ s
  hi : s ≤ symHi a m b
  up : symLo a m b < s → lt d[(a + b) / 2 + m - s]! d[s - 1]! = false
  dn : s < symHi a m b → lt d[(a + b) / 2 + m - s - 1]! d[s]! = true
theorem sym_cross (hS : SWO lt) {a m b s : Nat} {d : Array α} (h1 : a < m) (h2 : m < b) (hl : SortedIn lt a m d) (hr : SortedIn lt m b d) (h : SymAt lt a m b s d) :
    ∀ x y, (a ≤ x ∧ x < s ∨ m ≤ x ∧ x < (a + b) / 2 + m - s) → (s ≤ y ∧ y < m ∨ (a + b) / 2 + m - s ≤ y ∧ y < b) → lt d[y]! d[x]! = false := by
  have hlo := h.lo
  have hhi := h.hi
  have hr0 := sym_rng h1 h2
  intro x y hx hy
  rcases hx with hx | hx <;> rcases hy with hy | hy
  · exact hl x y hx.1 (by omega) hy.2
  · have hs : symLo a m b < s := by
      rcases Nat.lt_or_eq_of_le hlo with e | e
      · exact e
      · exfalso; unfold symLo at e; split at e <;> omega
    have e1 := srt_le hS hl hx.1 (show x ≤ s - 1 by omega) (show s - 1 < m by omega)
    have e2 := h.up hs
    have e3 := srt_le hS hr (show m ≤ (a + b) / 2 + m - s by omega) hy.1 hy.2
    exact hS.ntrans _ _ _ e3 (hS.ntrans _ _ _ e2 e1)
  · have hs : s < symHi a m b := by
      rcases Nat.lt_or_eq_of_le hhi with e | e
      · exact e
      · exfalso; unfold symHi at e; split at e <;> omega
    have e1 := srt_le hS hr hx.1 (show x ≤ (a + b) / 2 + m - s - 1 by omega) (by omega)
    have e2 := hS.asymmA (h.dn hs)
    have e3 := srt_le hS hl (show a ≤ s by omega) hy.1 hy.2
    exact hS.ntrans _ _ _ e3 (hS.ntrans _ _ _ e2 e1)
  · exact hr x y hx.1 (by omega) hy.2
/-- behind the rotation: four runs, and the two halves part -/
structure SymCut (lt : α → α → Bool) (a m b s : Nat) (e : Array α) : Prop where
  r1 : SortedIn lt a s e
  r2 : SortedIn lt s ((a + b) / 2) e
  r3 : SortedIn lt ((a + b) / 2) ((a + b) / 2 + m - s) e
  r4 : SortedIn lt ((a + b) / 2 + m - s) b e
  cross : Cross lt a ((a + b) / 2) b e
theorem sym_cut (hS : SWO lt) {a m b s : Nat} {d e : Array α} (h1 : a < m) (h2 : m < b) (hl : SortedIn lt a m d) (hr : SortedIn lt m b d) (h : SymAt lt a m b s d)
    (he : ∀ x, e[x]! = d[rotS s m ((a + b) / 2 + m - s) x]!) : SymCut lt a m b s e := by
  have hc := sym_cross hS h1 h2 hl hr h
  have hlo := h.lo
  have hhi := h.hi
  have hr0 := sym_rng h1 h2
  have src : ∀ x, rotS s m ((a + b) / 2 + m - s) x = if x < s then x else if x < (a + b) / 2 then m + (x - s) else if x < (a + b) / 2 + m - s then x - ((a + b) / 2 - s) else x := by
    intro x; unfold rotS
    repeat' split
    all_goals omega
  refine ⟨?_, ?_, ?_, ?_, ?_⟩
  · intro i j hi hij hj
    rw [he, he, src, src, if_pos (by omega), if_pos (by omega)]
    exact hl i j hi hij (by omega)
  · intro i j hi hij hj
    rw [he, he, src, src, if_neg (by omega), if_pos (by omega), if_neg (by omega), if_pos (by omega)]
    exact hr _ _ (by omega) (by omega) (by omega)
  · intro i j hi hij hj
    rw [he, he, src, src, if_neg (by omega), if_neg (by omega), if_pos (by omega), if_neg (by omega), if_neg (by omega), if_pos (by omega)]
    exact hl _ _ (by omega) (by omega) (by omega)
  · intro i j hi hij hj
    rw [he, he, src, src, if_neg (by omega), if_neg (by omega), if_neg (by omega), if_neg (by omega), if_neg (by omega), if_neg (by omega)]
    exact hr _ _ (by omega) (by omega) (by omega)
  · intro i j hi him hmj hj
    rw [he, he]
    refine hc _ _ ?_ ?_
    · rw [src]
      by_cases his : i < s
      · rw [if_pos his]; exact .inl ⟨by omega, by omega⟩
      · rw [if_neg his, if_pos (by omega)]; exact .inr ⟨by omega, by omega⟩
    · rw [src, if_neg (by omega), if_neg (by omega)]
      split
      · exact .inl ⟨by omega, by omega⟩
      · exact .inr ⟨by omega, by omega⟩
/-- THE LEFT RUN HAS ONE ELEMENT: it goes behind all that are less -/
theorem ins_left (hS : SWO lt) {a b i : Nat} {d e : Array α} (hai : a + 1 ≤ i) (hib : i ≤ b) (hr : SortedIn lt (a + 1) b d) (hlt : ∀ x, a + 1 ≤ x → x < i → lt d[x]! d[a]! = true) (hge : ∀ x, i ≤ x → x < b → lt d[x]! d[a]! = false)
    (he : ∀ x, e[x]! = if a ≤ x ∧ x < i - 1 then d[x + 1]! else if x = i - 1 then d[a]! else d[x]!) : SortedIn lt a b e := by
  intro p q hp hpq hq
  rw [he, he]
  repeat' split
  all_goals first | omega | skip
  · exact hr _ _ (by omega) (by omega) (by omega)
  · exact hS.asymmA (hlt _ (by omega) (by omega))
  · exact hr _ _ (by omega) (by omega) (by omega)
  · exact hge _ (by omega) (by omega)
  · exact hr _ _ (by omega) (by omega) (by omega)
/-- THE RIGHT RUN HAS ONE ELEMENT: it goes ahead of all that are greater -/
theorem ins_right (hS : SWO lt) {a m i : Nat} {d e : Array α} (hai : a ≤ i) (him : i ≤ m) (hl : SortedIn lt a m d) (hle : ∀ x, a ≤ x → x < i → lt d[m]! d[x]! = false) (hgt : ∀ x, i ≤ x → x < m → lt d[m]! d[x]! = true)
    (he : ∀ x, e[x]! = if i < x ∧ x ≤ m then d[x - 1]! else if x = i then d[m]! else d[x]!) : SortedIn lt a (m + 1) e := by
  intro p q hp hpq hq
  rw [he, he]
  repeat' split
  all_goals first | omega | skip
  · exact hl _ _ (by omega) (by omega) (by omega)
  · exact hS.asymmA (hgt _ (by omega) (by omega))
  · exact hl _ _ (by omega) (by omega) (by omega)
  · exact hle _ (by omega) (by omega)
  · exact hl _ _ (by omega) (by omega) (by omega)
/-- one exchange to the right, one to the left -/
theorem shiftR_step {d e : Array α} {a k : Nat} (hs : e.size = d.size) (hk : k + 1 < d.size) (hak : a ≤ k) (h : ∀ x, e[x]! = if a ≤ x ∧ x < k then d[x + 1]! else if x = k then d[a]! else d[x]!) (x : Nat) :
    (swp e k (k + 1))[x]! = if a ≤ x ∧ x < k + 1 then d[x + 1]! else if x = k + 1 then d[a]! else d[x]! := by
  rw [swp_at e (by omega) (by omega), h, h, h]
  repeat' split
  all_goals first | omega | rfl | skip
  all_goals (congr 1; omega)
theorem shiftL_step {d e : Array α} {m k : Nat} (hs : e.size = d.size) (hm : m < d.size) (hkm : k + 1 ≤ m) (h : ∀ x, e[x]! = if k + 1 < x ∧ x ≤ m then d[x - 1]! else if x = k + 1 then d[m]! else d[x]!) (x : Nat) :
    (swp e (k + 1) k)[x]! = if k < x ∧ x ≤ m then d[x - 1]! else if x = k then d[m]! else d[x]! := by
  rw [swp_at e (by omega) (by omega), h, h, h]
  repeat' split
  all_goals first | omega | rfl | skip
  all_goals (congr 1; omega)
/-- BLOCKS: runs of bs elements each rise -/
def Blocks (lt : α → α → Bool) (bs n : Nat) (d : Array α) : Prop := ∀ q, SortedIn lt (q * bs) (min (q * bs + bs) n) d
/-- behind some rounds of a level: runs of 2 bs up to a, runs of bs from there -/
structure Level (lt : α → α → Bool) (bs n a : Nat) (d : Array α) : Prop where
  two : ∀ q, q * (2 * bs) + 2 * bs ≤ a → SortedIn lt (q * (2 * bs)) (q * (2 * bs) + 2 * bs) d
  one : ∀ q, a ≤ q * bs → SortedIn lt (q * bs) (min (q * bs + bs) n) d
theorem Level.start {bs n : Nat} {d : Array α} (hb : 0 < bs) (h : Blocks lt bs n d) : Level lt bs n 0 d := ⟨fun q hq => by omega, fun q _ => h q⟩
theorem Level.step {bs n q : Nat} {d e : Array α} (hb : 0 < bs) (h : Level lt bs n (q * (2 * bs)) d) (hn : q * (2 * bs) + 2 * bs ≤ n) (hp : PermIn (q * (2 * bs)) (q * (2 * bs) + 2 * bs) d e) (hs : SortedIn lt (q * (2 * bs)) (q * (2 * bs) + 2 * bs) e) :
    Level lt bs n ((q + 1) * (2 * bs)) e := by
  have e1 : (q + 1) * (2 * bs) = q * (2 * bs) + 2 * bs := by rw [Nat.add_mul, Nat.one_mul]
  rw [e1]
  refine ⟨fun p hpq => ?_, fun p hpq => ?_⟩
  · rcases Nat.lt_trichotomy p q with h1 | h1 | h1
    · have h2 : (p + 1) * (2 * bs) ≤ q * (2 * bs) := Nat.mul_le_mul_right _ h1
      rw [Nat.add_mul, Nat.one_mul] at h2
      exact srt_kept (h.two p h2) hp (.inl h2)
    · subst h1; exact hs
    · have h2 : (q + 1) * (2 * bs) ≤ p * (2 * bs) := Nat.mul_le_mul_right _ h1
      omega
  · exact srt_kept (h.one p (by omega)) hp (.inr hpq)
/-- the last round of a level -/
theorem Level.last {bs n q : Nat} {d e : Array α} (h : Level lt bs n (q * (2 * bs)) d) (hn : n < q * (2 * bs) + 2 * bs) (ha : q * (2 * bs) ≤ n) (hp : PermIn (q * (2 * bs)) n d e) (hs : SortedIn lt (q * (2 * bs)) n e) : Blocks lt (bs * 2) n e := by
  intro p
  rw [Nat.mul_comm bs 2]
  rcases Nat.lt_trichotomy p q with h1 | h1 | h1
  · have h2 : (p + 1) * (2 * bs) ≤ q * (2 * bs) := Nat.mul_le_mul_right _ h1
    rw [Nat.add_mul, Nat.one_mul] at h2
    exact srt_sub (srt_kept (h.two p h2) hp (.inl h2)) (Nat.le_refl _) (by omega)
  · subst h1; exact srt_sub hs (Nat.le_refl _) (by omega)
  · have h2 : (q + 1) * (2 * bs) ≤ p * (2 * bs) := Nat.mul_le_mul_right _ h1
    rw [Nat.add_mul, Nat.one_mul] at h2
    intro i j hi hij hj
    omega
theorem Level.runs {bs n q : Nat} {d : Array α} (h : Level lt bs n (q * (2 * bs)) d) : SortedIn lt (q * (2 * bs)) (min (q * (2 * bs) + bs) n) d ∧ SortedIn lt (q * (2 * bs) + bs) (min (q * (2 * bs) + bs + bs) n) d := by
  have e1 : 2 * q * bs = q * (2 * bs) := by rw [Nat.mul_comm 2 q, Nat.mul_assoc]
  have e2 : (2 * q + 1) * bs = q * (2 * bs) + bs := by rw [Nat.add_mul, Nat.one_mul, e1]
  have h1 := h.one (2 * q) (by omega)
  have h2 := h.one (2 * q + 1) (by omega)
  rw [e1] at h1
  rw [e2] at h2
  exact ⟨h1, h2⟩
theorem Blocks.done {bs n : Nat} {d : Array α} (h : Blocks lt bs n d) (hn : n ≤ bs) : SortedIn lt 0 n d := by
  have := h 0
  rw [Nat.zero_mul] at this
  exact srt_sub this (Nat.le_refl _) (by omega)
/-- THE FIRST LEVEL: blocks sorted by insertion -/
def First (lt : α → α → Bool) (bs a : Nat) (d : Array α) : Prop := ∀ q, q * bs + bs ≤ a → SortedIn lt (q * bs) (q * bs + bs) d
theorem First.step {bs q : Nat} {d e : Array α} (h : First lt bs (q * bs) d) (hp : PermIn (q * bs) (q * bs + bs) d e) (hs : SortedIn lt (q * bs) (q * bs + bs) e) : First lt bs ((q + 1) * bs) e := by
  have e1 : (q + 1) * bs = q * bs + bs := by rw [Nat.add_mul, Nat.one_mul]
  rw [e1]
  intro p hpq
  rcases Nat.lt_trichotomy p q with h1 | h1 | h1
  · have h2 : (p + 1) * bs ≤ q * bs := Nat.mul_le_mul_right _ h1
    rw [Nat.add_mul, Nat.one_mul] at h2
    exact srt_kept (h p h2) hp (.inl h2)
  · subst h1; exact hs
  · have h2 : (q + 1) * bs ≤ p * bs := Nat.mul_le_mul_right _ h1
    intro i j hi hij hj
    omega
theorem First.last {bs n q : Nat} {d e : Array α} (h : First lt bs (q * bs) d) (hn : n < q * bs + bs) (hp : PermIn (q * bs) n d e) (hs : SortedIn lt (q * bs) n e) : Blocks lt bs n e := by
  intro p
  rcases Nat.lt_trichotomy p q with h1 | h1 | h1
  · have h2 : (p + 1) * bs ≤ q * bs := Nat.mul_le_mul_right _ h1
    rw [Nat.add_mul, Nat.one_mul] at h2
    exact srt_sub (srt_kept (h p h2) hp (.inl h2)) (Nat.le_refl _) (by omega)
  · subst h1; exact srt_sub hs (Nat.le_refl _) (by omega)
  · have h2 : (q + 1) * bs ≤ p * bs := Nat.mul_le_mul_right _ h1
    rw [Nat.add_mul, Nat.one_mul] at h2
    intro i j hi hij hj
    omega
end Go.Proofs.YtlkpmbkmmfoakaaDoor

/- A ROW OF SHARES THAT IS SORTED IN PLACE: the worlds that such a sort passes through. -/
namespace Go.Proofs.YtlkpmbkmmfoakaaDoor
open Go.RowKit Go.Sort
theorem grown_transM {a b c : World} {row : Option Nat} (h : a.grownBy b row) (k : b.grownBy c row) : a.grownBy c row :=
  ⟨k.os.trans h.os, k.tape.trans h.tape, k.output.trans h.output, Nat.le_trans h.size k.size, fun i hi hne => (k.block i (Nat.lt_of_lt_of_le hi h.size) hne).trans (h.block i hi hne)⟩
theorem Ext.grownM {a b : World} (h : Ext a b) (row : Option Nat) : a.grownBy b row := ⟨h.os, h.tape, h.output, h.size, fun k hk _ => h.block k hk⟩
/-- block g holds the shares of d (and spare cells behind them); all other blocks of w0 are as they were -/
structure SortM (w0 : World) (B g cap : Nat) (t : TypeId) (d : Array Sh) (W : World) : Prop where
  gr : w0.grownBy W (some g)
  own : W.ownsRow B t 3 (.slice (some ⟨g, 0, none⟩) d.size cap) d.size (d.toList.flatMap Sh.cells)
theorem flat_set3 (l : List Sh) (j : Nat) (x : Sh) : (((l.flatMap Sh.cells).set (j * 3) (.int .i64 x.id)).set (j * 3 + 1) (.int .i64 x.n)).set (j * 3 + 2) (.int .i64 x.d) = (l.set j x).flatMap Sh.cells := by
  induction l generalizing j with
  | nil => rfl
  | cons y l ih =>
    cases j with
    | zero => rfl
    | succ j =>
      rw [List.flatMap_cons, List.set_cons_succ, List.flatMap_cons, ← ih j]
      simp only [Sh.cells, List.cons_append, List.nil_append, show (j + 1) * 3 = j * 3 + 1 + 1 + 1 by omega, List.set_cons_succ]
theorem flat_at3 (l : List Sh) (j i : Nat) (hj : j < l.length) (hi : i < 3) : (l.flatMap Sh.cells)[j * 3 + i]? = (Sh.cells l[j])[i]? := flat_get Sh.cells 3 (fun _ => rfl) l j i hj hi
section
variable {w0 : World} {B g cap : Nat} {t : TypeId} {d : Array Sh} {W : World}
theorem SortM.start (h : w0.ownsRow B t 3 (.slice (some ⟨g, 0, none⟩) d.size cap) d.size (d.toList.flatMap Sh.cells)) : SortM w0 B g cap t d w0 := ⟨World.grownBy.refl _ _, h⟩
theorem SortM.ext {W' : World} (h : SortM w0 B g cap t d W) (e : Ext W W') : SortM w0 B g cap t d W' := ⟨grown_transM h.gr (e.grownM _), own_ext h.own e⟩
theorem SortM.drew (h : SortM w0 B g cap t d W) : SortM w0 B g cap t d W.drew := h.ext ((Ext.refl _).drew)
theorem SortM.cell (h : SortM w0 B g cap t d W) {j : Nat} (hj : j < d.size) (i : Nat) (hi : i < 3) : W.cell? ⟨g, j * 3 + i, none⟩ = (Sh.cells d[j]!)[i]? := by
  rw [h.own.cellAt (j * 3 + i) (by omega), flat_at3 _ j i (by simpa using hj) hi]
  rw [getElem!_pos d j hj]; rfl
theorem SortM.cells (h : SortM w0 B g cap t d W) {j : Nat} (hj : j < d.size) : W.cell? ⟨g, j * 3, none⟩ = some (.int .i64 d[j]!.id) ∧ W.cell? ⟨g, j * 3 + 1, none⟩ = some (.int .i64 d[j]!.n) ∧ W.cell? ⟨g, j * 3 + 2, none⟩ = some (.int .i64 d[j]!.d) :=
  ⟨h.cell hj 0 (by omega), h.cell hj 1 (by omega), h.cell hj 2 (by omega)⟩
theorem SortM.frozen (h : SortM w0 B g cap t d W) (j : Nat) : W.frozen? ⟨g, j, none⟩ = false := h.own.frozenAt j
theorem SortM.set (h : SortM w0 B g cap t d W) (j : Nat) (x : Sh) : SortM w0 B g cap t (d.setIfInBounds j x) (((W.setCell ⟨g, j * 3, none⟩ (.int .i64 x.id)).setCell ⟨g, j * 3 + 1, none⟩ (.int .i64 x.n)).setCell ⟨g, j * 3 + 2, none⟩ (.int .i64 x.d)) := by
  obtain ⟨h1, k1⟩ := h.own.stored (j * 3) (.int .i64 x.id)
  obtain ⟨h2, k2⟩ := h1.stored (j * 3 + 1) (.int .i64 x.n)
  obtain ⟨h3, k3⟩ := h2.stored (j * 3 + 2) (.int .i64 x.d)
  refine ⟨grown_transM h.gr (grown_transM k1 (grown_transM k2 k3)), ?_⟩
  rw [flat_set3] at h3
  rw [Array.size_setIfInBounds, Array.toList_setIfInBounds]; exact h3
theorem SortM.swap (h : SortM w0 B g cap t d W) (i j : Nat) : SortM w0 B g cap t (swp d i j) ((((((W.setCell ⟨g, i * 3, none⟩ (.int .i64 d[j]!.id)).setCell ⟨g, i * 3 + 1, none⟩ (.int .i64 d[j]!.n)).setCell ⟨g, i * 3 + 2, none⟩ (.int .i64 d[j]!.d)).setCell ⟨g, j * 3, none⟩ (.int .i64 d[i]!.id)).setCell ⟨g, j * 3 + 1, none⟩ (.int .i64 d[i]!.n)).setCell ⟨g, j * 3 + 2, none⟩ (.int .i64 d[i]!.d)) := (h.set i d[j]!).set j d[i]!
/-- what is asked of the order -/
def CmpOkM (P : Program) (f : Nat) (cb : Array Value) (cf : Sh → Sh → Int) (w0 : World) (g : Nat) : Prop :=
  ∀ W, w0.grownBy W (some g) → ∀ x y : Sh, Calls P f (#[.agg #[.int .i64 x.id, .int .i64 x.n, .int .i64 x.d], .agg #[.int .i64 y.id, .int .i64 y.n, .int .i64 y.d]] ++ cb) W fun e W' => e = .returned (.int .i64 (cf x y)) ∧ Ext W W'
def ltM (cf : Sh → Sh → Int) (x y : Sh) : Bool := decide (cf x y < 0)
theorem ltM_t {cf : Sh → Sh → Int} {x y : Sh} (h : cf x y < 0) : ltM cf x y = true := decide_eq_true h
theorem ltM_f {cf : Sh → Sh → Int} {x y : Sh} (h : ¬ cf x y < 0) : ltM cf x y = false := decide_eq_false h
end
end Go.Proofs.YtlkpmbkmmfoakaaDoor

/- THE WALK over slices.insertionSortCmpFunc, at shares. -/
namespace Go.Proofs.YtlkpmbkmmfoakaaDoor
open Go.RowKit Go.Sort
set_option maxRecDepth 100000 in
set_option maxHeartbeats 1600000 in
theorem sm_insert (w0 : World) (B g cap : Nat) (cf : Sh → Sh → Int) (f : Nat) (cb : Array Value) (d : Array Sh) (a b : Nat) (w : World)
    (eg : ∀ args w, (callFunc f args).run Tryd.prog w = .ok (.enter f args) w) (hcmp : CmpOkM Tryd.prog f cb cf w0 g) (hS : SWO (ltM cf)) (hs : SortM w0 B g cap 42 d w) (hab : a ≤ b) (hb : b ≤ d.size) (hsz : d.size ≤ 8000000) :
    Calls Tryd.prog 80 #[.slice (some ⟨g, 0, none⟩) d.size cap, .int .i64 a, .int .i64 b, .func (.func f) #[] cb] w fun e w' => e = .returned (.tuple #[]) ∧ ∃ d', SortM w0 B g cap 42 d' w' ∧ PermIn a b d d' ∧ SortedIn (ltM cf) a b d' := by
  have HS := Lib.hid hs
  have HC := Lib.hid hcmp
  have HW := Lib.hid hS
  clear hs hcmp hS
  go_enter Tryd.func80, Tryd.ntmps80
  go_wp2
  go_loopw [8] (fun u W => ∃ (i : Nat) (e : Array Sh), u = .int .i64 i ∧ a < i ∧ Hid (i ≤ b ∨ i = a + 1) ∧ Hid (SortM w0 B g cap 42 e W) ∧ Hid (SortedIn (ltM cf) a i e) ∧ Hid (PermIn a b d e)) (fun u _ => b + 1 - (intOf u).toNat)
  case atStart => exact ⟨a + 1, d, by go_num, by omega, Lib.hid (.inr rfl), HS, Lib.hid (fun p q h1 h2 h3 => by omega), Lib.hid (permIn_refl _ _ _)⟩
  case round =>
    obtain ⟨i, e, rfl, hai, hib, he, hso, hp⟩ := hrel
    by_cases hlt : i < b
    · go_wp2_with fail
      go_loopw [9] (fun u W => ∃ (j : Nat) (e : Array Sh), u = .int .i64 j ∧ a ≤ j ∧ j ≤ i ∧ Hid (SortM w0 B g cap 42 e W) ∧ Hid (Ins (ltM cf) a j i e) ∧ Hid (PermIn a b d e)) (fun u _ => (intOf u).toNat)
      case atStart => exact ⟨i, e, rfl, by omega, Nat.le_refl _, he, Lib.hid ⟨fun p q hap hpq hqi _ hq => hso.out p q hap hpq (by omega), fun q h1 h2 => by omega⟩, hp⟩
      case round =>
        clear he hso hp hib
        obtain ⟨j, e, rfl, haj, hji, he, hin, hp⟩ := hrel
        have hes := hp.out.1
        by_cases hja : a < j
        · obtain ⟨jp, rfl⟩ : ∃ jp, j = jp + 1 := ⟨j - 1, by omega⟩
          obtain ⟨c10, c11, c12⟩ := he.out.cells (show jp + 1 < e.size by omega)
          obtain ⟨c20, c21, c22⟩ := he.out.cells (show jp < e.size by omega)
          have HN := Lib.hid (fun V (h : Ext wr V) => ((he.out.ext h).swap (jp + 1) jp).drew)
          have HX := Lib.hid (fun V (h : Ext wr V) => he.out.ext h)
          have HQ := Lib.hid (fun V (h : Ext wr V) => HC.out V (he.out.ext h).gr e[jp + 1]! e[jp]!)
          have HG := Lib.hid (fun (h : cf e[jp + 1]! e[jp]! < 0) => hin.out.step (ltM_t h) (by omega) (by omega))
          have HE := Lib.hid (fun (h : ¬ cf e[jp + 1]! e[jp]! < 0) => hin.out.stop HW.out (.inr (ltM_f h)))
          have HP := Lib.hid (permIn_trans _ _ _ a b hp.out (swp_permIn e a b (jp + 1) jp (by omega) (by omega) (by omega) (by omega) (by omega)))
          generalize cf e[jp + 1]! e[jp]! = z at *
          generalize e[jp + 1]! = x1 at *
          generalize e[jp]! = x2 at *
          have MK := Lib.hid (fun V (e : Ext wr V) => (⟨e.cell c10, e.cell c11, e.cell c12, e.cell c20, e.cell c21, e.cell c22, e⟩ : V.cell? ⟨g, (jp + 1) * 3, none⟩ = some (.int .i64 x1.id) ∧ V.cell? ⟨g, (jp + 1) * 3 + 1, none⟩ = some (.int .i64 x1.n) ∧ V.cell? ⟨g, (jp + 1) * 3 + 2, none⟩ = some (.int .i64 x1.d) ∧ V.cell? ⟨g, jp * 3, none⟩ = some (.int .i64 x2.id) ∧ V.cell? ⟨g, jp * 3 + 1, none⟩ = some (.int .i64 x2.n) ∧ V.cell? ⟨g, jp * 3 + 2, none⟩ = some (.int .i64 x2.d) ∧ Ext wr V))
          have hwp : IntKind.i64.wrap (jp : Int) = (jp : Int) := by rw [IntKind.wrap_i64]; omega
          have b1 : (jp : Int) + 1 < (d.size : Int) := by omega
          have b2 : (jp : Int) < (d.size : Int) := by omega
          have b3 : (0 : Int) ≤ (jp : Int) + 1 := by omega
          have b4 : ((jp : Int) + 1).toNat = jp + 1 := by omega
          have hjaz' : (a : Int) < (jp : Int) + 1 := by omega
          by_cases hz : z < 0
          · have hg := Lib.hid (HG.out hz)
            clear HG HE c10 c11 c12 c20 c21 c22
            go_wp2_with fail
            go_region_held3 (fun V => V.cell? ⟨g, (jp + 1) * 3, none⟩ = some (.int .i64 x1.id) ∧ V.cell? ⟨g, (jp + 1) * 3 + 1, none⟩ = some (.int .i64 x1.n) ∧ V.cell? ⟨g, (jp + 1) * 3 + 2, none⟩ = some (.int .i64 x1.d) ∧ V.cell? ⟨g, jp * 3, none⟩ = some (.int .i64 x2.id) ∧ V.cell? ⟨g, jp * 3 + 1, none⟩ = some (.int .i64 x2.n) ∧ V.cell? ⟨g, jp * 3 + 2, none⟩ = some (.int .i64 x2.d) ∧ Ext wr V) ((exact MK.out _ (by with_reducible repeat (first | exact Ext.refl _ | assumption | refine Ext.drew ?_ | refine Ext.drewN ?_ _ | refine Ext.alloc ?_ _)))) ((refine (HQ.out _ (by with_reducible repeat (first | exact Ext.refl _ | assumption | refine Ext.drew ?_ | refine Ext.drewN ?_ _ | refine Ext.alloc ?_ _))).mono ?_; rintro e w' ⟨rfl, hb⟩; replace hb : Ext wr w' := Ext.trans (by with_reducible repeat (first | exact Ext.refl _ | assumption | refine Ext.drew ?_ | refine Ext.drewN ?_ _ | refine Ext.alloc ?_ _)) hb))
            rename_i hHeld
            have hN := Lib.hid (HN.out w' hb)
            obtain ⟨g10, g11, g12, g20, g21, g22, -⟩ := hHeld
            have f10 := (HX.out w' hb).frozen ((jp + 1) * 3)
            have f11 := (HX.out w' hb).frozen ((jp + 1) * 3 + 1)
            have f12 := (HX.out w' hb).frozen ((jp + 1) * 3 + 2)
            have f20 := (HX.out w' hb).frozen (jp * 3)
            have f21 := (HX.out w' hb).frozen (jp * 3 + 1)
            have f22 := (HX.out w' hb).frozen (jp * 3 + 2)
            clear HN HX HQ MK
            have MKE := Lib.hid (fun V (e : Ext w' V) => (⟨e.cell g10, e.cell g11, e.cell g12, e.cell g20, e.cell g21, e.cell g22⟩ : V.cell? ⟨g, (jp + 1) * 3, none⟩ = some (.int .i64 x1.id) ∧ V.cell? ⟨g, (jp + 1) * 3 + 1, none⟩ = some (.int .i64 x1.n) ∧ V.cell? ⟨g, (jp + 1) * 3 + 2, none⟩ = some (.int .i64 x1.d) ∧ V.cell? ⟨g, jp * 3, none⟩ = some (.int .i64 x2.id) ∧ V.cell? ⟨g, jp * 3 + 1, none⟩ = some (.int .i64 x2.n) ∧ V.cell? ⟨g, jp * 3 + 2, none⟩ = some (.int .i64 x2.d)))
            go_upto_region 6 with (fail)
            refine AnyE.start (S := (fun V => V.cell? ⟨g, (jp + 1) * 3, none⟩ = some (.int .i64 x1.id) ∧ V.cell? ⟨g, (jp + 1) * 3 + 1, none⟩ = some (.int .i64 x1.n) ∧ V.cell? ⟨g, (jp + 1) * 3 + 2, none⟩ = some (.int .i64 x1.d) ∧ V.cell? ⟨g, jp * 3, none⟩ = some (.int .i64 x2.id) ∧ V.cell? ⟨g, jp * 3 + 1, none⟩ = some (.int .i64 x2.n) ∧ V.cell? ⟨g, jp * 3 + 2, none⟩ = some (.int .i64 x2.d))) (E := 15) (by kernel_rfl) ?hs1 (fun hHeld => ?go1)
            case hs1 => (exact MKE.out _ (by with_reducible repeat (first | exact Ext.refl _ | assumption | refine Ext.drew ?_ | refine Ext.drewN ?_ _ | refine Ext.alloc ?_ _)))
            refine AnyE.takeP (i := 0) (oi := ⟨(some 37), (.move (.tmp 0)), 22, "zsortanyfunc.go:13", #[], none⟩) (v := ?v2) rfl (by kernel_rfl) (by kernel_rfl) (by kernel_rfl) (fun _ _ _ h => h) rfl (Or.inl ⟨rfl, ?hy2⟩) (fun _ => hHeld) ?rest2
            case hy2 => (intro w _; go_simp <;> rfl)
            (try simp only [PU])
            refine AnyE.takeP (i := 1) (oi := ⟨(some 38), (.move (.tmp 9)), 3, "zsortanyfunc.go:13", #[], none⟩) (v := ?v3) rfl (by kernel_rfl) (by kernel_rfl) (by kernel_rfl) (fun _ _ _ h => h) rfl (Or.inl ⟨rfl, ?hy3⟩) (fun _ => hHeld) ?rest3
            case hy3 => (intro w _; go_simp <;> rfl)
            (try simp only [PU])
            refine AnyE.takeP (i := 2) (oi := ⟨(some 39), (.move (.tmp 0)), 22, "zsortanyfunc.go:13", #[⟨15, (.gcOnly Departure.lateStores)⟩], none⟩) (v := ?v4) rfl (by kernel_rfl) (by kernel_rfl) (by kernel_rfl) (fun _ _ _ h => h) rfl (Or.inl ⟨rfl, ?hy4⟩) (fun _ => hHeld) ?rest4
            case hy4 => (intro w _; go_simp <;> rfl)
            (try simp only [PU])
            refine AnyE.takeP (i := 3) (oi := ⟨(some 40), (.move (.tmp 9)), 3, "zsortanyfunc.go:13", #[⟨15, (.gcOnly Departure.lateStores)⟩], none⟩) (v := ?v5) rfl (by kernel_rfl) (by kernel_rfl) (by kernel_rfl) (fun _ _ _ h => h) rfl (Or.inl ⟨rfl, ?hy5⟩) (fun _ => hHeld) ?rest5
            case hy5 => (intro w _; go_simp <;> rfl)
            (try simp only [PU])
            refine AnyE.takeP (i := 4) (oi := ⟨(some 41), (.binOp .sub 3 (.tmp 40) (.const (.int .i64 1)) 3), 3, "zsortanyfunc.go:13", #[⟨3, .data⟩, ⟨15, (.gcOnly Departure.lateStores)⟩], none⟩) (v := ?v6) rfl (by kernel_rfl) (by kernel_rfl) (by kernel_rfl) (fun _ _ _ h => h) rfl (Or.inl ⟨rfl, ?hy6⟩) (fun _ => hHeld) ?rest6
            case hy6 => (intro w _; go_simp <;> first | with_reducible rfl | rw [if_neg (by omega)] | rw [if_pos (by omega)])
            (try simp only [PU])
            refine AnyE.takeP (i := 5) (oi := ⟨(some 42), (.move (.tmp 0)), 22, "zsortanyfunc.go:13", #[], none⟩) (v := ?v7) rfl (by kernel_rfl) (by kernel_rfl) (by kernel_rfl) (fun _ _ _ h => h) rfl (Or.inl ⟨rfl, ?hy7⟩) (fun _ => hHeld) ?rest7
            case hy7 => (intro w _; go_simp <;> rfl)
            (try simp only [PU])
            refine AnyE.takeP (i := 6) (oi := ⟨(some 43), (.move (.tmp 9)), 3, "zsortanyfunc.go:13", #[], none⟩) (v := ?v8) rfl (by kernel_rfl) (by kernel_rfl) (by kernel_rfl) (fun _ _ _ h => h) rfl (Or.inl ⟨rfl, ?hy8⟩) (fun _ => hHeld) ?rest8
            case hy8 => (intro w _; go_simp <;> rfl)
            (try simp only [PU])
            refine AnyE.takeP (i := 7) (oi := ⟨(some 44), (.binOp .sub 3 (.tmp 43) (.const (.int .i64 1)) 3), 3, "zsortanyfunc.go:13", #[⟨6, .data⟩], none⟩) (v := ?v9) rfl (by kernel_rfl) (by kernel_rfl) (by kernel_rfl) (fun _ _ _ h => h) rfl (Or.inl ⟨rfl, ?hy9⟩) (fun _ => hHeld) ?rest9
            case hy9 => (intro w _; go_simp <;> first | with_reducible rfl | rw [if_neg (by omega)] | rw [if_pos (by omega)])
            (try simp only [PU])
            refine AnyE.takeP (i := 8) (oi := ⟨(some 45), (.indexAddr 22 (.tmp 42) (.tmp 44)), 0, "zsortanyfunc.go:13", #[⟨5, .data⟩, ⟨7, .data⟩], none⟩) (v := ?v10) rfl (by kernel_rfl) (by kernel_rfl) (by kernel_rfl) (fun _ _ _ h => h) rfl (Or.inl ⟨rfl, ?hy10⟩) (fun _ => hHeld) ?rest10
            case hy10 => (intro w _; go_simp <;> first | with_reducible rfl | rw [if_neg (by omega)] | rw [if_pos (by omega)])
            (try simp only [PU])
            refine AnyE.take (i := 9) (oi := ⟨(some 46), (.load 42 (.tmp 45)), 42, "zsortanyfunc.go:13", #[⟨8, .data⟩], none⟩) (v := ?v11) rfl (by kernel_rfl) (by kernel_rfl) (by kernel_rfl) (fun _ _ _ h => h) (by kernel_rfl) rfl (by kernel_rfl) (Or.inl ⟨rfl, ?hy11⟩) hHeld ?rest11
            case hy11 => (intro w hSw; (try dsimp only at hSw); go_simp <;> first | with_reducible rfl | rw [if_neg (by omega)] | rw [if_pos (by omega)])
            (try simp only [PU])
            refine AnyE.takeP (i := 10) (oi := ⟨(some 47), (.move (.tmp 0)), 22, "zsortanyfunc.go:13", #[], none⟩) (v := ?v12) rfl (by kernel_rfl) (by kernel_rfl) (by kernel_rfl) (fun _ _ _ h => h) rfl (Or.inl ⟨rfl, ?hy12⟩) (fun _ => hHeld) ?rest12
            case hy12 => (intro w _; go_simp <;> rfl)
            (try simp only [PU])
            refine AnyE.takeP (i := 11) (oi := ⟨(some 48), (.move (.tmp 9)), 3, "zsortanyfunc.go:13", #[], none⟩) (v := ?v13) rfl (by kernel_rfl) (by kernel_rfl) (by kernel_rfl) (fun _ _ _ h => h) rfl (Or.inl ⟨rfl, ?hy13⟩) (fun _ => hHeld) ?rest13
            case hy13 => (intro w _; go_simp <;> rfl)
            (try simp only [PU])
            refine AnyE.takeP (i := 12) (oi := ⟨(some 49), (.indexAddr 22 (.tmp 47) (.tmp 48)), 0, "zsortanyfunc.go:13", #[⟨10, .data⟩, ⟨11, .data⟩], none⟩) (v := ?v14) rfl (by kernel_rfl) (by kernel_rfl) (by kernel_rfl) (fun _ _ _ h => h) rfl (Or.inl ⟨rfl, ?hy14⟩) (fun _ => hHeld) ?rest14
            case hy14 => (intro w _; go_simp <;> first | with_reducible rfl | rw [if_neg (by omega)] | rw [if_pos (by omega)])
            (try simp only [PU])
            refine AnyE.take (i := 13) (oi := ⟨(some 50), (.load 42 (.tmp 49)), 42, "zsortanyfunc.go:13", #[⟨12, .data⟩], none⟩) (v := ?v15) rfl (by kernel_rfl) (by kernel_rfl) (by kernel_rfl) (fun _ _ _ h => h) (by kernel_rfl) rfl (by kernel_rfl) (Or.inl ⟨rfl, ?hy15⟩) hHeld ?rest15
            case hy15 => (intro w hSw; (try dsimp only at hSw); go_simp <;> first | with_reducible rfl | rw [if_neg (by omega)] | rw [if_pos (by omega)])
            (try simp only [PU])
            refine AnyE.takeP (i := 14) (oi := ⟨(some 51), (.indexAddr 22 (.tmp 37) (.tmp 38)), 0, "zsortanyfunc.go:13", #[⟨0, .data⟩, ⟨1, .data⟩, ⟨0, .phase⟩, ⟨1, .phase⟩, ⟨2, (.textOnly Departure.lateStores)⟩, ⟨3, (.textOnly Departure.lateStores)⟩, ⟨4, (.textOnly Departure.lateStores)⟩, ⟨5, .phase⟩, ⟨6, .phase⟩, ⟨7, .phase⟩, ⟨8, .phase⟩, ⟨9, .phase⟩, ⟨10, (.textOnly Departure.lateStores)⟩, ⟨11, (.textOnly Departure.lateStores)⟩, ⟨12, (.textOnly Departure.lateStoresUnsure)⟩, ⟨13, .phase⟩], none⟩) (v := ?v16) rfl (by kernel_rfl) (by kernel_rfl) (by kernel_rfl) (fun _ _ _ h => h) rfl (Or.inl ⟨rfl, ?hy16⟩) (fun _ => hHeld) ?rest16
            case hy16 => (intro w _; go_simp <;> first | with_reducible rfl | rw [if_neg (by omega)] | rw [if_pos (by omega)])
            (try simp only [PU])
            refine AnyE.ready (rs := [15]) (by kernel_rfl) (by simp) ?_
            refine AllE.cons (o := ⟨none, (.store 42 (.tmp 51) (.tmp 46)), 0, "zsortanyfunc.go:13", #[⟨14, .data⟩, ⟨9, .data⟩, ⟨0, .phase⟩, ⟨1, .phase⟩, ⟨2, (.textOnly Departure.lateStores)⟩, ⟨3, (.textOnly Departure.lateStores)⟩, ⟨4, (.textOnly Departure.lateStores)⟩, ⟨5, .phase⟩, ⟨6, .phase⟩, ⟨7, .phase⟩, ⟨8, .phase⟩, ⟨9, .phase⟩, ⟨10, (.textOnly Departure.lateStores)⟩, ⟨11, (.textOnly Departure.lateStores)⟩, ⟨12, (.textOnly Departure.lateStoresUnsure)⟩, ⟨13, .phase⟩], none⟩) rfl (fun K hK => ?step17x0) ?more17x0
            case more17x0 => exact AllE.nil
            go_simp
            refine hK.out _ _ ?hS17x0 (fun hHeld17 => ?rest17x0)
            case hS17x0 => first | (intro h; exact absurd h (by decide)) | (intro h; simp at h)
            clear hK K
            clear hHeld
            refine AnyE.ready (rs := [16]) (by kernel_rfl) (by simp) ?_
            refine AllE.cons (o := ⟨(some 52), (.indexAddr 22 (.tmp 39) (.tmp 41)), 0, "zsortanyfunc.go:13", #[⟨2, .data⟩, ⟨4, .data⟩, ⟨0, .phase⟩, ⟨1, .phase⟩, ⟨2, .phase⟩, ⟨3, .phase⟩, ⟨4, .phase⟩, ⟨5, .phase⟩, ⟨6, .phase⟩, ⟨7, .phase⟩, ⟨8, .phase⟩, ⟨9, .phase⟩, ⟨10, .phase⟩, ⟨11, .phase⟩, ⟨12, .phase⟩, ⟨13, .phase⟩, ⟨14, .phase⟩, ⟨15, .phase⟩], none⟩) rfl (fun K hK => ?step18x0) ?more18x0
            case more18x0 => exact AllE.nil
            go_simp
            refine hK.out _ _ ?hS18x0 (fun hHeld18 => ?rest18x0)
            case hS18x0 => first | (intro h; exact absurd h (by decide)) | (intro h; simp at h)
            clear hK K
            clear hHeld17
            (try simp only [PU])
            refine AnyE.ready (rs := [17]) (by kernel_rfl) (by simp) ?_
            refine AllE.cons (o := ⟨none, (.store 42 (.tmp 52) (.tmp 50)), 0, "zsortanyfunc.go:13", #[⟨16, .data⟩, ⟨13, .data⟩, ⟨15, .chain⟩, ⟨0, .phase⟩, ⟨1, .phase⟩, ⟨2, .phase⟩, ⟨3, .phase⟩, ⟨4, .phase⟩, ⟨5, .phase⟩, ⟨6, .phase⟩, ⟨7, .phase⟩, ⟨8, .phase⟩, ⟨9, .phase⟩, ⟨10, .phase⟩, ⟨11, .phase⟩, ⟨12, .phase⟩, ⟨13, .phase⟩, ⟨14, .phase⟩, ⟨15, .phase⟩], none⟩) rfl (fun K hK => ?step19x0) ?more19x0
            case more19x0 => exact AllE.nil
            go_simp
            refine hK.out _ _ ?hS19x0 (fun hHeld19 => ?rest19x0)
            case hS19x0 => first | (intro h; exact absurd h (by decide)) | (intro h; simp at h)
            clear hK K
            clear hHeld18
            refine AnyE.done (by kernel_rfl) ?_ _
            clear hHeld19
            go_wp2_with fail

            go_roundw
            case rel => exact ⟨jp, swp e (jp + 1) jp, by first | rfl | go_num, by omega, by omega, hN, hg, HP⟩
            case measure => simp [intOf]
          · have he := Lib.hid (HE.out hz)
            clear HG HE HN c10 c11 c12 c20 c21 c22
            go_wp2_with fail
            go_region_held3 (fun V => V.cell? ⟨g, (jp + 1) * 3, none⟩ = some (.int .i64 x1.id) ∧ V.cell? ⟨g, (jp + 1) * 3 + 1, none⟩ = some (.int .i64 x1.n) ∧ V.cell? ⟨g, (jp + 1) * 3 + 2, none⟩ = some (.int .i64 x1.d) ∧ V.cell? ⟨g, jp * 3, none⟩ = some (.int .i64 x2.id) ∧ V.cell? ⟨g, jp * 3 + 1, none⟩ = some (.int .i64 x2.n) ∧ V.cell? ⟨g, jp * 3 + 2, none⟩ = some (.int .i64 x2.d) ∧ Ext wr V) ((exact MK.out _ (by with_reducible repeat (first | exact Ext.refl _ | assumption | refine Ext.drew ?_ | refine Ext.drewN ?_ _ | refine Ext.alloc ?_ _)))) ((refine (HQ.out _ (by with_reducible repeat (first | exact Ext.refl _ | assumption | refine Ext.drew ?_ | refine Ext.drewN ?_ _ | refine Ext.alloc ?_ _))).mono ?_; rintro e w' ⟨rfl, hb⟩; replace hb : Ext wr w' := Ext.trans (by with_reducible repeat (first | exact Ext.refl _ | assumption | refine Ext.drew ?_ | refine Ext.drewN ?_ _ | refine Ext.alloc ?_ _)) hb))
            have hN := Lib.hid (HX.out w' hb)
            clear HX HQ MK
            go_wp2
            go_roundw
            case rel => exact ⟨i + 1, e, by go_num, by omega, Lib.hid (.inl (by omega)), hN, he, hp⟩
            case measure => simp [intOf]; omega
        · have hja2 : j = a := by omega
          subst hja2
          have HE := Lib.hid (hin.out.stop HW.out (.inl (Nat.le_refl _)))
          have hjaz : decide ((j : Int) > (j : Int)) = false := decide_eq_false (by omega)
          go_wp2_with fail
          go_big_region
          all_goals go_wp2
          all_goals go_roundw
          case rel => exact ⟨i + 1, e, by go_num, by omega, Lib.hid (.inl (by omega)), Lib.hid he.out.drew, HE, hp⟩
          case measure => simp [intOf]; omega
    · have HE := Lib.hid (show SortedIn (ltM cf) a b e from by
        rcases hib.out with h | h
        · have : i = b := by omega
          subst this; exact hso.out
        · intro p q h1 h2 h3; omega)
      go_wp2
      go_end0
      exact ⟨rfl, e, he.out, hp.out, HE.out⟩
end Go.Proofs.YtlkpmbkmmfoakaaDoor

/- THE WALKS over slices.swapRangeCmpFunc, rotateCmpFunc, at shares. -/
namespace Go.Proofs.YtlkpmbkmmfoakaaDoor
open Go.RowKit Go.Sort
set_option maxRecDepth 100000 in
set_option maxHeartbeats 1600000 in
theorem sm_range (w0 : World) (B g cap : Nat) (d : Array Sh) (a b n : Nat) (fv : Value) (w : World) (hs : SortM w0 B g cap 42 d w) (hab : a + n ≤ b) (hb : b + n ≤ d.size) (hsz : d.size ≤ 8000000) (lo hi : Nat) (hlo : lo ≤ a) (hhi : b + n ≤ hi) (hhs : hi ≤ d.size) :
    Calls Tryd.prog 106 #[.slice (some ⟨g, 0, none⟩) d.size cap, .int .i64 a, .int .i64 b, .int .i64 n, fv] w fun e w' => e = .returned (.tuple #[]) ∧ ∃ d', SortM w0 B g cap 42 d' w' ∧ d'.size = d.size ∧ (∀ x, d'[x]! = d[swS a b n x]!) ∧ PermIn lo hi d d' := by
  have HS := Lib.hid hs
  clear hs
  go_enter Tryd.func106, Tryd.ntmps106
  go_wp2
  go_loopw [10] (fun u W => ∃ (i : Nat) (e : Array Sh), u = .int .i64 i ∧ i ≤ n ∧ Hid (SortM w0 B g cap 42 e W) ∧ e.size = d.size ∧ Hid (∀ x, e[x]! = d[swS a b i x]!) ∧ Hid (PermIn lo hi d e)) (fun u _ => n - (intOf u).toNat)
  case atStart => exact ⟨0, d, rfl, Nat.zero_le _, HS, rfl, Lib.hid (fun x => by rw [swS_zero]), Lib.hid (permIn_refl _ _ _)⟩
  case round =>
    obtain ⟨i, e, rfl, hi', he, hes, hx, hp⟩ := hrel
    by_cases hlt : i < n
    · have HX := Lib.hid (swS_step d e hes hab hlt (by omega) hx.out)
      have HP := Lib.hid (permIn_trans _ _ _ lo hi hp.out (swp_permIn e lo hi (a + i) (b + i) (by omega) (by omega) (by omega) (by omega) (by omega)))
      have HZ := Lib.hid (size_swp e (a + i) (b + i))
      obtain ⟨c10, c11, c12⟩ := he.out.cells (show a + i < e.size by omega)
      obtain ⟨c20, c21, c22⟩ := he.out.cells (show b + i < e.size by omega)
      have f10 := he.out.frozen ((a + i) * 3)
      have f11 := he.out.frozen ((a + i) * 3 + 1)
      have f12 := he.out.frozen ((a + i) * 3 + 2)
      have f20 := he.out.frozen ((b + i) * 3)
      have f21 := he.out.frozen ((b + i) * 3 + 1)
      have f22 := he.out.frozen ((b + i) * 3 + 2)
      have HN := Lib.hid ((he.out.swap (a + i) (b + i)).drew)
      generalize e[a + i]! = x1 at *
      generalize e[b + i]! = x2 at *
      have MKE := Lib.hid (fun V (e : Ext wr V) => (⟨e.cell c10, e.cell c11, e.cell c12, e.cell c20, e.cell c21, e.cell c22⟩ : V.cell? ⟨g, (a + i) * 3, none⟩ = some (.int .i64 x1.id) ∧ V.cell? ⟨g, (a + i) * 3 + 1, none⟩ = some (.int .i64 x1.n) ∧ V.cell? ⟨g, (a + i) * 3 + 2, none⟩ = some (.int .i64 x1.d) ∧ V.cell? ⟨g, (b + i) * 3, none⟩ = some (.int .i64 x2.id) ∧ V.cell? ⟨g, (b + i) * 3 + 1, none⟩ = some (.int .i64 x2.n) ∧ V.cell? ⟨g, (b + i) * 3 + 2, none⟩ = some (.int .i64 x2.d)))
      have wa : IntKind.i64.wrap ((a : Int) + (i : Int)) = (a : Int) + (i : Int) := by rw [IntKind.wrap_i64]; omega
      have wb : IntKind.i64.wrap ((b : Int) + (i : Int)) = (b : Int) + (i : Int) := by rw [IntKind.wrap_i64]; omega
      have ta : ((a : Int) + (i : Int)).toNat = a + i := by omega
      have tb : ((b : Int) + (i : Int)).toNat = b + i := by omega
      have ba : (a : Int) + (i : Int) < (d.size : Int) := by omega
      have bb : (b : Int) + (i : Int) < (d.size : Int) := by omega
      have za : (0 : Int) ≤ (a : Int) + (i : Int) := by omega
      have zb : (0 : Int) ≤ (b : Int) + (i : Int) := by omega
      go_upto_region 3 with (fail)
      refine AnyE.start (S := (fun V => V.cell? ⟨g, (a + i) * 3, none⟩ = some (.int .i64 x1.id) ∧ V.cell? ⟨g, (a + i) * 3 + 1, none⟩ = some (.int .i64 x1.n) ∧ V.cell? ⟨g, (a + i) * 3 + 2, none⟩ = some (.int .i64 x1.d) ∧ V.cell? ⟨g, (b + i) * 3, none⟩ = some (.int .i64 x2.id) ∧ V.cell? ⟨g, (b + i) * 3 + 1, none⟩ = some (.int .i64 x2.n) ∧ V.cell? ⟨g, (b + i) * 3 + 2, none⟩ = some (.int .i64 x2.d))) (E := 21) (by kernel_rfl) ?hs1 (fun hHeld => ?go1)
      case hs1 => (exact MKE.out _ (by with_reducible repeat (first | exact Ext.refl _ | assumption | refine Ext.drew ?_ | refine Ext.drewN ?_ _ | refine Ext.alloc ?_ _)))
      refine AnyE.takeP (i := 0) (oi := ⟨(some 16), (.move (.tmp 0)), 22, "zsortanyfunc.go:331", #[], none⟩) (v := ?v2) rfl (by kernel_rfl) (by kernel_rfl) (by kernel_rfl) (fun _ _ _ h => h) rfl (Or.inl ⟨rfl, ?hy2⟩) (fun _ => hHeld) ?rest2
      case hy2 => (intro w _; go_simp <;> rfl)
      (try simp only [PU])
      refine AnyE.takeP (i := 1) (oi := ⟨(some 17), (.move (.tmp 1)), 3, "zsortanyfunc.go:331", #[], none⟩) (v := ?v3) rfl (by kernel_rfl) (by kernel_rfl) (by kernel_rfl) (fun _ _ _ h => h) rfl (Or.inl ⟨rfl, ?hy3⟩) (fun _ => hHeld) ?rest3
      case hy3 => (intro w _; go_simp <;> rfl)
      (try simp only [PU])
      refine AnyE.takeP (i := 2) (oi := ⟨(some 18), (.move (.tmp 10)), 3, "zsortanyfunc.go:331", #[], none⟩) (v := ?v4) rfl (by kernel_rfl) (by kernel_rfl) (by kernel_rfl) (fun _ _ _ h => h) rfl (Or.inl ⟨rfl, ?hy4⟩) (fun _ => hHeld) ?rest4
      case hy4 => (intro w _; go_simp <;> rfl)
      (try simp only [PU])
      refine AnyE.takeP (i := 3) (oi := ⟨(some 19), (.binOp .add 3 (.tmp 17) (.tmp 18) 3), 3, "zsortanyfunc.go:331", #[⟨1, .data⟩, ⟨2, .data⟩], none⟩) (v := ?v5) rfl (by kernel_rfl) (by kernel_rfl) (by kernel_rfl) (fun _ _ _ h => h) rfl (Or.inl ⟨rfl, ?hy5⟩) (fun _ => hHeld) ?rest5
      case hy5 => (intro w _; go_simp <;> first | with_reducible rfl | rw [if_neg (by omega)] | rw [if_pos (by omega)])
      (try simp only [PU])
      refine AnyE.takeP (i := 4) (oi := ⟨(some 20), (.move (.tmp 0)), 22, "zsortanyfunc.go:331", #[⟨21, (.gcOnly Departure.lateStores)⟩], none⟩) (v := ?v6) rfl (by kernel_rfl) (by kernel_rfl) (by kernel_rfl) (fun _ _ _ h => h) rfl (Or.inl ⟨rfl, ?hy6⟩) (fun _ => hHeld) ?rest6
      case hy6 => (intro w _; go_simp <;> rfl)
      (try simp only [PU])
      refine AnyE.takeP (i := 5) (oi := ⟨(some 21), (.move (.tmp 2)), 3, "zsortanyfunc.go:331", #[⟨21, (.gcOnly Departure.lateStores)⟩], none⟩) (v := ?v7) rfl (by kernel_rfl) (by kernel_rfl) (by kernel_rfl) (fun _ _ _ h => h) rfl (Or.inl ⟨rfl, ?hy7⟩) (fun _ => hHeld) ?rest7
      case hy7 => (intro w _; go_simp <;> rfl)
      (try simp only [PU])
      refine AnyE.takeP (i := 6) (oi := ⟨(some 22), (.move (.tmp 10)), 3, "zsortanyfunc.go:331", #[⟨21, (.gcOnly Departure.lateStores)⟩], none⟩) (v := ?v8) rfl (by kernel_rfl) (by kernel_rfl) (by kernel_rfl) (fun _ _ _ h => h) rfl (Or.inl ⟨rfl, ?hy8⟩) (fun _ => hHeld) ?rest8
      case hy8 => (intro w _; go_simp <;> rfl)
      (try simp only [PU])
      refine AnyE.takeP (i := 7) (oi := ⟨(some 23), (.binOp .add 3 (.tmp 21) (.tmp 22) 3), 3, "zsortanyfunc.go:331", #[⟨5, .data⟩, ⟨6, .data⟩, ⟨21, (.gcOnly Departure.lateStores)⟩], none⟩) (v := ?v9) rfl (by kernel_rfl) (by kernel_rfl) (by kernel_rfl) (fun _ _ _ h => h) rfl (Or.inl ⟨rfl, ?hy9⟩) (fun _ => hHeld) ?rest9
      case hy9 => (intro w _; go_simp <;> first | with_reducible rfl | rw [if_neg (by omega)] | rw [if_pos (by omega)])
      (try simp only [PU])
      refine AnyE.takeP (i := 8) (oi := ⟨(some 24), (.move (.tmp 0)), 22, "zsortanyfunc.go:331", #[], none⟩) (v := ?v10) rfl (by kernel_rfl) (by kernel_rfl) (by kernel_rfl) (fun _ _ _ h => h) rfl (Or.inl ⟨rfl, ?hy10⟩) (fun _ => hHeld) ?rest10
      case hy10 => (intro w _; go_simp <;> rfl)
      (try simp only [PU])
      refine AnyE.takeP (i := 9) (oi := ⟨(some 25), (.move (.tmp 2)), 3, "zsortanyfunc.go:331", #[], none⟩) (v := ?v11) rfl (by kernel_rfl) (by kernel_rfl) (by kernel_rfl) (fun _ _ _ h => h) rfl (Or.inl ⟨rfl, ?hy11⟩) (fun _ => hHeld) ?rest11
      case hy11 => (intro w _; go_simp <;> rfl)
      (try simp only [PU])
      refine AnyE.takeP (i := 10) (oi := ⟨(some 26), (.move (.tmp 10)), 3, "zsortanyfunc.go:331", #[], none⟩) (v := ?v12) rfl (by kernel_rfl) (by kernel_rfl) (by kernel_rfl) (fun _ _ _ h => h) rfl (Or.inl ⟨rfl, ?hy12⟩) (fun _ => hHeld) ?rest12
      case hy12 => (intro w _; go_simp <;> rfl)
      (try simp only [PU])
      refine AnyE.takeP (i := 11) (oi := ⟨(some 27), (.binOp .add 3 (.tmp 25) (.tmp 26) 3), 3, "zsortanyfunc.go:331", #[⟨9, .data⟩, ⟨10, .data⟩], none⟩) (v := ?v13) rfl (by kernel_rfl) (by kernel_rfl) (by kernel_rfl) (fun _ _ _ h => h) rfl (Or.inl ⟨rfl, ?hy13⟩) (fun _ => hHeld) ?rest13
      case hy13 => (intro w _; go_simp <;> first | with_reducible rfl | rw [if_neg (by omega)] | rw [if_pos (by omega)])
      (try simp only [PU])
      refine AnyE.takeP (i := 12) (oi := ⟨(some 28), (.indexAddr 22 (.tmp 24) (.tmp 27)), 0, "zsortanyfunc.go:331", #[⟨8, .data⟩, ⟨11, .data⟩], none⟩) (v := ?v14) rfl (by kernel_rfl) (by kernel_rfl) (by kernel_rfl) (fun _ _ _ h => h) rfl (Or.inl ⟨rfl, ?hy14⟩) (fun _ => hHeld) ?rest14
      case hy14 => (intro w _; go_simp <;> first | with_reducible rfl | rw [if_neg (by omega)] | rw [if_pos (by omega)])
      (try simp only [PU])
      refine AnyE.take (i := 13) (oi := ⟨(some 29), (.load 42 (.tmp 28)), 42, "zsortanyfunc.go:331", #[⟨12, .data⟩], none⟩) (v := ?v15) rfl (by kernel_rfl) (by kernel_rfl) (by kernel_rfl) (fun _ _ _ h => h) (by kernel_rfl) rfl (by kernel_rfl) (Or.inl ⟨rfl, ?hy15⟩) hHeld ?rest15
      case hy15 => (intro w hSw; (try dsimp only at hSw); go_simp <;> first | with_reducible rfl | rw [if_neg (by omega)] | rw [if_pos (by omega)])
      (try simp only [PU])
      refine AnyE.takeP (i := 14) (oi := ⟨(some 30), (.move (.tmp 0)), 22, "zsortanyfunc.go:331", #[], none⟩) (v := ?v16) rfl (by kernel_rfl) (by kernel_rfl) (by kernel_rfl) (fun _ _ _ h => h) rfl (Or.inl ⟨rfl, ?hy16⟩) (fun _ => hHeld) ?rest16
      case hy16 => (intro w _; go_simp <;> rfl)
      (try simp only [PU])
      refine AnyE.takeP (i := 15) (oi := ⟨(some 31), (.move (.tmp 1)), 3, "zsortanyfunc.go:331", #[], none⟩) (v := ?v17) rfl (by kernel_rfl) (by kernel_rfl) (by kernel_rfl) (fun _ _ _ h => h) rfl (Or.inl ⟨rfl, ?hy17⟩) (fun _ => hHeld) ?rest17
      case hy17 => (intro w _; go_simp <;> rfl)
      (try simp only [PU])
      refine AnyE.takeP (i := 16) (oi := ⟨(some 32), (.move (.tmp 10)), 3, "zsortanyfunc.go:331", #[], none⟩) (v := ?v18) rfl (by kernel_rfl) (by kernel_rfl) (by kernel_rfl) (fun _ _ _ h => h) rfl (Or.inl ⟨rfl, ?hy18⟩) (fun _ => hHeld) ?rest18
      case hy18 => (intro w _; go_simp <;> rfl)
      (try simp only [PU])
      refine AnyE.takeP (i := 17) (oi := ⟨(some 33), (.binOp .add 3 (.tmp 31) (.tmp 32) 3), 3, "zsortanyfunc.go:331", #[⟨15, .data⟩, ⟨16, .data⟩], none⟩) (v := ?v19) rfl (by kernel_rfl) (by kernel_rfl) (by kernel_rfl) (fun _ _ _ h => h) rfl (Or.inl ⟨rfl, ?hy19⟩) (fun _ => hHeld) ?rest19
      case hy19 => (intro w _; go_simp <;> first | with_reducible rfl | rw [if_neg (by omega)] | rw [if_pos (by omega)])
      (try simp only [PU])
      refine AnyE.takeP (i := 18) (oi := ⟨(some 34), (.indexAddr 22 (.tmp 30) (.tmp 33)), 0, "zsortanyfunc.go:331", #[⟨14, .data⟩, ⟨17, .data⟩], none⟩) (v := ?v20) rfl (by kernel_rfl) (by kernel_rfl) (by kernel_rfl) (fun _ _ _ h => h) rfl (Or.inl ⟨rfl, ?hy20⟩) (fun _ => hHeld) ?rest20
      case hy20 => (intro w _; go_simp <;> first | with_reducible rfl | rw [if_neg (by omega)] | rw [if_pos (by omega)])
      (try simp only [PU])
      refine AnyE.take (i := 19) (oi := ⟨(some 35), (.load 42 (.tmp 34)), 42, "zsortanyfunc.go:331", #[⟨18, .data⟩], none⟩) (v := ?v21) rfl (by kernel_rfl) (by kernel_rfl) (by kernel_rfl) (fun _ _ _ h => h) (by kernel_rfl) rfl (by kernel_rfl) (Or.inl ⟨rfl, ?hy21⟩) hHeld ?rest21
      case hy21 => (intro w hSw; (try dsimp only at hSw); go_simp <;> first | with_reducible rfl | rw [if_neg (by omega)] | rw [if_pos (by omega)])
      (try simp only [PU])
      refine AnyE.takeP (i := 20) (oi := ⟨(some 36), (.indexAddr 22 (.tmp 16) (.tmp 19)), 0, "zsortanyfunc.go:331", #[⟨0, .data⟩, ⟨3, .data⟩, ⟨0, .phase⟩, ⟨1, .phase⟩, ⟨2, .phase⟩, ⟨3, .phase⟩, ⟨4, (.textOnly Departure.lateStores)⟩, ⟨5, (.textOnly Departure.lateStores)⟩, ⟨6, (.textOnly Departure.lateStores)⟩, ⟨7, (.textOnly Departure.lateStores)⟩, ⟨8, .phase⟩, ⟨9, .phase⟩, ⟨10, .phase⟩, ⟨11, .phase⟩, ⟨12, .phase⟩, ⟨13, .phase⟩, ⟨14, (.textOnly Departure.lateStores)⟩, ⟨15, (.textOnly Departure.lateStores)⟩, ⟨16, (.textOnly Departure.lateStores)⟩, ⟨17, (.textOnly Departure.lateStores)⟩, ⟨18, (.textOnly Departure.lateStoresUnsure)⟩, ⟨19, .phase⟩], none⟩) (v := ?v22) rfl (by kernel_rfl) (by kernel_rfl) (by kernel_rfl) (fun _ _ _ h => h) rfl (Or.inl ⟨rfl, ?hy22⟩) (fun _ => hHeld) ?rest22
      case hy22 => (intro w _; go_simp <;> first | with_reducible rfl | rw [if_neg (by omega)] | rw [if_pos (by omega)])
      (try simp only [PU])
      refine AnyE.ready (rs := [21]) (by kernel_rfl) (by simp) ?_
      refine AllE.cons (o := ⟨none, (.store 42 (.tmp 36) (.tmp 29)), 0, "zsortanyfunc.go:331", #[⟨20, .data⟩, ⟨13, .data⟩, ⟨0, .phase⟩, ⟨1, .phase⟩, ⟨2, .phase⟩, ⟨3, .phase⟩, ⟨4, (.textOnly Departure.lateStores)⟩, ⟨5, (.textOnly Departure.lateStores)⟩, ⟨6, (.textOnly Departure.lateStores)⟩, ⟨7, (.textOnly Departure.lateStores)⟩, ⟨8, .phase⟩, ⟨9, .phase⟩, ⟨10, .phase⟩, ⟨11, .phase⟩, ⟨12, .phase⟩, ⟨13, .phase⟩, ⟨14, (.textOnly Departure.lateStores)⟩, ⟨15, (.textOnly Departure.lateStores)⟩, ⟨16, (.textOnly Departure.lateStores)⟩, ⟨17, (.textOnly Departure.lateStores)⟩, ⟨18, (.textOnly Departure.lateStoresUnsure)⟩, ⟨19, .phase⟩], none⟩) rfl (fun K hK => ?step23x0) ?more23x0
      case more23x0 => exact AllE.nil
      go_simp
      refine hK.out _ _ ?hS23x0 (fun hHeld23 => ?rest23x0)
      case hS23x0 => first | (intro h; exact absurd h (by decide)) | (intro h; simp at h)
      clear hK K
      clear hHeld
      refine AnyE.ready (rs := [22]) (by kernel_rfl) (by simp) ?_
      refine AllE.cons (o := ⟨(some 37), (.indexAddr 22 (.tmp 20) (.tmp 23)), 0, "zsortanyfunc.go:331", #[⟨4, .data⟩, ⟨7, .data⟩, ⟨0, .phase⟩, ⟨1, .phase⟩, ⟨2, .phase⟩, ⟨3, .phase⟩, ⟨4, .phase⟩, ⟨5, .phase⟩, ⟨6, .phase⟩, ⟨7, .phase⟩, ⟨8, .phase⟩, ⟨9, .phase⟩, ⟨10, .phase⟩, ⟨11, .phase⟩, ⟨12, .phase⟩, ⟨13, .phase⟩, ⟨14, .phase⟩, ⟨15, .phase⟩, ⟨16, .phase⟩, ⟨17, .phase⟩, ⟨18, .phase⟩, ⟨19, .phase⟩, ⟨20, .phase⟩, ⟨21, .phase⟩], none⟩) rfl (fun K hK => ?step24x0) ?more24x0
      case more24x0 => exact AllE.nil
      go_simp
      refine hK.out _ _ ?hS24x0 (fun hHeld24 => ?rest24x0)
      case hS24x0 => first | (intro h; exact absurd h (by decide)) | (intro h; simp at h)
      clear hK K
      clear hHeld23
      (try simp only [PU])
      refine AnyE.ready (rs := [23]) (by kernel_rfl) (by simp) ?_
      refine AllE.cons (o := ⟨none, (.store 42 (.tmp 37) (.tmp 35)), 0, "zsortanyfunc.go:331", #[⟨22, .data⟩, ⟨19, .data⟩, ⟨21, .chain⟩, ⟨0, .phase⟩, ⟨1, .phase⟩, ⟨2, .phase⟩, ⟨3, .phase⟩, ⟨4, .phase⟩, ⟨5, .phase⟩, ⟨6, .phase⟩, ⟨7, .phase⟩, ⟨8, .phase⟩, ⟨9, .phase⟩, ⟨10, .phase⟩, ⟨11, .phase⟩, ⟨12, .phase⟩, ⟨13, .phase⟩, ⟨14, .phase⟩, ⟨15, .phase⟩, ⟨16, .phase⟩, ⟨17, .phase⟩, ⟨18, .phase⟩, ⟨19, .phase⟩, ⟨20, .phase⟩, ⟨21, .phase⟩], none⟩) rfl (fun K hK => ?step25x0) ?more25x0
      case more25x0 => exact AllE.nil
      go_simp
      refine hK.out _ _ ?hS25x0 (fun hHeld25 => ?rest25x0)
      case hS25x0 => first | (intro h; exact absurd h (by decide)) | (intro h; simp at h)
      clear hK K
      clear hHeld24
      refine AnyE.done (by kernel_rfl) ?_ _
      clear hHeld25
      go_wp2_with fail
      go_roundw
      case rel => exact ⟨i + 1, swp e (a + i) (b + i), by go_num, by omega, HN, by rw [HZ.out]; exact hes, HX, HP⟩
      case measure => simp [intOf]; omega
    · have hk : i = n := by omega
      subst hk
      go_wp2
      go_end0
      exact ⟨rfl, e, he.out, hes, hx.out, hp.out⟩
set_option maxRecDepth 100000 in
set_option maxHeartbeats 1600000 in
theorem sm_rotate (w0 : World) (B g cap : Nat) (d : Array Sh) (a m b : Nat) (fv : Value) (w : World) (hs : SortM w0 B g cap 42 d w) (ham : a < m) (hmb : m < b) (hb : b ≤ d.size) (hsz : d.size ≤ 8000000) :
    Calls Tryd.prog 100 #[.slice (some ⟨g, 0, none⟩) d.size cap, .int .i64 a, .int .i64 m, .int .i64 b, fv] w fun e w' => e = .returned (.tuple #[]) ∧ ∃ d', SortM w0 B g cap 42 d' w' ∧ d'.size = d.size ∧ (∀ x, d'[x]! = d[rotS a m b x]!) ∧ PermIn a b d d' := by
  have HS := Lib.hid hs
  clear hs
  go_enter Tryd.func100, Tryd.ntmps100
  go_wp2
  go_loopw [10, 11] (fun u v W => ∃ (i j : Nat) (e : Array Sh), u = .int .i64 i ∧ v = .int .i64 j ∧ 0 < i ∧ 0 < j ∧ a + i ≤ m ∧ m + j ≤ b ∧ Hid (SortM w0 B g cap 42 e W) ∧ e.size = d.size ∧ Hid (∀ x, e[rotS (m - i) m (m + j) x]! = d[rotS a m b x]!) ∧ Hid (PermIn a b d e)) (fun u v _ => (intOf u + intOf v).toNat)
  case atStart => exact ⟨m - a, b - m, d, by go_num, by go_num, by omega, by omega, by omega, by omega, HS, rfl, Lib.hid (fun x => by rw [show m - (m - a) = a by omega, show m + (b - m) = b by omega]), Lib.hid (permIn_refl _ _ _)⟩
  case round =>
    obtain ⟨i, j, e, rfl, rfl, hi0, hj0, hia, hjb, he, hes, hx, hp⟩ := hrel
    rcases Nat.lt_trichotomy j i with hij | hij | hij
    · have HC := Lib.hid (sm_range w0 B g cap e (m - i) m j fv wr he.out (by omega) (by omega) (by omega) a b (by omega) (by omega) (by omega))
      rw [hes] at HC
      have HX := Lib.hid hx.out
      have im : i ≤ m := by omega
      have hmi : ((m - i : Nat) : Int) = (m : Int) - (i : Int) := by omega
      rw [hmi] at HC
      have hji : ((i - j : Nat) : Int) = (i : Int) - (j : Int) := by omega
      clear hx hmi
      go_wp2_with (go_at_call 106; refine (HC.out).mono ?_; rintro e' w' ⟨rfl, d', hs', hz', hx', hp'⟩; replace hs' := Lib.hid hs'; replace hx' := Lib.hid hx'; replace hp' := Lib.hid hp')
      go_roundw
      case rel => exact ⟨i - j, j, d', by rw [hji], rfl, by omega, hj0, by omega, hjb, hs', hz', Lib.hid (fun x => by rw [hx'.out, rotS_left im hij, HX.out]), Lib.hid (permIn_trans _ _ _ a b hp.out hp'.out)⟩
      case measure => simp [intOf]; omega
    · subst hij
      have HC := Lib.hid (sm_range w0 B g cap e (m - j) m j fv wr he.out (by omega) (by omega) (by omega) a b (by omega) (by omega) (by omega))
      rw [hes] at HC
      have im : j ≤ m := by omega
      have hmi : ((m - j : Nat) : Int) = (m : Int) - (j : Int) := by omega
      rw [hmi] at HC
      clear hmi
      go_wp2_with (go_at_call 106; refine (HC.out).mono ?_; rintro e' w' ⟨rfl, d', hs', hz', hx', hp'⟩; replace hs' := Lib.hid hs'; replace hx' := Lib.hid hx'; replace hp' := Lib.hid hp')
      go_end0
      exact ⟨rfl, d', hs'.out, hz', fun x => by rw [hx'.out, rotS_end im, hx.out], permIn_trans _ _ _ a b hp.out hp'.out⟩
    · have HC := Lib.hid (sm_range w0 B g cap e (m - i) (m + j - i) i fv wr he.out (by omega) (by omega) (by omega) a b (by omega) (by omega) (by omega))
      rw [hes] at HC
      have HX := Lib.hid hx.out
      have im : i ≤ m := by omega
      have hmi : ((m - i : Nat) : Int) = (m : Int) - (i : Int) := by omega
      have hmj : ((m + j - i : Nat) : Int) = (m : Int) + (j : Int) - (i : Int) := by omega
      rw [hmi, hmj] at HC
      have hji : ((j - i : Nat) : Int) = (j : Int) - (i : Int) := by omega
      clear hx hmi hmj
      go_wp2_with (go_at_call 106; refine (HC.out).mono ?_; rintro e' w' ⟨rfl, d', hs', hz', hx', hp'⟩; replace hs' := Lib.hid hs'; replace hx' := Lib.hid hx'; replace hp' := Lib.hid hp')
      go_roundw
      case rel => exact ⟨i, j - i, d', rfl, by rw [hji], hi0, by omega, hia, by omega, hs', hz', Lib.hid (fun x => by rw [hx'.out, rotS_right im hij, HX.out]), Lib.hid (permIn_trans _ _ _ a b hp.out hp'.out)⟩
      case measure => simp [intOf]; omega
end Go.Proofs.YtlkpmbkmmfoakaaDoor
