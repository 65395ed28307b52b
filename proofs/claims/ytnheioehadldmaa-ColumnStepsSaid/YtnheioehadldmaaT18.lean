/- PARTS OF THE WALKS, joined: CpD, CoW, CoX, CoY, CoZ, CpA. -/
import Derived.Test.YtnheioehadldmaaT17
import Derived.Test.YtnheioehadldmaaT11
import Derived.Laws.DeepNot64
import Derived.Test.YtnheioehadldmaaT12
import Derived.Test.YtnheioehadldmaaT14
/- THE WALK over column.Encode. -/
namespace Go.Proofs.Ytnheioehadldmaa
open Go.RowKit
set_option maxRecDepth 100000 in
set_option maxHeartbeats 6400000 in
theorem co_Encode (c : Col) (ok : Nat → Prop) (A B Cx D : Option Addr) (k0 k1 k2 k3 : Nat) (w : World) (hv : ColAt w ok A B Cx D c) (hm : c.tos.length ≤ 100000 ∧ c.nodes.length ≤ 100000) :
  Calls Try.prog 21 #[agC c A B Cx D k0 k1 k2 k3] w fun e w' => ∃ A' c', e = .returned (.slice A' (encR c).length c') ∧ (encR c).length ≤ c' ∧ Byts w' (fun b => w.heap.size ≤ b) A' (encR c) ∧ Ext w w' := by
 obtain ⟨q, w1, hq, hw1, ⟨a0, a1, a2, a3⟩, hx⟩ := box_col w c A B Cx D k0 k1 k2 k3 26
 have HW := Lib.hid hw1
 have HQ := Lib.hid hq
 have HX := Lib.hid hx
 have HBS := Lib.hid hx.le
 have hnl := hv.n.len
 have HV := Lib.hid (hv.ext hx)
 have HVA := Lib.hid (co_Valid c ok A B Cx D k0 k1 k2 k3 w1 (hv.ext hx) (by omega))
 obtain ⟨R, hR⟩ : ∃ R, R = encR c := ⟨_, rfl⟩
 rw [← hR]
 have HR1 := Lib.hid (fun (h : colB c = true) => (by rw [hR]; unfold encR; rw [if_pos h] : R = encC c))
 have HR0 := Lib.hid (fun (h : colB c = false) => (by rw [hR]; unfold encR; rw [if_neg (by rw [h]; exact Bool.false_ne_true)] : R = []))
 have HVP := Lib.hid (fun (h : colB c = true) => colB_iff.1 h)
 clear hw1 hq hv hx hR
 unfold agC at HVA ⊢
 go_enter Try.func21, Try.ntmps21
 go_upto_region 1 with (fail)
 rw [← HW.out, ← HQ.out]
 clear HW HQ
 cases hb : colB c
 ·rw [hb] at HVA
  have e := HR0.out hb
  subst e
  clear hb HR0 HR1 HVP
  go_wp2_with (go_at_call 12; ((with_reducible refine (HVA.out).mono ?_); rintro e w2 ⟨rfl, hx2⟩))
  go_ret
  exact ⟨none, 0, rfl, Nat.le_refl _, SliceR.nil _ _ _, HX.out.trans hx2⟩
 ·rw [hb] at HVA
  have HR := Lib.hid (HR1.out hb)
  have hV := HVP.out hb
  clear hb HR0 HR1 HVP
  have HPC := Lib.hid (fun W => co_PutUint c.nodes.length (by omega) W)
  by_cases hn0 : c.nodes.length = 0
  ·have hz : R = vi 0 := by
    rw [HR.out]; unfold encC; rw [hn0]; unfold rowsB; rw [List.range_zero, List.flatMap_nil, List.append_nil]
   subst hz
   clear HV HR hV hm HPC
   have HPC : Hid (∀ W, Calls Try.prog 43 #[.int .i64 0] W fun e w' => ∃ v, e = .returned v ∧ OB w' W.heap.size v (vi 0) ∧ Ext W w') := Lib.hid (fun W => co_PutUint 0 (by omega) W)
   generalize c.nodes.length = nl at *
   subst hn0
   go_upto_region 4 with (first | (go_at_call 12; ((with_reducible refine (HVA.out).mono ?_); rintro e w2 ⟨rfl, hx2⟩; replace a0 := hx2.cell a0; replace a1 := hx2.cell a1; replace a2 := hx2.cell a2; replace a3 := hx2.cell a3; clear HVA)) | (go_at_call 43; (go_loud (with_reducible refine (HPC.out _).mono ?_); rintro e w3 ⟨v3, rfl, hO3, hx3⟩; replace a0 := hx3.cell a0; have HO3 := Lib.hid hO3; clear HPC hO3)))
   go_wp2_with fail
   go_loopw [3, 20] (fun u3 u W => ∃ (_ : Nat), u3 = v3 ∧ u = .int .i64 0 ∧ Hid (Ext w3 W)) (fun _ _ _ => 0)
   case atStart => exact ⟨0, rfl, rfl, Lib.hid (by solve_by_elim [X0, X1, X2, X3])⟩
   case round =>
    obtain ⟨-, rfl, rfl, hE⟩ := hrel
    obtain ⟨A3, c3, rfl, hle, hB⟩ := OB.byts (OwnG.ext HO3.out hE.out) (by have := vi_len10 (u := 0) (by decide); omega)
    go_wp2_with fail
    go_ret
    exact ⟨A3, c3, rfl, hle, SliceR.mono hB (fun _ _ _ _ hx => ⟨Nat.le_trans HBS.out (Nat.le_trans hx2.le hx.1), hx.2⟩), ((HX.out.trans hx2).trans hx3).trans hE.out⟩
  ·have hS : ShapeC c := by
    rcases hV with ⟨h1, -⟩ | ⟨h1, -⟩
    ·exact absurd (by rw [h1]; rfl) hn0
    ·exact h1
   have hfl : c.nodes.length + 1 ≤ c.first.length := by have := hS.len; omega
   have hel : c.tos.length ≤ c.edges.length := by have := hS.same; omega
   have hlast := hS.lt (i := 0) (j := c.nodes.length) (by omega) (Nat.le_refl _)
   rw [hS.zero, hS.last] at hlast
   obtain ⟨bn, on, rfl, hcn⟩ := HV.out.n.2 (by omega)
   obtain ⟨bf, of, rfl, hcf⟩ := HV.out.f.2 (by omega)
   obtain ⟨bt, ot, rfl, hct⟩ := HV.out.t.2 (by omega)
   obtain ⟨be, oe, rfl, hce⟩ := HV.out.e.2 (by omega)
   have HN := Lib.hid (fun t (ht : t < c.nodes.length) W (e : Ext w1 W) => (by have h := (hcn t ht).2; rw [Nat.mul_one, ← getElem!_pos _ t ht] at h; exact e.cell h : W.cell? ⟨bn, on + t, none⟩ = some (.int .i64 c.nodes[t]!)))
   have HF := Lib.hid (fun t (ht : t < c.first.length) W (e : Ext w1 W) => (by have h := (hcf t ht).2; rw [Nat.mul_one, ← getElem!_pos _ t ht] at h; exact e.cell h : W.cell? ⟨bf, of + t, none⟩ = some (.int .i64 c.first[t]!)))
   have HT := Lib.hid (fun t (ht : t < c.tos.length) W (e : Ext w1 W) => (by have h := (hct t ht).2; rw [Nat.mul_one, ← getElem!_pos _ t ht] at h; exact e.cell h : W.cell? ⟨bt, ot + t, none⟩ = some (.int .i64 c.tos[t]!)))
   have HEE := Lib.hid (fun t (ht : t < c.edges.length) W (e : Ext w1 W) => (by have h := (hce t ht).2; rw [Nat.mul_one, ← getElem!_pos _ t ht] at h; exact e.cell h : W.cell? ⟨be, oe + t, none⟩ = some (.int .i64 c.edges[t]!)))
   have MKQ := Lib.hid (fun V (e : Ext w1 V) => (⟨e.cell a0, e.cell a1, e.cell a2, e.cell a3⟩ : (V.cell? ⟨q, 0, none⟩ = some (.slice (some ⟨bn, on, none⟩) c.nodes.length k0) ∧ V.cell? ⟨q, 1, none⟩ = some (.slice (some ⟨bf, of, none⟩) c.first.length k1) ∧ V.cell? ⟨q, 2, none⟩ = some (.slice (some ⟨bt, ot, none⟩) c.tos.length k2) ∧ V.cell? ⟨q, 3, none⟩ = some (.slice (some ⟨be, oe, none⟩) c.edges.length k3))))
   have HS := Lib.hid hS
   have HVV := Lib.hid hV
   have HZ := Lib.hid (by unfold prevN; rw [if_pos rfl] : (0 : Int) = prevN c 0)
   have HZE := Lib.hid (by rw [hS.zero]; rfl : (0 : Int) = prevE c c.first[0]!.toNat)
   clear hcn hcf hct hce HV hn0 hlast hS hV
   go_upto_region 4 with (first | (go_at_call 12; ((with_reducible refine (HVA.out).mono ?_); rintro e w2 ⟨rfl, hx2⟩; replace a0 := hx2.cell a0; replace a1 := hx2.cell a1; replace a2 := hx2.cell a2; replace a3 := hx2.cell a3; clear HVA)) | (go_at_call 43; ((with_reducible refine (HPC.out _).mono ?_); rintro e w3 ⟨v3, rfl, hO3, hx3⟩; replace a0 := hx3.cell a0; clear HPC)))
   have HO0 := Lib.hid (by rw [show rowsB c 0 = [] from rfl, List.append_nil]; exact OwnG.mono hO3 hx2.le : OB w3 w1.heap.size v3 (vi c.nodes.length ++ rowsB c 0))
   have HE0 := Lib.hid (hx2.trans hx3)
   clear hO3 hx2 hx3
   go_wp2_with fail
   go_loopw [3, 4, 5, 20] (fun u3 u4 u5 u W => ∃ (vO : Value) (i : Nat) (pn pe : Int), vO = u3 ∧ u4 = .int .i64 pn ∧ u5 = .int .i64 pe ∧ u = .int .i64 i ∧ i ≤ c.nodes.length ∧ Hid (pn = prevN c i) ∧ Hid (pe = prevE c c.first[i]!.toNat) ∧ Hid (OB W w1.heap.size vO (vi c.nodes.length ++ rowsB c i)) ∧ Hid (Ext w1 W)) (fun _ _ _ u _ => c.nodes.length - (intOf u).toNat)
   case atStart => exact ⟨_, 0, 0, 0, rfl, rfl, rfl, rfl, Nat.zero_le _, HZ, HZE, HO0, HE0⟩
   case round =>
    clear HO0 HE0 HZ HZE a0 a1 a2 a3
    obtain ⟨vO, i, pn, pe, rfl, rfl, rfl, rfl, hi, HPN0, HPE0, HO, hE⟩ := hrel
    by_cases hlt : i < c.nodes.length
    ·obtain ⟨nv, hnv⟩ : ∃ nv, nv = c.nodes[i]! := ⟨_, rfl⟩
     have n0 := HN.out i hlt wr hE.out
     rw [← hnv] at n0
     have f0 := HF.out i (by omega) wr hE.out
     have hi1 : i + 1 < c.first.length := by omega
     have hi0 : i < c.first.length := by omega
     obtain ⟨x, hx⟩ : ∃ x : Nat, x = c.first[i]!.toNat := ⟨_, rfl⟩
     obtain ⟨y, hy⟩ : ∃ y : Nat, y = c.first[i + 1]!.toNat := ⟨_, rfl⟩
     have ex : c.first[i]! = (x : Int) := by have := HS.out.nn (i := i) (by omega); omega
     have ey : c.first[i + 1]! = (y : Int) := by have := HS.out.nn (i := i + 1) (by omega); omega
     have hxy : x ≤ y := by have := HS.out.rise i hlt; omega
     have hyt : y ≤ c.tos.length := by have := HS.out.le (i := i + 1) (by omega); omega
     have hnb := nb_node HVV.out hlt
     obtain ⟨dn, hdn⟩ : ∃ dn : Nat, dn = (c.nodes[i]! - prevN c i).toNat := ⟨_, rfl⟩
     obtain ⟨dm, hdm⟩ : ∃ dm : Nat, dm = y - x := ⟨_, rfl⟩
     have hdl : dn ≤ 1000000 := by omega
     have hml : dm ≤ 1000000 := by omega
     have wi : IntKind.i64.wrap ((i : Int) + 1) = ((i + 1 : Nat) : Int) := by rw [IntKind.wrap_i64]; omega
     have wd : IntKind.i64.wrap (nv - pn) = (dn : Int) := by rw [IntKind.wrap_i64, HPN0.out, hnv]; omega
     have wm : IntKind.i64.wrap ((y : Int) - (x : Int)) = (dm : Int) := by rw [IntKind.wrap_i64]; omega
     have HPN := Lib.hid (fun W => co_PutUint dn (by omega) W)
     have HPF := Lib.hid (fun W => co_PutUint dm (by omega) W)
     have HHD := Lib.hid (by unfold hdB; rw [← hdn, ← hx, ← hy, ← hdm] : hdB c i = vi dn ++ vi dm)
     have hln := vi_len10 (u := c.nodes.length) (by omega)
     have hld := vi_len10 (u := dn) (by omega)
     have hlm := vi_len10 (u := dm) (by omega)
     have hrl := rowsB_len HVV.out HS.out (by omega) hi
     rw [← hx] at hrl
     have hl1 : (vi c.nodes.length ++ rowsB c i).length + (vi dn).length ≤ 8388608 := by rw [List.length_append]; omega
     have hl2 : ((vi c.nodes.length ++ rowsB c i) ++ vi dn).length + (vi dm).length ≤ 8388608 := by rw [List.length_append, List.length_append]; omega
     have hl3 : ((vi c.nodes.length ++ rowsB c i) ++ hdB c i).length ≤ 4000100 := by rw [HHD.out, List.length_append, List.length_append, List.length_append]; omega
     have HFI := Lib.hid (fun W (e : Ext w1 W) => (by have h := HF.out i hi0 W e; rw [ex] at h; exact h : W.cell? ⟨bf, of + i, none⟩ = some (.int .i64 (x : Int))))
     have HFN := Lib.hid (fun W (e : Ext w1 W) => (by have h := HF.out (i + 1) hi1 W e; rw [ey] at h; exact h : W.cell? ⟨bf, of + (i + 1), none⟩ = some (.int .i64 (y : Int))))
     have HRS := Lib.hid (rows_succB c i)
     have HRB := Lib.hid (show rowB c i = hdB c i ++ entsB c i y by unfold rowB; rw [hy])
     have HE0S := Lib.hid (by rw [hx]; exact ents_start c i : entsB c i x = [])
     have HES := Lib.hid (fun k (hk : x ≤ k) => ents_snoc (c := c) (i := i) (k := k) (by omega))
     have HEL := Lib.hid (fun k (hk : x ≤ k) (hk2 : k ≤ y) => (by have h := entsB_len HVV.out hlt (k - x) (by omega); rw [← hx, show x + (k - x) = k by omega] at h; omega : (entsB c i k).length ≤ 20 * k))
     have HNB := Lib.hid (fun k (hk2 : k < y) => nb_ent HVV.out hlt (k := k) (by omega))
     have HPTS := Lib.hid (fun k (hk : x ≤ k) => prevT_succ (c := c) (i := i) (k := k) (by omega))
     have HPT0 := Lib.hid (by rw [hnv, hx]; exact (prevT_start c i).symm : nv = prevT c i x)
     have HPNS := Lib.hid (by rw [hnv]; exact (prevN_succ c i).symm : nv = prevN c (i + 1))
     have HPEX := Lib.hid (by rw [hx]; exact HPE0.out : pe = prevE c x)
     have HPEY := Lib.hid (by rw [hy] : prevE c y = prevE c c.first[i + 1]!.toNat)
     clear hnb hdn hdm hx hy ex ey hnv HPN0 HPE0 f0 hln hld hlm hrl
     go_upto_region 8 with (fail)
     clear n0
     go_upto_region 9 with (first | (go_at_call 43; ((with_reducible refine (HPN.out _).mono ?_); rintro e w2 ⟨v2, rfl, hO2, hx2⟩; have HO2 := Lib.hid hO2; clear hO2 HPN)) | (at_builtin; go_loud (refine own_catB rfl (.tmp 25) (.tmp 29) rfl rfl rfl (OwnG.ext HO.out hx2) (Nat.le_trans hE.out.le hx2.le) HO2.out hl1 ?_); intro v3 w3 hO3 hg3; have hE3 : Ext w1 w3 := (hE.out.trans hx2).grown hg3 (fun g e => (OwnG.lt HO.out e).1); have HO3 := Lib.hid hO3; have HE3 := Lib.hid hE3; clear hO3 hg3 hE3 hx2))
     have MF := Lib.hid (fun V (e : Ext w1 V) => (⟨(MKQ.out V e).2.1, HFI.out V e, HFN.out V e⟩ : V.cell? ⟨q, 1, none⟩ = some (.slice (some ⟨bf, of, none⟩) c.first.length k1) ∧ V.cell? ⟨bf, of + i, none⟩ = some (.int .i64 (x : Int)) ∧ V.cell? ⟨bf, of + (i + 1), none⟩ = some (.int .i64 (y : Int))))
     clear HO2
     refine wp_region_held_drew (S := (fun V => V.cell? ⟨q, 1, none⟩ = some (.slice (some ⟨bf, of, none⟩) c.first.length k1) ∧ V.cell? ⟨bf, of + i, none⟩ = some (.int .i64 (x : Int)) ∧ V.cell? ⟨bf, of + (i + 1), none⟩ = some (.int .i64 (y : Int)))) (by kernel_rfl) ?hs62001 (fun hHeld => ?go62001)
     case hs62001 => (first | exact MF.out _ (Ext.trans HE3.out (by solve_by_elim [X0, X1, X2, X3])) | exact MF.out _ (Ext.trans HE5.out (by solve_by_elim [X0, X1, X2, X3])))
     refine TK 0 (v := ?v62002) hHeld ?hy62002 ?_
     case hy62002 => (intro w hSw; (try dsimp only at hSw); go_simp <;> first | with_reducible rfl | rw [if_neg (by omega)] | rw [if_pos (by omega)])
     (try simp only [PU])
     refine TK 1 (v := ?v62003) hHeld ?hy62003 ?_
     case hy62003 => (intro w hSw; (try dsimp only at hSw); go_simp <;> first | with_reducible rfl | rw [if_neg (by omega)] | rw [if_pos (by omega)])
     (try simp only [PU])
     refine TK 2 (v := ?v62004) hHeld ?hy62004 ?_
     case hy62004 => (intro w hSw; (try dsimp only at hSw); go_simp <;> first | with_reducible rfl | rw [if_neg (by omega)] | rw [if_pos (by omega)])
     (try simp only [PU])
     refine TK 3 (v := ?v62005) hHeld ?hy62005 ?_
     case hy62005 => (intro w hSw; (try dsimp only at hSw); go_simp <;> first | with_reducible rfl | rw [if_neg (by omega)] | rw [if_pos (by omega)])
     (try simp only [PU])
     refine TK 4 (v := ?v62006) hHeld ?hy62006 ?_
     case hy62006 => (intro w hSw; (try dsimp only at hSw); go_simp <;> first | with_reducible rfl | rw [if_neg (by omega)] | rw [if_pos (by omega)])
     (try simp only [PU])
     refine TK 5 (v := ?v62007) hHeld ?hy62007 ?_
     case hy62007 => (intro w hSw; (try dsimp only at hSw); go_simp <;> first | with_reducible rfl | rw [if_neg (by omega)] | rw [if_pos (by omega)])
     (try simp only [PU])
     refine TK 6 (v := ?v62008) hHeld ?hy62008 ?_
     case hy62008 => (intro w hSw; (try dsimp only at hSw); go_simp <;> first | with_reducible rfl | rw [if_neg (by omega)] | rw [if_pos (by omega)])
     (try simp only [PU])
     refine TK 7 (v := ?v62009) hHeld ?hy62009 ?_
     case hy62009 => (intro w hSw; (try dsimp only at hSw); go_simp <;> first | with_reducible rfl | rw [if_neg (by omega)] | rw [if_pos (by omega)])
     (try simp only [PU])
     refine TK 8 (v := ?v62010) hHeld ?hy62010 ?_
     case hy62010 => (intro w hSw; (try dsimp only at hSw); go_simp <;> first | with_reducible rfl | rw [if_neg (by omega)] | rw [if_pos (by omega)])
     (try simp only [PU])
     refine TK 9 (v := ?v62011) hHeld ?hy62011 ?_
     case hy62011 => (intro w hSw; (try dsimp only at hSw); go_simp <;> first | with_reducible rfl | rw [if_neg (by omega)] | rw [if_pos (by omega)])
     (try simp only [PU])
     refine TK 10 (v := ?v62012) hHeld ?hy62012 ?_
     case hy62012 => (intro w hSw; (try dsimp only at hSw); go_simp <;> first | with_reducible rfl | rw [if_neg (by omega)] | rw [if_pos (by omega)])
     (try simp only [PU])
     refine TK 11 (v := ?v62013) hHeld ?hy62013 ?_
     case hy62013 => (intro w hSw; (try dsimp only at hSw); go_simp <;> first | with_reducible rfl | rw [if_neg (by omega)] | rw [if_pos (by omega)])
     (try simp only [PU])
     refine TK 12 (v := ?v62014) hHeld ?hy62014 ?_
     case hy62014 => (intro w hSw; (try dsimp only at hSw); go_simp <;> first | with_reducible rfl | rw [if_neg (by omega)] | rw [if_pos (by omega)])
     (try simp only [PU])
     refine wpAnyH_ready (rs := [13]) (by kernel_rfl) (by simp) ?_
     refine AllReadyH.cons (o := ⟨_, _, _, _, _, _⟩) rfl (fun K hK => ?step62015x0) ?more62015x0
     case more62015x0 => exact AllReadyH.nil
     go_simp
     (go_at_call 43; ((with_reducible refine (HPF.out _).mono ?_); rintro e w4 ⟨v4, rfl, hO4, hx4⟩; replace hx4 : Ext w3 w4 := Ext.trans (a := w3) (by solve_by_elim [X0, X1, X2, X3]) hx4; have HO4 := Lib.hid hO4; clear hO4 HPF))
     refine hK.out _ _ ?hS62015x0 (fun H62015 => ?_)
     case hS62015x0 => first | (first | exact MF.out _ (Ext.trans HE3.out (by solve_by_elim [X0, X1, X2, X3])) | exact MF.out _ (Ext.trans HE5.out (by solve_by_elim [X0, X1, X2, X3]))) | ((try dsimp only); (first | exact MF.out _ (Ext.trans HE3.out (by solve_by_elim [X0, X1, X2, X3])) | exact MF.out _ (Ext.trans HE5.out (by solve_by_elim [X0, X1, X2, X3]))))
     clear hK K
     clear hHeld
     (try simp only [PU])
     refine wpAnyH_ready (rs := [14]) (by kernel_rfl) (by simp) ?_
     refine AllReadyH.cons (o := ⟨_, _, _, _, _, _⟩) rfl (fun K hK => ?step62016x0) ?more62016x0
     case more62016x0 => exact AllReadyH.nil
     (refine step_catB rfl (.tmp 31) (.tmp 44) rfl rfl rfl (OwnG.ext HO3.out (by solve_by_elim [X0, X1, X2, X3])) (Nat.le_trans HE3.out.le (Ext.le (a := w3) (by solve_by_elim [X0, X1, X2, X3]))) (OwnG.ext HO4.out (by solve_by_elim [X0, X1, X2, X3])) hl2 ?_; intro v5 w5 hO5 hg5; have hE5 : Ext w1 w5 := (HE3.out.trans (show Ext w3 _ from (by solve_by_elim [X0, X1, X2, X3]))).grown hg5 (fun g e => (OwnG.lt HO3.out e).1); have HO5 := Lib.hid hO5; have HE5 := Lib.hid hE5; clear hO5 hg5 hE5 hx4)
     refine hK.out _ _ ?hS62016x0 (fun H62016 => ?_)
     case hS62016x0 => first | (first | exact MF.out _ (Ext.trans HE3.out (by solve_by_elim [X0, X1, X2, X3])) | exact MF.out _ (Ext.trans HE5.out (by solve_by_elim [X0, X1, X2, X3]))) | ((try dsimp only); (first | exact MF.out _ (Ext.trans HE3.out (by solve_by_elim [X0, X1, X2, X3])) | exact MF.out _ (Ext.trans HE5.out (by solve_by_elim [X0, X1, X2, X3]))))
     clear hK K
     clear H62015
     (try simp only [PU])
     refine TK 15 (v := ?v62017) H62016 ?hy62017 ?_
     case hy62017 => (intro w hSw; (try dsimp only at hSw); go_simp <;> first | with_reducible rfl | rw [if_neg (by omega)] | rw [if_pos (by omega)])
     (try simp only [PU])
     refine wpAnyH_done (by kernel_rfl) ?_ _
     clear H62016
     skip
     have HO0 := Lib.hid (by rw [HE0S.out, List.append_nil, HHD.out, ← List.append_assoc]; exact HO5.out : OB w5 w1.heap.size v5 (((vi c.nodes.length ++ rowsB c i) ++ hdB c i) ++ entsB c i x))
     have HE0 := HE5
     obtain ⟨a0, a1, a2, a3⟩ := MKQ.out w5 HE5.out
     have f0 := HFI.out w5 HE5.out
     clear HO HO3 HO5 hE HE3 HE5 HO4 hl1 hl2 MF
     go_wp2_with fail
     go_loopw [3, 5, 8, 9] (fun u3 u5 u8 u9 W => ∃ (vO : Value) (k : Nat) (pe pt : Int), vO = u3 ∧ u5 = .int .i64 pe ∧ u8 = .int .i64 pt ∧ u9 = .int .i64 k ∧ x ≤ k ∧ k ≤ y ∧ Hid (pe = prevE c k) ∧ Hid (pt = prevT c i k) ∧ Hid (OB W w1.heap.size vO (((vi c.nodes.length ++ rowsB c i) ++ hdB c i) ++ entsB c i k)) ∧ Hid (Ext w1 W)) (fun _ _ _ u _ => y - (intOf u).toNat)
     case atStart => exact ⟨_, x, pe, nv, rfl, rfl, rfl, rfl, Nat.le_refl _, hxy, HPEX, HPT0, HO0, HE0⟩
     case round =>
      clear HO0 HE0 a0 a1 a2 a3 f0 wd wm
      obtain ⟨vO, k, pe, pt, rfl, rfl, rfl, rfl, hxk, hky, HPE, HPT, HO, hE⟩ := hrel
      obtain ⟨a0, a1, a2, a3⟩ := MKQ.out wr hE.out
      have f1 := HFN.out wr hE.out
      by_cases hky' : k < y
      ·have hkt : k < c.tos.length := by omega
       have hke : k < c.edges.length := by omega
       have hnb := HNB.out k hky'
       obtain ⟨tv, htv⟩ : ∃ tv, tv = c.tos[k]! := ⟨_, rfl⟩
       obtain ⟨ev, hev⟩ : ∃ ev, ev = c.edges[k]! := ⟨_, rfl⟩
       have HCT := Lib.hid (fun W (e : Ext w1 W) => (by rw [htv]; exact HT.out k hkt W e : W.cell? ⟨bt, ot + k, none⟩ = some (.int .i64 tv)))
       have HCE := Lib.hid (fun W (e : Ext w1 W) => (by rw [hev]; exact HEE.out k hke W e : W.cell? ⟨be, oe + k, none⟩ = some (.int .i64 ev)))
       obtain ⟨d1, hd1⟩ : ∃ d1, d1 = tv - pt := ⟨_, rfl⟩
       obtain ⟨d2, hd2⟩ : ∃ d2, d2 = ev - pe := ⟨_, rfl⟩
       have e1 : c.tos[k]! - prevT c i k = d1 := by rw [hd1, htv, HPT.out]
       have e2 : c.edges[k]! - prevE c k = d2 := by rw [hd2, hev, HPE.out]
       have HSN := Lib.hid (by rw [HES.out k hxk]; unfold entB; rw [e1, e2]; simp only [List.append_assoc] : ((vi c.nodes.length ++ rowsB c i) ++ hdB c i) ++ entsB c i (k + 1) = ((((vi c.nodes.length ++ rowsB c i) ++ hdB c i) ++ entsB c i k) ++ vi (zig d1)) ++ vi (zig d2))
       rw [e1, e2] at hnb
       have h1a : -9223372036854775808 ≤ d1 ∧ d1 ≤ 9223372036854775807 := by omega
       have h2a : -9223372036854775808 ≤ d2 ∧ d2 ≤ 9223372036854775807 := by omega
       have wt : IntKind.i64.wrap (tv - pt) = d1 := by rw [IntKind.wrap_i64]; omega
       have we : IntKind.i64.wrap (ev - pe) = d2 := by rw [IntKind.wrap_i64]; omega
       have HPA := Lib.hid (fun W => co_PutInt d1 h1a W)
       have HPB := Lib.hid (fun W => co_PutInt d2 h2a W)
       have b1 := vi_len10 (zig_lt h1a)
       have b2 := vi_len10 (zig_lt h2a)
       have b3 := HEL.out k hxk hky
       have hl1 : (((vi c.nodes.length ++ rowsB c i) ++ hdB c i) ++ entsB c i k).length + (vi (zig d1)).length ≤ 8388608 := by rw [List.length_append]; omega
       have hl2 : ((((vi c.nodes.length ++ rowsB c i) ++ hdB c i) ++ entsB c i k) ++ vi (zig d1)).length + (vi (zig d2)).length ≤ 8388608 := by rw [List.length_append, List.length_append]; omega
       have HPE1 := Lib.hid (by rw [hev]; exact (prevE_succ c k).symm : ev = prevE c (k + 1))
       have HPT1 := Lib.hid (by rw [htv]; exact (HPTS.out k hxk).symm : tv = prevT c i (k + 1))
       have t0 := HCT.out wr hE.out
       clear e1 e2 hnb hd1 hd2 htv hev h1a h2a b1 b2 b3 HPE HPT
       go_upto_region 15 with (fail)
       clear f1
       go_upto_region 16 with (first | (go_at_call 44; ((with_reducible refine (HPA.out _).mono ?_); rintro e w4 ⟨v4, rfl, hO4, hx4⟩; have HO4 := Lib.hid hO4; clear hO4 HPA)) | (at_builtin; go_loud (refine own_catB rfl (.tmp 63) (.tmp 71) rfl rfl rfl (OwnG.ext HO.out hx4) (Nat.le_trans hE.out.le hx4.le) HO4.out hl1 ?_); intro v5 w5 hO5 hg5; have hE5 : Ext w1 w5 := (hE.out.trans hx4).grown hg5 (fun g e => (OwnG.lt HO.out e).1); have HO5 := Lib.hid hO5; have HE5 := Lib.hid hE5; clear hO5 hg5 hE5 hx4 HO4))
       clear a0 a1 a2 a3 t0
       obtain ⟨a0, a1, a2, a3⟩ := MKQ.out w5 HE5.out
       have t1 := HCE.out w5 HE5.out
       go_upto_region 17 with (first | (go_at_call 44; ((with_reducible refine (HPB.out _).mono ?_); rintro e w6 ⟨v6, rfl, hO6, hx6⟩; have HO6 := Lib.hid hO6; clear hO6 HPB)) | (at_builtin; go_loud (refine own_catB rfl (.tmp 73) (.tmp 81) rfl rfl rfl (OwnG.ext HO5.out hx6) (Nat.le_trans HE5.out.le hx6.le) HO6.out hl2 ?_); intro v7 w7 hO7 hg7; have hE7 : Ext w1 w7 := (HE5.out.trans hx6).grown hg7 (fun g e => (OwnG.lt HO5.out e).1); have HO7 := Lib.hid hO7; have HE7 := Lib.hid hE7; clear hO7 hg7 hE7 hx6 HO6))
       clear a0 a1 a2 a3 t1
       have MT := Lib.hid (fun V (e : Ext w7 V) => (⟨(MKQ.out V (HE7.out.trans e)).2.2.1, (MKQ.out V (HE7.out.trans e)).2.2.2, HCT.out V (HE7.out.trans e), HCE.out V (HE7.out.trans e)⟩ : V.cell? ⟨q, 2, none⟩ = some (.slice (some ⟨bt, ot, none⟩) c.tos.length k2) ∧ V.cell? ⟨q, 3, none⟩ = some (.slice (some ⟨be, oe, none⟩) c.edges.length k3) ∧ V.cell? ⟨bt, ot + k, none⟩ = some (.int .i64 tv) ∧ V.cell? ⟨be, oe + k, none⟩ = some (.int .i64 ev)))
       clear HO HO5 hE HE5 wt we
       refine wp_region_held_drew (S := (fun V => V.cell? ⟨q, 2, none⟩ = some (.slice (some ⟨bt, ot, none⟩) c.tos.length k2) ∧ V.cell? ⟨q, 3, none⟩ = some (.slice (some ⟨be, oe, none⟩) c.edges.length k3) ∧ V.cell? ⟨bt, ot + k, none⟩ = some (.int .i64 tv) ∧ V.cell? ⟨be, oe + k, none⟩ = some (.int .i64 ev))) (by kernel_rfl) ?hs62018 (fun hHeld => ?go62018)
       case hs62018 => (exact MT.out _ (by solve_by_elim [X0, X1, X2, X3]))
       refine TK 0 (v := ?v62019) hHeld ?hy62019 ?_
       case hy62019 => (intro w hSw; (try dsimp only at hSw); go_simp <;> first | with_reducible rfl | rw [if_neg (by omega)] | rw [if_pos (by omega)])
       (try simp only [PU])
       refine TK 1 (v := ?v62020) hHeld ?hy62020 ?_
       case hy62020 => (intro w hSw; (try dsimp only at hSw); go_simp <;> first | with_reducible rfl | rw [if_neg (by omega)] | rw [if_pos (by omega)])
       (try simp only [PU])
       refine TK 2 (v := ?v62021) hHeld ?hy62021 ?_
       case hy62021 => (intro w hSw; (try dsimp only at hSw); go_simp <;> first | with_reducible rfl | rw [if_neg (by omega)] | rw [if_pos (by omega)])
       (try simp only [PU])
       refine TK 3 (v := ?v62022) hHeld ?hy62022 ?_
       case hy62022 => (intro w hSw; (try dsimp only at hSw); go_simp <;> first | with_reducible rfl | rw [if_neg (by omega)] | rw [if_pos (by omega)])
       (try simp only [PU])
       refine TK 4 (v := ?v62023) hHeld ?hy62023 ?_
       case hy62023 => (intro w hSw; (try dsimp only at hSw); go_simp <;> first | with_reducible rfl | rw [if_neg (by omega)] | rw [if_pos (by omega)])
       (try simp only [PU])
       refine TK 5 (v := ?v62024) hHeld ?hy62024 ?_
       case hy62024 => (intro w hSw; (try dsimp only at hSw); go_simp <;> first | with_reducible rfl | rw [if_neg (by omega)] | rw [if_pos (by omega)])
       (try simp only [PU])
       refine TK 6 (v := ?v62025) hHeld ?hy62025 ?_
       case hy62025 => (intro w hSw; (try dsimp only at hSw); go_simp <;> first | with_reducible rfl | rw [if_neg (by omega)] | rw [if_pos (by omega)])
       (try simp only [PU])
       refine TK 7 (v := ?v62026) hHeld ?hy62026 ?_
       case hy62026 => (intro w hSw; (try dsimp only at hSw); go_simp <;> first | with_reducible rfl | rw [if_neg (by omega)] | rw [if_pos (by omega)])
       (try simp only [PU])
       refine TK 8 (v := ?v62027) hHeld ?hy62027 ?_
       case hy62027 => (intro w hSw; (try dsimp only at hSw); go_simp <;> first | with_reducible rfl | rw [if_neg (by omega)] | rw [if_pos (by omega)])
       (try simp only [PU])
       refine TK 9 (v := ?v62028) hHeld ?hy62028 ?_
       case hy62028 => (intro w hSw; (try dsimp only at hSw); go_simp <;> first | with_reducible rfl | rw [if_neg (by omega)] | rw [if_pos (by omega)])
       (try simp only [PU])
       refine TK 10 (v := ?v62029) hHeld ?hy62029 ?_
       case hy62029 => (intro w hSw; (try dsimp only at hSw); go_simp <;> first | with_reducible rfl | rw [if_neg (by omega)] | rw [if_pos (by omega)])
       (try simp only [PU])
       refine TK 11 (v := ?v62030) hHeld ?hy62030 ?_
       case hy62030 => (intro w hSw; (try dsimp only at hSw); go_simp <;> first | with_reducible rfl | rw [if_neg (by omega)] | rw [if_pos (by omega)])
       (try simp only [PU])
       refine wpAnyH_done (by kernel_rfl) ?_ _
       clear hHeld
       go_wp2_with fail
       go_roundw
       case rel => exact ⟨_, k + 1, ev, tv, rfl, rfl, rfl, by go_num, by omega, by omega, HPE1, HPT1, Lib.hid (by rw [HSN.out]; exact OwnG.ext HO7.out (by solve_by_elim [X0, X1, X2, X3])), Lib.hid (HE7.out.trans (by solve_by_elim [X0, X1, X2, X3]))⟩
       case measure => simp [intOf]; omega
      ·have hke : k = y := by omega
       have HPY := Lib.hid (by rw [HPE.out, hke]; exact HPEY.out : pe = prevE c c.first[i + 1]!.toNat)
       have HOF := Lib.hid (by rw [HRS.out, HRB.out, ← hke, ← List.append_assoc, ← List.append_assoc]; exact HO.out : OB wr w1.heap.size vO (vi c.nodes.length ++ rowsB c (i + 1)))
       clear hke HO HPE HPT
       go_wp2_with fail
       go_roundw
       case rel => exact ⟨_, i + 1, nv, pe, rfl, rfl, rfl, by go_num, by omega, HPNS, HPY, HOF, hE⟩
       case measure => simp [intOf]; omega
    ·have hke : i = c.nodes.length := by omega
     have HOF := Lib.hid (by rw [HR.out]; unfold encC; rw [hke] at HO; exact HO.out : OB wr w1.heap.size vO R)
     have hrl := rowsB_len HVV.out HS.out (by omega) (Nat.le_refl _)
     have hln := vi_len10 (u := c.nodes.length) (by omega)
     have hle2 := HS.out.le (Nat.le_refl c.nodes.length)
     have hRl : R.length ≤ 140737488355328 := by rw [HR.out]; unfold encC; rw [List.length_append]; omega
     obtain ⟨A3, c3, rfl, hle, hB⟩ := OB.byts HOF.out hRl
     have HB := Lib.hid hB
     clear hke HO HOF HR hrl hln hle2 hRl hB HPN0 HPE0
     go_wp2_with fail
     go_ret
     exact ⟨A3, c3, rfl, hle, SliceR.mono HB.out (fun _ _ _ _ hx => ⟨Nat.le_trans HBS.out hx.1, hx.2⟩), HX.out.trans hE.out⟩
end Go.Proofs.Ytnheioehadldmaa

/- THE WALK over codec.read. -/
namespace Go.Proofs.Ytnheioehadldmaa
open Go.RowKit
/-- what is read behind some bytes -/
def mapR (a m : Nat) : Except Int (Nat × List Nat) → Except Int (Nat × List Nat)
 | .ok (u, r) => .ok (a + m * u, r)
 | .error e => .error e
theorem rd_start (L : List Nat) : rdF 10 L = mapR 0 1 (rdF 10 L) := by
 cases rdF 10 L with
 | error e => rfl
 | ok p => show Except.ok p = Except.ok (0 + 1 * p.1, p.2); rw [Nat.zero_add, Nat.one_mul]
theorem rd_more {X : Except Int (Nat × List Nat)} {f a m c : Nat} {t : List Nat} (h : X = mapR a m (rdF (f + 1) (c :: t))) (hc : 128 ≤ c) : X = mapR (a + m * (c % 128)) (m * 128) (rdF f t) := by
 rw [h, rdF, if_pos hc]
 cases rdF f t with
 | error e => rfl
 | ok p =>
  show Except.ok (a + m * (c % 128 + 128 * p.1), p.2) = Except.ok (a + m * (c % 128) + m * 128 * p.1, p.2)
  rw [Nat.mul_add, Nat.add_assoc, Nat.mul_assoc]
theorem rd_many {X : Except Int (Nat × List Nat)} {a m : Nat} {t : List Nat} (h : X = mapR a m (rdF 0 t)) : X = .error 4 := by rw [h, rdF]; rfl
theorem rd_short {X : Except Int (Nat × List Nat)} {a m f : Nat} (h : X = mapR a m (rdF (f + 1) [])) : X = .error 3 := by rw [h, rdF]; rfl
theorem rd_long {X : Except Int (Nat × List Nat)} {a m c : Nat} {t : List Nat} (h : X = mapR a m (rdF 1 (c :: t))) (h1 : 1 < c) (h2 : c < 128) : X = .error 4 := by rw [h, rdF, if_neg (by omega), if_pos ⟨rfl, h1⟩]; rfl
theorem rd_zero {X : Except Int (Nat × List Nat)} {a m f : Nat} {t : List Nat} (h : X = mapR a m (rdF (f + 1) (0 :: t))) (hf : f < 9) : X = .error 2 := by rw [h, rdF, if_neg (by omega), if_neg (by omega), if_pos ⟨hf, rfl⟩]; rfl
theorem rd_ok {X : Except Int (Nat × List Nat)} {a m f c : Nat} {t : List Nat} (h : X = mapR a m (rdF (f + 1) (c :: t))) (h0 : c < 128) (h1 : ¬ (f = 0 ∧ 1 < c)) (h2 : ¬ (f < 9 ∧ c = 0)) : X = .ok (a + m * c, t) := by rw [h, rdF, if_neg (by omega), if_neg h1, if_neg h2]; rfl
/-- what codec.read gives -/
def readOut (N : Nat) (X : Except Int (Nat × List Nat)) (x y z : Int) : Prop := match X with
 | .ok (u, r) => x = (u : Int) ∧ y = (N : Int) - r.length ∧ z = 0
 | .error er => x ≤ 9223372036854775807 ∧ y = 0 ∧ z = er
theorem and127F : ∀ m : Fin 256, bits .and .u8 ((m.val : Nat) : Int) 127 = ((m.val % 128 : Nat) : Int) := by decide +kernel
theorem and127 {n : Nat} (h : n < 256) : bits .and .u8 (n : Int) 127 = ((n % 128 : Nat) : Int) := and127F ⟨n, h⟩
theorem or_part {a k d : Nat} (ha : a < 128 ^ k) (ha2 : a < 18446744073709551616) (hd : 128 ^ k * d < 18446744073709551616) : bits .or .u64 (a : Int) ((128 ^ k * d : Nat) : Int) = ((a + 128 ^ k * d : Nat) : Int) := by
 rw [u64_or_nat _ _ ha2 hd, Nat.or_comm, nat_join (7 * k) _ _ (by rw [Nat.pow_mul, show (2 : Nat) ^ 7 = 128 from rfl, Nat.mul_mod_right]) (by rw [Nat.pow_mul]; exact ha), Nat.add_comm]
theorem or_next {k a y : Nat} {n n' : Int} (hk : k ≤ 9) (h1 : n = (a : Int)) (h2 : a < 128 ^ k) (hn : n' = bits BinOp.or IntKind.u64 n (IntKind.u64.wrap ((y : Int) % 128 * 2 ^ (7 * k)))) (h : k ≤ 8 ∨ y % 128 ≤ 1) : n' = ((a + 128 ^ k * (y % 128) : Nat) : Int) ∧ a + 128 ^ k * (y % 128) < 128 ^ (k + 1) ∧ a + 128 ^ k * (y % 128) < 18446744073709551616 := by
 have hd : y % 128 < 128 := Nat.mod_lt _ (by decide)
 have h9 : 128 ^ k ≤ 128 ^ 9 := Nat.pow_le_pow_right (by decide) hk
 have hb : 128 ^ k * (y % 128) + 128 ^ k ≤ 18446744073709551616 := by
  rcases h with h | h
  ·have h8 : 128 ^ k ≤ 128 ^ 8 := Nat.pow_le_pow_right (by decide) h
   rw [← Nat.mul_succ]
   exact Nat.le_trans (Nat.mul_le_mul h8 (show y % 128 + 1 ≤ 128 by omega)) (by decide)
  ·rw [← Nat.mul_succ]
   exact Nat.le_trans (Nat.mul_le_mul h9 (show y % 128 + 1 ≤ 2 by omega)) (by decide)
 have e : ((y : Int) % 128 * 2 ^ (7 * k)) = ((128 ^ k * (y % 128) : Nat) : Int) := by
  rw [Int.natCast_mul, Int.mul_comm, Int.pow_mul]
  push_cast
  rfl
 have hw : IntKind.u64.wrap ((128 ^ k * (y % 128) : Nat) : Int) = ((128 ^ k * (y % 128) : Nat) : Int) := by rw [IntKind.wrap_u64]; omega
 refine ⟨?_, ?_, by omega⟩
 ·rw [hn, h1, e, hw, or_part h2 (by omega) (by omega)]
 ·rw [Nat.pow_succ]
  have : 128 ^ k * (y % 128) + 128 ^ k ≤ 128 ^ k * 128 := by rw [← Nat.mul_succ]; exact Nat.mul_le_mul_left _ (by omega)
  omega
theorem SliceR.behind {α : Type} {R : Nat → Nat → α → Prop} {A : Option Addr} {l : List α} (h : SliceR R 1 A l) (n : Nat) : SliceR R 1 (if l.length = n then A else A.map (fun x => x.add n)) (l.drop n) := by
 rcases Nat.lt_or_ge n l.length with h1 | h1
 ·obtain ⟨b, o, rfl, -⟩ := h.2 (by omega)
  rw [if_neg (by omega)]
  have := SliceR.drop h n
  rw [Nat.mul_one] at this
  show SliceR R 1 (some (Addr.add ⟨b, o, none⟩ n)) _
  rw [Addr.add_mid]
  exact this
 ·rw [List.drop_eq_nil_of_le (by omega)]
  exact SliceR.nil _ _ _
set_option maxRecDepth 100000 in
set_option maxHeartbeats 1600000 in
theorem co_read (l : List Nat) (ok : Nat → Prop) (A : Option Addr) (c at_ : Nat) (w : World) (hv : Byts w ok A l) (hb : ∀ x ∈ l, x < 256) (hc : l.length ≤ c) (ha : at_ ≤ l.length) :
  Calls Try.prog 68 #[.slice A l.length c, .int .i64 (at_ : Int)] w fun e w' => ∃ x y z : Int, e = .returned (.tuple #[.int .u64 x, .int .i64 y, .int .i64 z]) ∧ readOut l.length (rdF 10 (l.drop at_)) x y z ∧ Ext w w' := by
 have hlm := hv.1
 have hL := SliceR.behind hv at_
 have HBB := Lib.hid (fun x (hx : x ∈ l.drop at_) => hb x (List.mem_of_mem_drop hx))
 obtain ⟨L, hLd⟩ : ∃ L, L = l.drop at_ := ⟨_, rfl⟩
 have hLn : L.length = l.length - at_ := by rw [hLd, List.length_drop]
 rw [← hLd] at hL HBB ⊢
 generalize hN : l.length = N at *
 have g0 : decide ((at_ : Int) < 0) = false := decide_eq_false (by omega)
 have g1 : decide ((N : Int) < (at_ : Int)) = false := decide_eq_false (by omega)
 have g2 : decide (N < at_) = false := decide_eq_false (by omega)
 clear hv hb hLd hN
 obtain ⟨X, hX⟩ : ∃ X, X = rdF 10 L := ⟨_, rfl⟩
 rw [← hX]
 have HST := Lib.hid (hX.trans (rd_start L))
 clear hX
 go_enter Try.func68, Try.ntmps68
 go_upto_region 4 with (fail)
 generalize (if N = at_ then A else Option.map (fun x => x.add at_) A) = B at *
 rw [← hLn]
 have HLN := Lib.hid hLn
 have hLm : L.length ≤ N := by omega
 have HHL := Lib.hid hL
 clear hLn g0 g1 g2
 obtain ⟨M, hM⟩ : ∃ M, M = min 10 L.length := ⟨_, rfl⟩
 have HM := Lib.hid hM
 go_upto_if 28 with (fail)
 go_cut [7] from 8 to 72 (fun v7 wx => ∃ k7 : Nat, v7 = .slice B M k7 ∧ M ≤ k7 ∧ Hid (Ext w wx))
 case first =>
  by_cases hbig : 10 < L.length
  ·obtain ⟨b, o, rfl, -⟩ := hL.2 (by omega)
   obtain rfl : M = 10 := by omega
   have g : decide ((10 : Int) < (L.length : Int)) = true := decide_eq_true (by omega)
   have g' : decide (10 < L.length) = true := decide_eq_true (by omega)
   clear hM
   go_wp2_with fail
   go_meet
   case rel => exact ⟨10, rfl, Nat.le_refl _, Lib.hid (by solve_by_elim [X0, X1, X2, X3])⟩
  ·obtain rfl : M = L.length := by omega
   have g : decide ((10 : Int) < (L.length : Int)) = false := decide_eq_false (by omega)
   have g' : decide (10 < L.length) = false := decide_eq_false (by omega)
   clear hM
   go_wp2_with fail
   go_meet
   case rel => exact ⟨_, rfl, Nat.le_refl _, Lib.hid (by solve_by_elim [X0, X1, X2, X3])⟩
 case rest =>
  obtain ⟨k7, rfl, hk7, hE0⟩ := hcut
  clear hL hM
  go_wp2_with fail
  go_loopw [8, 33] (fun u8 u33 W => ∃ (k : Nat) (n : Int) (a : Nat), u33 = .int .i64 (k : Int) ∧ u8 = .int .u64 n ∧ k ≤ M ∧ Hid (k < 10 → n = (a : Int) ∧ a < 128 ^ k) ∧ Hid (X = mapR a (128 ^ k) (rdF (10 - k) (L.drop k))) ∧ Hid (Ext w W)) (fun _ u33 _ => M - (intOf u33).toNat)
  case atStart => exact ⟨0, 0, 0, rfl, rfl, Nat.zero_le _, Lib.hid (fun _ => ⟨rfl, by decide⟩), Lib.hid HST.out, hE0⟩
  case round =>
   clear hE0
   obtain ⟨k, n, a, rfl, rfl, hk, HN, HR, hE⟩ := hrel
   by_cases hlt : k < M
   ·have hm := HM.out
    have hkl : k < L.length := by omega
    obtain ⟨b, o, rfl, hc⟩ := HHL.out.2 (by omega)
    have d0 := hE.out.cell (hc k hkl).2
    have HRR := Lib.hid (by have h := HR.out; rw [List.drop_eq_getElem_cons hkl, show 10 - k = 9 - k + 1 by omega] at h; exact h : X = mapR a (128 ^ k) (rdF (9 - k + 1) (L[k] :: L.drop (k + 1))))
    have hcb := HBB.out L[k] (List.getElem_mem hkl)
    rw [Nat.mul_one] at d0
    generalize L[k] = y at *
    have HWB := Lib.hid hcb
    have hk9 : k ≤ 9 := by omega
    have hA := and127 hcb
    have hWA : IntKind.u64.wrap ((y % 128 : Nat) : Int) = ((y % 128 : Nat) : Int) := by rw [IntKind.wrap_u64]; omega
    clear hcb hm hc HR
    go_upto_region 11 with (fail)
    obtain ⟨n', hn'⟩ : ∃ n', n' = bits BinOp.or IntKind.u64 n (IntKind.u64.wrap ((y : Int) % 128 * 2 ^ (7 * k))) := ⟨_, rfl⟩
    have hAA := Lib.hid (HN.out (by omega)).2
    have HN2 := Lib.hid (or_next hk9 (HN.out (by omega)).1 (HN.out (by omega)).2 hn')
    rw [← hn']
    clear hn' HN hA hWA d0
    by_cases hy : 128 ≤ y
    ·have HR2 := Lib.hid (rd_more HRR.out hy)
     rw [← Nat.pow_succ, show 9 - k = 10 - (k + 1) by omega] at HR2
     have HN3 := Lib.hid (fun (h : k + 1 < 10) => (⟨(HN2.out (.inl (by omega))).1, (HN2.out (.inl (by omega))).2.1⟩ : n' = ((a + 128 ^ k * (y % 128) : Nat) : Int) ∧ a + 128 ^ k * (y % 128) < 128 ^ (k + 1)))
     have g : decide ((128 : Int) ≤ (y : Int)) = true := decide_eq_true (by omega)
     have g' : decide (128 ≤ y) = true := decide_eq_true hy
     clear hy HRR HN2
     go_wp2_with fail
     go_roundw
     case rel => exact ⟨k + 1, n', _, by go_num, rfl, by omega, HN3, HR2, hE⟩
     case measure => simp [intOf]; omega
    ·have g : decide ((128 : Int) ≤ (y : Int)) = false := decide_eq_false (by omega)
     have g' : decide (128 ≤ y) = false := decide_eq_false hy
     have HY := Lib.hid (show y < 128 by omega)
     have HNN := Lib.hid (show y % 128 = y by omega)
     rw [HNN.out] at HN2
     clear hy
     have g1 : ((k : Int) == 9) = (k == 9) := by rw [Bool.eq_iff_iff]; simp; omega
     have g2 : decide ((k : Int) = 9) = (k == 9) := by rw [Bool.eq_iff_iff]; simp; omega
     have g3 : decide (k = 9) = (k == 9) := by rw [Bool.eq_iff_iff]; simp
     have g4 : decide ((1 : Int) < (y : Int)) = decide (1 < y) := by rw [Bool.eq_iff_iff]; simp; omega
     have g5 : ((y : Int) == 0) = (y == 0) := by rw [Bool.eq_iff_iff]; simp
     have g6 : decide ((y : Int) = 0) = (y == 0) := by rw [Bool.eq_iff_iff]; simp
     have g7 : decide (y = 0) = (y == 0) := by rw [Bool.eq_iff_iff]; simp
     have g8 : decide ((0 : Int) < (k : Int)) = decide (0 < k) := by rw [Bool.eq_iff_iff]; simp
     have HA := Lib.hid hAA.out
     rcases (show (k = 9 ∧ 1 < y) ∨ (k = 9 ∧ y = 0) ∨ (k = 9 ∧ y = 1) ∨ (k < 9 ∧ 0 < k ∧ y = 0) ∨ (k < 9 ∧ k = 0 ∧ y ≤ 1) ∨ (k < 9 ∧ k = 0 ∧ 1 < y) ∨ (k < 9 ∧ 0 < k ∧ y = 1) ∨ (k < 9 ∧ 0 < k ∧ 1 < y) by omega) with hy | hy | hy | hy | hy | hy | hy | hy
     ·have e9 : (k == 9) = true := by rw [beq_iff_eq]; omega
      have e1 : decide (1 < y) = true := decide_eq_true (by omega)
      have e0 : (y == 0) = false := by rw [beq_eq_false_iff_ne]; omega
      have ek : decide (0 < k) = true := decide_eq_true (by omega)
      have HT := Lib.hid (by have h := HRR.out; rw [show 9 - k + 1 = 1 by omega] at h; exact rd_long h (by omega) HY.out : X = .error 4)
      skip
      clear HRR HN2 hy
      go_wp2_with fail
      go_ret3
      exact ⟨_, _, _, rfl, by rw [HT.out]; exact ⟨by decide, rfl, rfl⟩, hE.out⟩
     ·have e9 : (k == 9) = true := by rw [beq_iff_eq]; omega
      have e1 : decide (1 < y) = false := decide_eq_false (by omega)
      have e0 : (y == 0) = true := by rw [beq_iff_eq]; omega
      have ek : decide (0 < k) = true := decide_eq_true (by omega)
      have HT := Lib.hid (by have h := HRR.out; rw [show y = 0 by omega] at h; exact rd_zero h (by omega) : X = .error 2)
      have HV := Lib.hid (HN2.out (by omega))
      have HV0 := Lib.hid (by rw [HV.out.1, show y = 0 by omega, Nat.mul_zero, Nat.add_zero]; have := Nat.lt_of_lt_of_le HA.out (Nat.pow_le_pow_right (by decide) hk9 : 128 ^ k ≤ 128 ^ 9); omega : n' ≤ 9223372036854775807)
      clear HRR HN2 hy
      go_wp2_with fail
      go_ret3
      exact ⟨_, _, _, rfl, by rw [HT.out]; exact ⟨HV0.out, rfl, rfl⟩, hE.out⟩
     ·have e9 : (k == 9) = true := by rw [beq_iff_eq]; omega
      have e1 : decide (1 < y) = false := decide_eq_false (by omega)
      have e0 : (y == 0) = false := by rw [beq_eq_false_iff_ne]; omega
      have ek : decide (0 < k) = true := decide_eq_true (by omega)
      have HT := Lib.hid (rd_ok HRR.out HY.out (by omega) (by omega))
      have HV := Lib.hid (HN2.out (by omega))
      clear HRR HN2 hy
      go_wp2_with fail
      go_ret3
      exact ⟨_, _, _, rfl, by rw [HT.out]; refine ⟨HV.out.1, ?_, rfl⟩; rw [List.length_drop]; have h9 := HLN.out; omega, hE.out⟩
     ·have e9 : (k == 9) = false := by rw [beq_eq_false_iff_ne]; omega
      have e1 : decide (1 < y) = false := decide_eq_false (by omega)
      have e0 : (y == 0) = true := by rw [beq_iff_eq]; omega
      have ek : decide (0 < k) = true := decide_eq_true (by omega)
      have HT := Lib.hid (by have h := HRR.out; rw [show y = 0 by omega] at h; exact rd_zero h (by omega) : X = .error 2)
      have HV := Lib.hid (HN2.out (by omega))
      have HV0 := Lib.hid (by rw [HV.out.1, show y = 0 by omega, Nat.mul_zero, Nat.add_zero]; have := Nat.lt_of_lt_of_le HA.out (Nat.pow_le_pow_right (by decide) hk9 : 128 ^ k ≤ 128 ^ 9); omega : n' ≤ 9223372036854775807)
      clear HRR HN2 hy
      go_wp2_with fail
      go_ret3
      exact ⟨_, _, _, rfl, by rw [HT.out]; exact ⟨HV0.out, rfl, rfl⟩, hE.out⟩
     ·have e9 : (k == 9) = false := by rw [beq_eq_false_iff_ne]; omega
      have e1 : decide (1 < y) = false := decide_eq_false (by omega)
      have ek : decide (0 < k) = false := decide_eq_false (by omega)
      have HT := Lib.hid (rd_ok HRR.out HY.out (by omega) (by omega))
      have HV := Lib.hid (HN2.out (by omega))
      clear HRR HN2 hy
      go_wp2_with fail
      go_ret3
      exact ⟨_, _, _, rfl, by rw [HT.out]; refine ⟨HV.out.1, ?_, rfl⟩; rw [List.length_drop]; have h9 := HLN.out; omega, hE.out⟩
     ·have e9 : (k == 9) = false := by rw [beq_eq_false_iff_ne]; omega
      have e1 : decide (1 < y) = true := decide_eq_true (by omega)
      have e0 : (y == 0) = false := by rw [beq_eq_false_iff_ne]; omega
      have ek : decide (0 < k) = false := decide_eq_false (by omega)
      have HT := Lib.hid (rd_ok HRR.out HY.out (by omega) (by omega))
      have HV := Lib.hid (HN2.out (by omega))
      clear HRR HN2 hy
      go_wp2_with fail
      go_ret3
      exact ⟨_, _, _, rfl, by rw [HT.out]; refine ⟨HV.out.1, ?_, rfl⟩; rw [List.length_drop]; have h9 := HLN.out; omega, hE.out⟩
     ·have e9 : (k == 9) = false := by rw [beq_eq_false_iff_ne]; omega
      have e1 : decide (1 < y) = false := decide_eq_false (by omega)
      have e0 : (y == 0) = false := by rw [beq_eq_false_iff_ne]; omega
      have ek : decide (0 < k) = true := decide_eq_true (by omega)
      have HT := Lib.hid (rd_ok HRR.out HY.out (by omega) (by omega))
      have HV := Lib.hid (HN2.out (by omega))
      clear HRR HN2 hy
      go_wp2_with fail
      go_ret3
      exact ⟨_, _, _, rfl, by rw [HT.out]; refine ⟨HV.out.1, ?_, rfl⟩; rw [List.length_drop]; have h9 := HLN.out; omega, hE.out⟩
     ·have e9 : (k == 9) = false := by rw [beq_eq_false_iff_ne]; omega
      have e1 : decide (1 < y) = true := decide_eq_true (by omega)
      have e0 : (y == 0) = false := by rw [beq_eq_false_iff_ne]; omega
      have ek : decide (0 < k) = true := decide_eq_true (by omega)
      have HT := Lib.hid (rd_ok HRR.out HY.out (by omega) (by omega))
      have HV := Lib.hid (HN2.out (by omega))
      clear HRR HN2 hy
      go_wp2_with fail
      go_ret3
      exact ⟨_, _, _, rfl, by rw [HT.out]; refine ⟨HV.out.1, ?_, rfl⟩; rw [List.length_drop]; have h9 := HLN.out; omega, hE.out⟩
   ·have hm := HM.out
    have HT := Lib.hid (by
     have h := HR.out
     rcases (show k = 10 ∨ (k < 10 ∧ k = L.length) by omega) with e | ⟨e1, e2⟩
     ·rw [e] at h; rw [if_pos e]; exact rd_many h
     ·rw [if_neg (by omega)]
      rw [e2, List.drop_length, ← e2, show 10 - k = 9 - k + 1 by omega] at h
      exact rd_short h : X = if k = 10 then .error 4 else .error 3)
    have hkM : k = M := by omega
    clear hm hk hlt HR
    subst hkM
    by_cases h10 : k = 10
    ·have g1 : ((k : Int) == 10) = true := by simp; omega
     have g2 : decide ((k : Int) = 10) = true := by simp; omega
     have g3 : decide (k = 10) = true := decide_eq_true h10
     have g4 : (k == 10) = true := by simp [h10]
     rw [if_pos h10] at HT
     clear h10
     go_wp2_with fail
     go_ret3
     exact ⟨_, _, _, rfl, by rw [HT.out]; exact ⟨by decide, rfl, rfl⟩, hE.out⟩
    ·have g1 : ((k : Int) == 10) = false := by rw [beq_eq_false_iff_ne]; omega
     have g2 : decide ((k : Int) = 10) = false := decide_eq_false (by omega)
     have g3 : decide (k = 10) = false := decide_eq_false h10
     have g4 : (k == 10) = false := by rw [beq_eq_false_iff_ne]; omega
     rw [if_neg h10] at HT
     clear h10
     go_wp2_with fail
     go_ret3
     exact ⟨_, _, _, rfl, by rw [HT.out]; exact ⟨by decide, rfl, rfl⟩, hE.out⟩
end Go.Proofs.Ytnheioehadldmaa

/- THE WALKS over codec.Uint and codec.Int. -/
namespace Go.Proofs.Ytnheioehadldmaa
open Go.RowKit
theorem rdF_err : ∀ (f : Nat) (l : List Nat) (e : Int), rdF f l = .error e → e = 2 ∨ e = 3 ∨ e = 4
 | 0, _, e, h => by rw [rdF] at h; injection h with h; omega
 | _ + 1, [], e, h => by rw [rdF] at h; injection h with h; omega
 | f + 1, c :: l, e, h => by
  rw [rdF] at h
  split at h
  ·split at h
   ·cases h
   ·rename_i h2
    injection h with h
    subst h
    exact rdF_err f l _ h2
  ·split at h
   ·injection h with h; omega
   ·split at h
    ·injection h with h; omega
    ·cases h
/-- what codec.Uint and codec.Int give -/
def numOut (N : Nat) (X : Except Int (Int × List Nat)) (x y z : Int) : Prop := match X with
 | .ok (u, r) => x = u ∧ y = (N : Int) - r.length ∧ z = 0
 | .error er => x = 0 ∧ y = 0 ∧ z = er ∧ (er = 2 ∨ er = 3 ∨ er = 4)
def uI (l : List Nat) : Except Int (Int × List Nat) := match uE l with
 | .ok (u, r) => .ok ((u : Int), r)
 | .error e => .error e
theorem uI_big {l : List Nat} {u : Nat} {r : List Nat} (h : rdF 10 l = .ok (u, r)) (hu : 9223372036854775807 < u) : uI l = .error 4 := by unfold uI uE; rw [h]; simp only []; rw [if_neg (by omega)]
theorem uI_ok {l : List Nat} {u : Nat} {r : List Nat} (h : rdF 10 l = .ok (u, r)) (hu : u ≤ 9223372036854775807) : uI l = .ok ((u : Int), r) := by unfold uI uE; rw [h]; simp only []; rw [if_pos hu]
theorem uI_err {l : List Nat} {e : Int} (h : rdF 10 l = .error e) : uI l = .error e := by unfold uI uE; rw [h]
theorem iE_ok {l : List Nat} {u : Nat} {r : List Nat} (h : rdF 10 l = .ok (u, r)) : iE l = .ok (zag u, r) := by unfold iE; rw [h]
theorem iE_err {l : List Nat} {e : Int} (h : rdF 10 l = .error e) : iE l = .error e := by unfold iE; rw [h]
set_option maxRecDepth 100000 in
theorem co_Uint (l : List Nat) (ok : Nat → Prop) (A : Option Addr) (c at_ : Nat) (w : World) (hv : Byts w ok A l) (hb : ∀ x ∈ l, x < 256) (hc : l.length ≤ c) (ha : at_ ≤ l.length) :
  Calls Try.prog 56 #[.slice A l.length c, .int .i64 (at_ : Int)] w fun e w' => ∃ x y z : Int, e = .returned (.tuple #[.int .i64 x, .int .i64 y, .int .i64 z]) ∧ numOut l.length (uI (l.drop at_)) x y z ∧ Ext w w' := by
 have HV := Lib.hid (co_read l ok A c at_ w hv hb hc ha)
 have HI := Lib.hid (fun u r => rdF_inv 9 (l.drop at_) u r (by decide) (fun x hx => hb x (List.mem_of_mem_drop hx)))
 generalize hN : l.length = N at *
 generalize l.drop at_ = L at *
 have HE := Lib.hid (rdF_err 10 L)
 have HB := Lib.hid (fun (u : Nat) (r : List Nat) (h : rdF 10 L = .ok (u, r)) (hu : 9223372036854775807 < u) => uI_big h hu)
 have HO := Lib.hid (fun (u : Nat) (r : List Nat) (h : rdF 10 L = .ok (u, r)) (hu : u ≤ 9223372036854775807) => uI_ok h hu)
 have HR := Lib.hid (fun (e : Int) (h : rdF 10 L = .error e) => uI_err h)
 obtain ⟨U, hU⟩ : ∃ U, U = uI L := ⟨_, rfl⟩
 rw [← hU] at HB HO HR ⊢
 generalize rdF 10 L = X at *
 clear hv hb hU
 go_enter Try.func56, Try.ntmps56
 go_upto_region 2 with (go_at_call 68; ((with_reducible refine (HV.out).mono ?_); rintro e w2 ⟨x, y, z, rfl, hO, hx⟩))
 clear HV
 cases X with
 | error er =>
  obtain ⟨h1, rfl, rfl⟩ := hO
  have hz := HE.out z rfl
  have g : decide ((9223372036854775807 : Int) < x) = false := decide_eq_false (by omega)
  have gz : (z != 0) = true := by rw [bne_iff_ne]; omega
  have HT := Lib.hid (HR.out _ rfl)
  have HZ := Lib.hid hz
  clear hz h1
  go_wp2_with fail
  go_ret3
  exact ⟨_, _, _, rfl, by rw [HT.out]; exact ⟨rfl, rfl, rfl, HZ.out⟩, hx⟩
 | ok p =>
  obtain ⟨u, r⟩ := p
  obtain ⟨rfl, rfl, rfl⟩ := hO
  by_cases hu : u ≤ 9223372036854775807
  ·have g : decide ((9223372036854775807 : Int) < (u : Int)) = false := decide_eq_false (by omega)
   have g' : decide (9223372036854775807 < u) = false := decide_eq_false (by omega)
   have HT := Lib.hid (HO.out _ _ rfl hu)
   have hw : IntKind.i64.wrap (u : Int) = (u : Int) := by rw [IntKind.wrap_i64]; omega
   go_wp2_with fail
   go_ret3
   exact ⟨_, _, _, rfl, by rw [HT.out]; exact ⟨rfl, rfl, rfl⟩, hx⟩
  ·have g : decide ((9223372036854775807 : Int) < (u : Int)) = true := decide_eq_true (by omega)
   have g' : decide (9223372036854775807 < u) = true := decide_eq_true (by omega)
   have HT := Lib.hid (HB.out _ _ rfl (by omega))
   go_wp2_with fail
   go_ret3
   exact ⟨_, _, _, rfl, by rw [HT.out]; exact ⟨rfl, rfl, rfl, by omega⟩, hx⟩
theorem and1 {n : Nat} (h : n < 18446744073709551616) : bits .and .u64 (n : Int) 1 = ((n % 2 : Nat) : Int) := by
 have := u64_and_nat n 1 h (by decide)
 rw [nat_mask1] at this
 exact this
set_option maxRecDepth 100000 in
theorem co_Int (l : List Nat) (ok : Nat → Prop) (A : Option Addr) (c at_ : Nat) (w : World) (hv : Byts w ok A l) (hb : ∀ x ∈ l, x < 256) (hc : l.length ≤ c) (ha : at_ ≤ l.length) :
  Calls Try.prog 57 #[.slice A l.length c, .int .i64 (at_ : Int)] w fun e w' => ∃ x y z : Int, e = .returned (.tuple #[.int .i64 x, .int .i64 y, .int .i64 z]) ∧ numOut l.length (iE (l.drop at_)) x y z ∧ Ext w w' := by
 have HV := Lib.hid (co_read l ok A c at_ w hv hb hc ha)
 have HI := Lib.hid (fun u r => rdF_inv 9 (l.drop at_) u r (by decide) (fun x hx => hb x (List.mem_of_mem_drop hx)))
 generalize hN : l.length = N at *
 generalize l.drop at_ = L at *
 have HE := Lib.hid (rdF_err 10 L)
 have HO := Lib.hid (fun (u : Nat) (r : List Nat) (h : rdF 10 L = .ok (u, r)) => iE_ok h)
 have HR := Lib.hid (fun (e : Int) (h : rdF 10 L = .error e) => iE_err h)
 obtain ⟨U, hU⟩ : ∃ U, U = iE L := ⟨_, rfl⟩
 rw [← hU] at HO HR ⊢
 have HIX := Lib.hid (fun X (hX : X = rdF 10 L) u r (h : X = .ok (u, r)) => (by have := (HI.out u r (hX.symm.trans h)).2.1; omega : u < 18446744073709551616))
 replace HIX := Lib.hid (HIX.out _ rfl)
 clear HI
 generalize rdF 10 L = X at *
 clear hv hb hU
 go_enter Try.func57, Try.ntmps57
 go_upto_region 2 with (go_at_call 68; ((with_reducible refine (HV.out).mono ?_); rintro e w2 ⟨x, y, z, rfl, hO, hx⟩))
 clear HV
 cases X with
 | error er =>
  obtain ⟨h1, rfl, rfl⟩ := hO
  have hz := HE.out z rfl
  have gz : (z != 0) = true := by rw [bne_iff_ne]; omega
  have HT := Lib.hid (HR.out _ rfl)
  have HZ := Lib.hid hz
  clear hz h1
  go_wp2_with fail
  go_ret3
  exact ⟨_, _, _, rfl, by rw [HT.out]; exact ⟨rfl, rfl, rfl, HZ.out⟩, hx⟩
 | ok p =>
  obtain ⟨u, r⟩ := p
  obtain ⟨rfl, rfl, rfl⟩ := hO
  have hu := HIX.out u r rfl
  have HT := Lib.hid (HO.out _ _ rfl)
  have hA := and1 hu
  have hw : IntKind.i64.wrap ((u : Int) / 2) = (u : Int) / 2 := by rw [IntKind.wrap_i64]; omega
  by_cases h2 : u % 2 = 1
  ·have g : ((u : Int) % 2 == 1) = true := by rw [beq_iff_eq]; omega
   have g' : (u % 2 == 1) = true := by rw [beq_iff_eq]; omega
   have HZ := Lib.hid (show -((u : Int) / 2) - 1 = zag u by unfold zag; rw [if_pos h2]; omega)
   clear h2
   have hnot : bits BinOp.xor IntKind.i64 (if IntKind.i64.signed = true then -1 else 9223372036854775807) ((u : Int) / 2) = -((u : Int) / 2) - 1 := by
    have := i64_not (u / 2) (by omega)
    rw [show (if IntKind.i64.signed = true then (-1 : Int) else 9223372036854775807) = -1 by decide, show ((u : Int) / 2) = ((u / 2 : Nat) : Int) by omega, this]
    omega
   go_wp2_with fail
   go_ret3
   exact ⟨_, _, _, rfl, by rw [HT.out]; exact ⟨HZ.out, rfl, rfl⟩, hx⟩
  ·have g : ((u : Int) % 2 == 1) = false := by rw [beq_eq_false_iff_ne]; omega
   have g' : (u % 2 == 1) = false := by rw [beq_eq_false_iff_ne]; omega
   have HZ := Lib.hid (show (u : Int) / 2 = zag u by unfold zag; rw [if_neg h2]; omega)
   clear h2
   go_wp2_with fail
   go_ret3
   exact ⟨_, _, _, rfl, by rw [HT.out]; exact ⟨HZ.out, rfl, rfl⟩, hx⟩
end Go.Proofs.Ytnheioehadldmaa

/- THE WALKS over the reader of column: id, uint, near. -/
namespace Go.Proofs.Ytnheioehadldmaa
open Go.RowKit
/-- a reader in memory -/
structure RdC (W : World) (qr : Nat) (A : Option Addr) (N c : Nat) (at_ e : Int) : Prop where
 c0 : W.cell? ⟨qr, 0, none⟩ = some (.slice A N c)
 c1 : W.cell? ⟨qr, 1, none⟩ = some (.int .i64 at_)
 c2 : W.cell? ⟨qr, 2, none⟩ = some (.int .i64 e)
 f1 : W.frozen? ⟨qr, 1, none⟩ = false
 f2 : W.frozen? ⟨qr, 2, none⟩ = false
section
variable {W W' : World} {qr : Nat} {A : Option Addr} {N c : Nat} {at_ e : Int}
theorem RdC.grown {row : Option Nat} (h : RdC W qr A N c at_ e) (hg : W.grownBy W' row) (hr : some qr ≠ row) : RdC W' qr A N c at_ e :=
 ⟨hg.cell h.c0 hr, hg.cell h.c1 hr, hg.cell h.c2 hr, frz_grown hg h.c1 h.f1 hr, frz_grown hg h.c2 h.f2 hr⟩
theorem RdC.ext (h : RdC W qr A N c at_ e) (x : Ext W W') : RdC W' qr A N c at_ e := h.grown (x.gr none) (by simp)
theorem cell_set_self {j : Nat} {u v : Value} (h : W.cell? ⟨qr, j, none⟩ = some v) : (W.setCell ⟨qr, j, none⟩ u).cell? ⟨qr, j, none⟩ = some u := World.cell?_setCell_same' _ _ _ (by rw [h]; rfl)
theorem cell_set_else {i j : Nat} {u v : Value} (hij : i ≠ j) (h : W.cell? ⟨qr, i, none⟩ = some v) : (W.setCell ⟨qr, j, none⟩ u).cell? ⟨qr, i, none⟩ = some v := (World.cell?_setCell_other _ _ _ _ (fun e => by injection e with _ e2; exact hij e2.symm)).trans h
theorem RdC.setE (h : RdC W qr A N c at_ e) (z : Int) : RdC (W.setCell ⟨qr, 2, none⟩ (.int .i64 z)) qr A N c at_ z :=
 ⟨cell_set_else (by decide) h.c0, cell_set_else (by decide) h.c1, cell_set_self h.c2, (World.frozen?_setCell _ _ _ _).trans h.f1, (World.frozen?_setCell _ _ _ _).trans h.f2⟩
theorem RdC.setAt (h : RdC W qr A N c at_ e) (y : Int) : RdC (W.setCell ⟨qr, 1, none⟩ (.int .i64 y)) qr A N c y e :=
 ⟨cell_set_else (by decide) h.c0, cell_set_self h.c1, cell_set_else (by decide) h.c2, (World.frozen?_setCell _ _ _ _).trans h.f1, (World.frozen?_setCell _ _ _ _).trans h.f2⟩
/-- both marks set -/
theorem RdC.step (h : RdC W qr A N c at_ e) (x : Ext W W') (y z : Int) : W'.cell? ⟨qr, 0, none⟩ = some (.slice A N c) ∧ W'.cell? ⟨qr, 1, none⟩ = some (.int .i64 at_) ∧ W'.cell? ⟨qr, 2, none⟩ = some (.int .i64 e) ∧ W'.frozen? ⟨qr, 1, none⟩ = false ∧ W'.frozen? ⟨qr, 2, none⟩ = false ∧ ∃ W3, W3 = W'.setCell ⟨qr, 1, none⟩ (.int .i64 y) ∧ W3.cell? ⟨qr, 2, none⟩ = some (.int .i64 e) ∧ W3.frozen? ⟨qr, 2, none⟩ = false ∧ ∃ W4, W4 = W3.setCell ⟨qr, 2, none⟩ (.int .i64 z) ∧ RdC W4 qr A N c y z ∧ W.grownBy W4 (some qr) := by
 have h1 := h.ext x
 refine ⟨h1.c0, h1.c1, h1.c2, h1.f1, h1.f2, _, rfl, (h1.setAt y).c2, (h1.setAt y).f2, _, rfl, (h1.setAt y).setE z, ?_⟩
 exact (((x.gr none).but (some qr)).trans (gr_set _ _ _ _)).trans (gr_set _ _ _ _)
end
/-- what the reader's marks say -/
def okR (l : List Nat) (at_ e : Int) : Except Int (List Nat) → Prop
 | .ok r => e = 0 ∧ r.length ≤ l.length ∧ at_ = (l.length : Int) - r.length ∧ r = l.drop (l.length - r.length)
 | .error er => e = er ∧ er ≠ 0
/-- a number read -/
def stU (st : Except Int (List Nat)) (x : Int) (st' : Except Int (List Nat)) : Prop := match st with
 | .error e => st' = .error e
 | .ok r => match uI r with
  | .ok (n, r') => x = n ∧ st' = .ok r'
  | .error e => st' = .error e
/-- a difference read -/
def idM (base n : Int) (r : List Nat) : Except Int (Int × List Nat) := if n < -1000000 ∨ 1000000 < n ∨ idB (base + n) = false then .error 1 else .ok (base + n, r)
def stI (st : Except Int (List Nat)) (base n : Int) (x : Int) (st' : Except Int (List Nat)) : Prop := match st with
 | .error e => st' = .error e
 | .ok r => match idM base n r with
  | .ok (m, r') => x = m ∧ st' = .ok r'
  | .error e => st' = .error e
def nearM (base : Int) (r : List Nat) : Except Int (Int × List Nat) := match iE r with
 | .ok (n, r') => idM base n r'
 | .error e => .error e
def stN (st : Except Int (List Nat)) (base : Int) (x : Int) (st' : Except Int (List Nat)) : Prop := match st with
 | .error e => st' = .error e
 | .ok r => match nearM base r with
  | .ok (m, r') => x = m ∧ st' = .ok r'
  | .error e => st' = .error e
theorem rdF_suf {f : Nat} {l r : List Nat} {u : Nat} (h : rdF f l = .ok (u, r)) : r.length < l.length ∧ r = l.drop (l.length - r.length) := by
 obtain ⟨k, h1, h2, h3⟩ := rdF_drop f l u r h
 have e : r.length = l.length - k := by rw [h3, List.length_drop]
 exact ⟨by omega, by rw [e, show l.length - (l.length - k) = k by omega]; exact h3⟩
theorem uI_suf {l r : List Nat} {n : Int} (h : uI l = .ok (n, r)) : r.length < l.length ∧ r = l.drop (l.length - r.length) := by
 cases h1 : rdF 10 l with
 | error e => rw [uI_err h1] at h; cases h
 | ok p =>
  obtain ⟨u, r'⟩ := p
  by_cases hu : u ≤ 9223372036854775807
  ·rw [uI_ok h1 hu] at h; injection h with h; injection h with e1 e2; subst e2; exact rdF_suf h1
  ·rw [uI_big h1 (by omega)] at h; cases h
theorem iE_suf {l r : List Nat} {n : Int} (h : iE l = .ok (n, r)) : r.length < l.length ∧ r = l.drop (l.length - r.length) := by
 cases h1 : rdF 10 l with
 | error e => rw [iE_err h1] at h; cases h
 | ok p =>
  obtain ⟨u, r'⟩ := p
  rw [iE_ok h1] at h; injection h with h; injection h with e1 e2; subst e2; exact rdF_suf h1
theorem suf_suf {l r s : List Nat} (h1 : r.length ≤ l.length) (h2 : r = l.drop (l.length - r.length)) (h3 : s.length < r.length) (h4 : s = r.drop (r.length - s.length)) : s.length ≤ l.length ∧ s = l.drop (l.length - s.length) := by
 refine ⟨by omega, ?_⟩
 have e : s = (l.drop (l.length - r.length)).drop (r.length - s.length) := h4.trans (by rw [← h2])
 rw [List.drop_drop, show l.length - r.length + (r.length - s.length) = l.length - s.length by omega] at e
 exact e
/-- a step of the marks -/
theorem okR_num {l r : List Nat} {at_ : Int} {M : List Nat → Except Int (Int × List Nat)} (hM : ∀ n s, M r = .ok (n, s) → s.length < r.length ∧ s = r.drop (r.length - s.length)) (h : okR l at_ 0 (.ok r)) {x y z : Int} (hO : numOut l.length (M r) x y z) : ∃ st', okR l y z st' ∧ (match M r with | .ok (n, r') => x = n ∧ st' = .ok r' | .error e => st' = .error e) := by
 obtain ⟨-, h1, h2, h3⟩ := h
 cases hr : M r with
 | error e =>
  rw [hr] at hO
  obtain ⟨-, -, rfl, h6⟩ := hO
  exact ⟨.error z, ⟨rfl, by omega⟩, rfl⟩
 | ok p =>
  obtain ⟨n, s⟩ := p
  rw [hr] at hO
  obtain ⟨e1, e2, e3⟩ := hO
  obtain ⟨h4, h5⟩ := hM n s hr
  obtain ⟨h6, h7⟩ := suf_suf h1 h3 h4 h5
  exact ⟨.ok s, ⟨e3, h6, e2, h7⟩, e1, rfl⟩
theorem okR_at {l r : List Nat} {at_ e : Int} (h : okR l at_ e (.ok r)) : e = 0 ∧ at_ = ((l.length - r.length : Nat) : Int) ∧ l.length - r.length ≤ l.length ∧ l.drop (l.length - r.length) = r := by
 obtain ⟨h0, h1, h2, h3⟩ := h
 exact ⟨h0, by omega, by omega, h3.symm⟩
set_option maxRecDepth 100000 in
theorem co_ruint (l : List Nat) (ok : Nat → Prop) (A : Option Addr) (c qr : Nat) (at_ e0 : Int) (st : Except Int (List Nat)) (W : World) (hr : RdC W qr A l.length c at_ e0) (hs : okR l at_ e0 st) (hv : Byts W ok A l) (hb : ∀ x ∈ l, x < 256) (hc : l.length ≤ c) :
  Calls Try.prog 40 #[.pointer (some ⟨qr, 0, none⟩)] W fun e W' => ∃ (x at' e' : Int) (st' : Except Int (List Nat)), e = .returned (.int .i64 x) ∧ RdC W' qr A l.length c at' e' ∧ okR l at' e' st' ∧ stU st x st' ∧ W.grownBy W' (some qr) := by
 have HRC := Lib.hid hr
 obtain ⟨c0, c1, c2, f1, f2⟩ := hr
 cases st with
 | error er =>
  obtain ⟨rfl, he⟩ := hs
  have g : (e0 != 0) = true := by rw [bne_iff_ne]; exact he
  have HE := Lib.hid he
  clear he
  go_enter Try.func40, Try.ntmps40
  go_wp2_with fail
  go_ret
  exact ⟨0, at_, e0, .error e0, rfl, (by first | exact HRC.out | exact HRC.out.ext (by solve_by_elim [X0, X1, X2, X3])), ⟨rfl, HE.out⟩, rfl, (Ext.gr (a := W) (by solve_by_elim [X0, X1, X2, X3]) none).but _⟩
 | ok r =>
  obtain ⟨h0, h1, h2, h3⟩ := okR_at hs
  subst h0
  have HCL := Lib.hid (fun V (x : Ext W V) => co_Uint l ok A c (l.length - r.length) V (hv.ext x) hb hc h2)
  rw [h3, ← h1] at HCL
  have HST := Lib.hid (fun x y z (hO : numOut l.length (uI r) x y z) => okR_num (fun n s h => uI_suf h) hs hO)
  clear h1 h2 h3 hs hv
  generalize l.length = N at *
  have HMK := Lib.hid (fun V (e : Ext W V) => (⟨e.cell c0, e.cell c1⟩ : V.cell? ⟨qr, 0, none⟩ = some (.slice A N c) ∧ V.cell? ⟨qr, 1, none⟩ = some (.int .i64 at_)))
  go_enter Try.func40, Try.ntmps40
  go_upto_region 4 with (fail)
  refine AnyT.start (S := (fun V => V.cell? ⟨qr, 0, none⟩ = some (.slice A N c) ∧ V.cell? ⟨qr, 1, none⟩ = some (.int .i64 at_))) (T := (fun _ => True)) (E := 10) (by kernel_rfl) ?hs52001 (fun hHeld => ?go52001)
  case hs52001 => exact ⟨by (exact HMK.out _ (by solve_by_elim [X0, X1, X2, X3])), by trivial⟩
  refine TB 0 (v := ?v52002) ⟨fun _ => hHeld.1, hHeld.2⟩ ?hy52002 ?_
  case hy52002 => (intro w hSw; (try dsimp only at hSw); go_simp <;> first | with_reducible rfl | rw [if_neg (by omega)] | rw [if_pos (by omega)])
  (try simp only [PU])
  refine TB 1 (v := ?v52003) ⟨fun _ => hHeld.1, hHeld.2⟩ ?hy52003 ?_
  case hy52003 => (intro w hSw; (try dsimp only at hSw); go_simp <;> first | with_reducible rfl | rw [if_neg (by omega)] | rw [if_pos (by omega)])
  (try simp only [PU])
  refine TB 2 (v := ?v52004) ⟨fun _ => hHeld.1, hHeld.2⟩ ?hy52004 ?_
  case hy52004 => (intro w hSw; (try dsimp only at hSw); go_simp <;> first | with_reducible rfl | rw [if_neg (by omega)] | rw [if_pos (by omega)])
  (try simp only [PU])
  refine TB 3 (v := ?v52005) ⟨fun _ => hHeld.1, hHeld.2⟩ ?hy52005 ?_
  case hy52005 => (intro w hSw; (try dsimp only at hSw); go_simp <;> first | with_reducible rfl | rw [if_neg (by omega)] | rw [if_pos (by omega)])
  (try simp only [PU])
  refine TB 4 (v := ?v52006) ⟨fun _ => hHeld.1, hHeld.2⟩ ?hy52006 ?_
  case hy52006 => (intro w hSw; (try dsimp only at hSw); go_simp <;> first | with_reducible rfl | rw [if_neg (by omega)] | rw [if_pos (by omega)])
  (try simp only [PU])
  refine TA 5 (v := ?v52007) hHeld ?hy52007 ?_
  case hy52007 => (intro w hSw; (try dsimp only at hSw); go_simp <;> first | with_reducible rfl | rw [if_neg (by omega)] | rw [if_pos (by omega)])
  (try simp only [PU])
  refine TB 6 (v := ?v52008) ⟨fun _ => hHeld.1, hHeld.2⟩ ?hy52008 ?_
  case hy52008 => (intro w hSw; (try dsimp only at hSw); go_simp <;> first | with_reducible rfl | rw [if_neg (by omega)] | rw [if_pos (by omega)])
  (try simp only [PU])
  refine TB 7 (v := ?v52009) ⟨fun _ => hHeld.1, hHeld.2⟩ ?hy52009 ?_
  case hy52009 => (intro w hSw; (try dsimp only at hSw); go_simp <;> first | with_reducible rfl | rw [if_neg (by omega)] | rw [if_pos (by omega)])
  (try simp only [PU])
  refine TB 8 (v := ?v52010) ⟨fun _ => hHeld.1, hHeld.2⟩ ?hy52010 ?_
  case hy52010 => (intro w hSw; (try dsimp only at hSw); go_simp <;> first | with_reducible rfl | rw [if_neg (by omega)] | rw [if_pos (by omega)])
  (try simp only [PU])
  refine TA 9 (v := ?v52011) hHeld ?hy52011 ?_
  case hy52011 => (intro w hSw; (try dsimp only at hSw); go_simp <;> first | with_reducible rfl | rw [if_neg (by omega)] | rw [if_pos (by omega)])
  (try simp only [PU])
  refine AnyT.ready (rs := [10]) (by kernel_rfl) (by simp) ?_
  refine AllT.cons (o := ⟨_, _, _, _, _, _⟩) rfl (fun K hK => ?step52012x0) ?more52012x0
  case more52012x0 => exact AllT.nil
  go_simp
  (go_at_call 56; ((with_reducible refine (HCL.out _ (by solve_by_elim [X0, X1, X2, X3])).mono ?_); rintro e w2 ⟨x, y, z, rfl, hO, hx⟩; obtain ⟨z0, z1, z2, f1, f2, w3, hw3, y2, g2, w4, hw4, hR, hg⟩ := RdC.step HRC.out (Ext.trans (a := W) (by solve_by_elim [X0, X1, X2, X3]) hx) y z; have HO := Lib.hid hO; have HRR := Lib.hid hR; have HG := Lib.hid hg; clear hO hR hg hx))
  refine hK.out _ _ ?hS52012x0 (fun H52012 => ?_)
  case hS52012x0 => exact ⟨fun h => (by first | exact absurd h (by decide) | simp at h), by trivial⟩
  clear hK K
  clear hHeld
  (try simp only [PU])
  refine TB 11 (v := ?v52013) H52012 ?hy52013 ?_
  case hy52013 => (intro w hSw; (try dsimp only at hSw); go_simp <;> first | with_reducible rfl | rw [if_neg (by omega)] | rw [if_pos (by omega)])
  (try simp only [PU])
  refine TB 12 (v := ?v52014) H52012 ?hy52014 ?_
  case hy52014 => (intro w hSw; (try dsimp only at hSw); go_simp <;> first | with_reducible rfl | rw [if_neg (by omega)] | rw [if_pos (by omega)])
  (try simp only [PU])
  refine TB 13 (v := ?v52015) H52012 ?hy52015 ?_
  case hy52015 => (intro w hSw; (try dsimp only at hSw); go_simp <;> first | with_reducible rfl | rw [if_neg (by omega)] | rw [if_pos (by omega)])
  (try simp only [PU])
  refine TB 14 (v := ?v52016) H52012 ?hy52016 ?_
  case hy52016 => (intro w hSw; (try dsimp only at hSw); go_simp <;> first | with_reducible rfl | rw [if_neg (by omega)] | rw [if_pos (by omega)])
  (try simp only [PU])
  refine TB 15 (v := ?v52017) H52012 ?hy52017 ?_
  case hy52017 => (intro w hSw; (try dsimp only at hSw); go_simp <;> first | with_reducible rfl | rw [if_neg (by omega)] | rw [if_pos (by omega)])
  (try simp only [PU])
  refine TB 16 (v := ?v52018) H52012 ?hy52018 ?_
  case hy52018 => (intro w hSw; (try dsimp only at hSw); go_simp <;> first | with_reducible rfl | rw [if_neg (by omega)] | rw [if_pos (by omega)])
  (try simp only [PU])
  refine TB 17 (v := ?v52019) H52012 ?hy52019 ?_
  case hy52019 => (intro w hSw; (try dsimp only at hSw); go_simp <;> first | with_reducible rfl | rw [if_neg (by omega)] | rw [if_pos (by omega)])
  (try simp only [PU])
  refine AnyT.ready (rs := [18]) (by kernel_rfl) (by simp) ?_
  refine AllT.cons (o := ⟨_, _, _, _, _, _⟩) rfl (fun K hK => ?step52020x0) ?more52020x0
  case more52020x0 => exact AllT.nil
  go_simp
  (rw [← hw3]; clear hw3)
  refine hK.out _ _ ?hS52020x0 (fun H52020 => ?_)
  case hS52020x0 => exact ⟨fun h => (by first | exact absurd h (by decide) | simp at h), by trivial⟩
  clear hK K
  clear H52012
  refine TB 19 (v := ?v52021) H52020 ?hy52021 ?_
  case hy52021 => (intro w hSw; (try dsimp only at hSw); go_simp <;> first | with_reducible rfl | rw [if_neg (by omega)] | rw [if_pos (by omega)])
  (try simp only [PU])
  refine TB 20 (v := ?v52022) H52020 ?hy52022 ?_
  case hy52022 => (intro w hSw; (try dsimp only at hSw); go_simp <;> first | with_reducible rfl | rw [if_neg (by omega)] | rw [if_pos (by omega)])
  (try simp only [PU])
  refine AnyT.ready (rs := [21]) (by kernel_rfl) (by simp) ?_
  refine AllT.cons (o := ⟨_, _, _, _, _, _⟩) rfl (fun K hK => ?step52023x0) ?more52023x0
  case more52023x0 => exact AllT.nil
  go_simp
  (rw [← hw4]; clear hw4)
  refine hK.out _ _ ?hS52023x0 (fun H52023 => ?_)
  case hS52023x0 => exact ⟨fun h => (by first | exact absurd h (by decide) | simp at h), by trivial⟩
  clear hK K
  clear H52020
  refine AnyT.done (by kernel_rfl) ?_ _
  clear H52023
  go_wp2_with fail
  go_ret
  obtain ⟨st7, k1, k2⟩ := HST.out _ _ _ HO.out
  exact ⟨_, _, _, st7, rfl, HRR.out, k1, k2, HG.out⟩
theorem idM_no {base n : Int} {r : List Nat} (h : n < -1000000 ∨ 1000000 < n ∨ idB (base + n) = false) : idM base n r = .error 1 := by unfold idM; rw [if_pos h]
theorem idM_yes {base n : Int} {r : List Nat} (h1 : ¬ n < -1000000) (h2 : ¬ 1000000 < n) (h3 : idB (base + n) = true) : idM base n r = .ok (base + n, r) := by unfold idM; rw [if_neg (by rintro (h | h | h); exact h1 h; exact h2 h; rw [h3] at h; cases h)]
theorem stI_no {base n x : Int} {r : List Nat} (h : n < -1000000 ∨ 1000000 < n ∨ idB (base + n) = false) : stI (.ok r) base n x (.error 1) := by unfold stI; simp only []; rw [idM_no h]
theorem stI_yes {base n : Int} {r : List Nat} (h1 : ¬ n < -1000000) (h2 : ¬ 1000000 < n) (h3 : idB (base + n) = true) : stI (.ok r) base n (base + n) (.ok r) := by unfold stI; simp only []; rw [idM_yes h1 h2 h3]; exact ⟨rfl, rfl⟩
set_option maxRecDepth 100000 in
theorem co_rid (l : List Nat) (A : Option Addr) (c qr : Nat) (at_ e0 base n : Int) (st : Except Int (List Nat)) (W : World) (hr : RdC W qr A l.length c at_ e0) (hs : okR l at_ e0 st) (hbs : e0 = 0 → 0 ≤ base ∧ base ≤ 1000000) :
  Calls Try.prog 41 #[.pointer (some ⟨qr, 0, none⟩), .int .i64 base, .int .i64 n] W fun e W' => ∃ (x e' : Int) (st' : Except Int (List Nat)), e = .returned (.int .i64 x) ∧ RdC W' qr A l.length c at_ e' ∧ okR l at_ e' st' ∧ stI st base n x st' ∧ W.grownBy W' (some qr) := by
 have HRC := Lib.hid hr
 have HRS := Lib.hid (hr.setE 1)
 obtain ⟨c0, c1, c2, f1, f2⟩ := hr
 have HID := Lib.hid (fun V (_ : Ext W V) => co_id (base + n) V)
 cases st with
 | error er =>
  obtain ⟨rfl, he⟩ := hs
  have g : (e0 == 0) = false := by rw [beq_eq_false_iff_ne]; exact he
  have g' : decide (e0 = 0) = false := decide_eq_false he
  have HE := Lib.hid he
  clear he hbs
  go_enter Try.func41, Try.ntmps41
  go_wp2_with fail
  go_ret
  exact ⟨_, e0, .error e0, rfl, (by first | exact HRC.out | exact HRC.out.ext (by solve_by_elim [X0, X1, X2, X3])), ⟨rfl, HE.out⟩, rfl, (Ext.gr (a := W) (by solve_by_elim [X0, X1, X2, X3]) none).but _⟩
 | ok r =>
  have HOK := Lib.hid hs
  obtain ⟨rfl, -, -, -⟩ := hs
  obtain ⟨hb0, hb1⟩ := hbs rfl
  have HO1 := Lib.hid (show okR l at_ 1 (.error 1) from ⟨rfl, by decide⟩)
  clear hbs
  by_cases h1 : n < -1000000
  ·have HT := Lib.hid (fun x => stI_no (base := base) (x := x) (r := r) (.inl h1))
   have g : decide (n < -1000000) = true := decide_eq_true h1
   clear h1
   go_enter Try.func41, Try.ntmps41
   go_wp2_with fail
   go_ret
   exact ⟨_, 1, _, rfl, (by first | exact HRS.out | exact (HRC.out.ext (by solve_by_elim [X0, X1, X2, X3])).setE 1), HO1.out, HT.out _, by first | exact gr_set W qr 2 _ | exact ((Ext.gr (a := W) (by solve_by_elim [X0, X1, X2, X3]) none).but _).trans (gr_set _ _ _ _)⟩
  ·have g : decide (n < -1000000) = false := decide_eq_false h1
   by_cases h2 : 1000000 < n
   ·have HT := Lib.hid (fun x => stI_no (base := base) (x := x) (r := r) (.inr (.inl h2)))
    have g2 : decide (1000000 < n) = true := decide_eq_true h2
    clear h1 h2
    go_enter Try.func41, Try.ntmps41
    go_wp2_with fail
    go_ret
    exact ⟨_, 1, _, rfl, (by first | exact HRS.out | exact (HRC.out.ext (by solve_by_elim [X0, X1, X2, X3])).setE 1), HO1.out, HT.out _, by first | exact gr_set W qr 2 _ | exact ((Ext.gr (a := W) (by solve_by_elim [X0, X1, X2, X3]) none).but _).trans (gr_set _ _ _ _)⟩
   ·have g2 : decide (1000000 < n) = false := decide_eq_false h2
    have hw : IntKind.i64.wrap (base + n) = base + n := by rw [IntKind.wrap_i64]; omega
    have HY := Lib.hid (fun (h : idB (base + n) = true) => stI_yes (r := r) h1 h2 h)
    have HN := Lib.hid (fun (h : idB (base + n) = false) => stI_no (x := base + n) (r := r) (.inr (.inr h)))
    clear h1 h2 hb0 hb1
    cases hb : idB (base + n)
    ·rw [hb] at HID
     have HT := Lib.hid (HN.out hb)
     clear hb HY HN
     go_enter Try.func41, Try.ntmps41
     go_wp2_with (go_at_call 25; ((with_reducible refine (HID.out _ (by solve_by_elim [X0, X1, X2, X3])).mono ?_); rintro e w2 ⟨rfl, hx2⟩; have hxx := Ext.trans (a := W) (by solve_by_elim [X0, X1, X2, X3]) hx2; have HX := Lib.hid hxx; replace c2 := hxx.cell c2; replace f2 := (HRC.out.ext hxx).f2; clear hx2 hxx))
     go_ret
     exact ⟨_, 1, _, rfl, (HRC.out.ext HX.out).setE 1, HO1.out, HT.out, ((HX.out.gr none).but _).trans (gr_set _ _ _ _)⟩
    ·rw [hb] at HID
     have HT := Lib.hid (HY.out hb)
     clear hb HY HN
     go_enter Try.func41, Try.ntmps41
     go_wp2_with (go_at_call 25; ((with_reducible refine (HID.out _ (by solve_by_elim [X0, X1, X2, X3])).mono ?_); rintro e w2 ⟨rfl, hx2⟩; have hxx := Ext.trans (a := W) (by solve_by_elim [X0, X1, X2, X3]) hx2; have HX := Lib.hid hxx; replace c2 := hxx.cell c2; replace f2 := (HRC.out.ext hxx).f2; clear hx2 hxx))
     go_ret
     exact ⟨_, 0, _, rfl, HRC.out.ext HX.out, HOK.out, HT.out, (HX.out.gr none).but _⟩
theorem stN_of {st st1 st2 : Except Int (List Nat)} {base n x : Int} (h1 : match st with
  | .error e => st1 = .error e
  | .ok r => match iE r with
   | .ok (m, r') => n = m ∧ st1 = .ok r'
   | .error e => st1 = .error e) (h2 : stI st1 base n x st2) : stN st base x st2 := by
 unfold stN
 cases st with
 | error e => simp only at h1; rw [h1] at h2; exact h2
 | ok r =>
  simp only at h1
  cases hi : iE r with
  | error e => rw [hi] at h1; simp only at h1; rw [h1] at h2; simp only [nearM, hi]; exact h2
  | ok p =>
   obtain ⟨m, r'⟩ := p
   rw [hi] at h1
   obtain ⟨rfl, rfl⟩ := h1
   simp only [nearM, hi]
   exact h2
set_option maxRecDepth 100000 in
theorem co_near (l : List Nat) (ok : Nat → Prop) (A : Option Addr) (c qr : Nat) (at_ e0 base : Int) (st : Except Int (List Nat)) (W : World) (hr : RdC W qr A l.length c at_ e0) (hs : okR l at_ e0 st) (hbs : e0 = 0 → 0 ≤ base ∧ base ≤ 1000000) (hv : Byts W ok A l) (hb : ∀ x ∈ l, x < 256) (hc : l.length ≤ c) :
  Calls Try.prog 42 #[.pointer (some ⟨qr, 0, none⟩), .int .i64 base] W fun e W' => ∃ (x at' e' : Int) (st' : Except Int (List Nat)), e = .returned (.int .i64 x) ∧ RdC W' qr A l.length c at' e' ∧ okR l at' e' st' ∧ stN st base x st' ∧ W.grownBy W' (some qr) := by
 have HRC := Lib.hid hr
 obtain ⟨c0, c1, c2, f1, f2⟩ := hr
 cases st with
 | error er =>
  obtain ⟨rfl, he⟩ := hs
  have g : (e0 != 0) = true := by rw [bne_iff_ne]; exact he
  have HE := Lib.hid he
  clear he hbs
  go_enter Try.func42, Try.ntmps42
  go_wp2_with fail
  go_ret
  exact ⟨0, at_, e0, .error e0, rfl, (by first | exact HRC.out | exact HRC.out.ext (by solve_by_elim [X0, X1, X2, X3])), ⟨rfl, HE.out⟩, rfl, (Ext.gr (a := W) (by solve_by_elim [X0, X1, X2, X3]) none).but _⟩
 | ok r =>
  obtain ⟨h0, h1, h2, h3⟩ := okR_at hs
  subst h0
  have HBS := Lib.hid (hbs rfl)
  have HCL := Lib.hid (fun V (x : Ext W V) => co_Int l ok A c (l.length - r.length) V (hv.ext x) hb hc h2)
  rw [h3, ← h1] at HCL
  have HST := Lib.hid (fun x y z (hO : numOut l.length (iE r) x y z) => okR_num (fun n s h => iE_suf h) hs hO)
  have HID := Lib.hid (fun V y z n st1 (hR : RdC V qr A l.length c y z) (hO : okR l y z st1) => co_rid l A c qr y z base n st1 V hR hO (fun _ => HBS.out))
  clear h1 h2 h3 hs hv hbs
  generalize l.length = N at *
  have HMK := Lib.hid (fun V (e : Ext W V) => (⟨e.cell c0, e.cell c1⟩ : V.cell? ⟨qr, 0, none⟩ = some (.slice A N c) ∧ V.cell? ⟨qr, 1, none⟩ = some (.int .i64 at_)))
  go_enter Try.func42, Try.ntmps42
  go_upto_region 4 with (fail)
  refine AnyT.start (S := (fun V => V.cell? ⟨qr, 0, none⟩ = some (.slice A N c) ∧ V.cell? ⟨qr, 1, none⟩ = some (.int .i64 at_))) (T := (fun _ => True)) (E := 10) (by kernel_rfl) ?hs52024 (fun hHeld => ?go52024)
  case hs52024 => exact ⟨by (exact HMK.out _ (by solve_by_elim [X0, X1, X2, X3])), by trivial⟩
  refine TB 0 (v := ?v52025) ⟨fun _ => hHeld.1, hHeld.2⟩ ?hy52025 ?_
  case hy52025 => (intro w hSw; (try dsimp only at hSw); go_simp <;> first | with_reducible rfl | rw [if_neg (by omega)] | rw [if_pos (by omega)])
  (try simp only [PU])
  refine TB 1 (v := ?v52026) ⟨fun _ => hHeld.1, hHeld.2⟩ ?hy52026 ?_
  case hy52026 => (intro w hSw; (try dsimp only at hSw); go_simp <;> first | with_reducible rfl | rw [if_neg (by omega)] | rw [if_pos (by omega)])
  (try simp only [PU])
  refine TB 2 (v := ?v52027) ⟨fun _ => hHeld.1, hHeld.2⟩ ?hy52027 ?_
  case hy52027 => (intro w hSw; (try dsimp only at hSw); go_simp <;> first | with_reducible rfl | rw [if_neg (by omega)] | rw [if_pos (by omega)])
  (try simp only [PU])
  refine TB 3 (v := ?v52028) ⟨fun _ => hHeld.1, hHeld.2⟩ ?hy52028 ?_
  case hy52028 => (intro w hSw; (try dsimp only at hSw); go_simp <;> first | with_reducible rfl | rw [if_neg (by omega)] | rw [if_pos (by omega)])
  (try simp only [PU])
  refine TB 4 (v := ?v52029) ⟨fun _ => hHeld.1, hHeld.2⟩ ?hy52029 ?_
  case hy52029 => (intro w hSw; (try dsimp only at hSw); go_simp <;> first | with_reducible rfl | rw [if_neg (by omega)] | rw [if_pos (by omega)])
  (try simp only [PU])
  refine TA 5 (v := ?v52030) hHeld ?hy52030 ?_
  case hy52030 => (intro w hSw; (try dsimp only at hSw); go_simp <;> first | with_reducible rfl | rw [if_neg (by omega)] | rw [if_pos (by omega)])
  (try simp only [PU])
  refine TB 6 (v := ?v52031) ⟨fun _ => hHeld.1, hHeld.2⟩ ?hy52031 ?_
  case hy52031 => (intro w hSw; (try dsimp only at hSw); go_simp <;> first | with_reducible rfl | rw [if_neg (by omega)] | rw [if_pos (by omega)])
  (try simp only [PU])
  refine TB 7 (v := ?v52032) ⟨fun _ => hHeld.1, hHeld.2⟩ ?hy52032 ?_
  case hy52032 => (intro w hSw; (try dsimp only at hSw); go_simp <;> first | with_reducible rfl | rw [if_neg (by omega)] | rw [if_pos (by omega)])
  (try simp only [PU])
  refine TB 8 (v := ?v52033) ⟨fun _ => hHeld.1, hHeld.2⟩ ?hy52033 ?_
  case hy52033 => (intro w hSw; (try dsimp only at hSw); go_simp <;> first | with_reducible rfl | rw [if_neg (by omega)] | rw [if_pos (by omega)])
  (try simp only [PU])
  refine TA 9 (v := ?v52034) hHeld ?hy52034 ?_
  case hy52034 => (intro w hSw; (try dsimp only at hSw); go_simp <;> first | with_reducible rfl | rw [if_neg (by omega)] | rw [if_pos (by omega)])
  (try simp only [PU])
  refine AnyT.ready (rs := [10]) (by kernel_rfl) (by simp) ?_
  refine AllT.cons (o := ⟨_, _, _, _, _, _⟩) rfl (fun K hK => ?step52035x0) ?more52035x0
  case more52035x0 => exact AllT.nil
  go_simp
  (go_at_call 57; ((with_reducible refine (HCL.out _ (by solve_by_elim [X0, X1, X2, X3])).mono ?_); rintro e w2 ⟨x, y, z, rfl, hO, hx⟩; obtain ⟨z0, z1, z2, f1, f2, w3, hw3, y2, g2, w4, hw4, hR, hg⟩ := RdC.step HRC.out (Ext.trans (a := W) (by solve_by_elim [X0, X1, X2, X3]) hx) y z; have HO := Lib.hid hO; have HRR := Lib.hid hR; have HG := Lib.hid hg; clear hO hR hg hx))
  refine hK.out _ _ ?hS52035x0 (fun H52035 => ?_)
  case hS52035x0 => exact ⟨fun h => (by first | exact absurd h (by decide) | simp at h), by trivial⟩
  clear hK K
  clear hHeld
  (try simp only [PU])
  refine TB 11 (v := ?v52036) H52035 ?hy52036 ?_
  case hy52036 => (intro w hSw; (try dsimp only at hSw); go_simp <;> first | with_reducible rfl | rw [if_neg (by omega)] | rw [if_pos (by omega)])
  (try simp only [PU])
  refine TB 12 (v := ?v52037) H52035 ?hy52037 ?_
  case hy52037 => (intro w hSw; (try dsimp only at hSw); go_simp <;> first | with_reducible rfl | rw [if_neg (by omega)] | rw [if_pos (by omega)])
  (try simp only [PU])
  refine TB 13 (v := ?v52038) H52035 ?hy52038 ?_
  case hy52038 => (intro w hSw; (try dsimp only at hSw); go_simp <;> first | with_reducible rfl | rw [if_neg (by omega)] | rw [if_pos (by omega)])
  (try simp only [PU])
  refine TB 14 (v := ?v52039) H52035 ?hy52039 ?_
  case hy52039 => (intro w hSw; (try dsimp only at hSw); go_simp <;> first | with_reducible rfl | rw [if_neg (by omega)] | rw [if_pos (by omega)])
  (try simp only [PU])
  refine TB 15 (v := ?v52040) H52035 ?hy52040 ?_
  case hy52040 => (intro w hSw; (try dsimp only at hSw); go_simp <;> first | with_reducible rfl | rw [if_neg (by omega)] | rw [if_pos (by omega)])
  (try simp only [PU])
  refine TB 16 (v := ?v52041) H52035 ?hy52041 ?_
  case hy52041 => (intro w hSw; (try dsimp only at hSw); go_simp <;> first | with_reducible rfl | rw [if_neg (by omega)] | rw [if_pos (by omega)])
  (try simp only [PU])
  refine TB 17 (v := ?v52042) H52035 ?hy52042 ?_
  case hy52042 => (intro w hSw; (try dsimp only at hSw); go_simp <;> first | with_reducible rfl | rw [if_neg (by omega)] | rw [if_pos (by omega)])
  (try simp only [PU])
  refine AnyT.ready (rs := [18]) (by kernel_rfl) (by simp) ?_
  refine AllT.cons (o := ⟨_, _, _, _, _, _⟩) rfl (fun K hK => ?step52043x0) ?more52043x0
  case more52043x0 => exact AllT.nil
  go_simp
  (rw [← hw3]; clear hw3)
  refine hK.out _ _ ?hS52043x0 (fun H52043 => ?_)
  case hS52043x0 => exact ⟨fun h => (by first | exact absurd h (by decide) | simp at h), by trivial⟩
  clear hK K
  clear H52035
  refine TB 19 (v := ?v52044) H52043 ?hy52044 ?_
  case hy52044 => (intro w hSw; (try dsimp only at hSw); go_simp <;> first | with_reducible rfl | rw [if_neg (by omega)] | rw [if_pos (by omega)])
  (try simp only [PU])
  refine TB 20 (v := ?v52045) H52043 ?hy52045 ?_
  case hy52045 => (intro w hSw; (try dsimp only at hSw); go_simp <;> first | with_reducible rfl | rw [if_neg (by omega)] | rw [if_pos (by omega)])
  (try simp only [PU])
  refine AnyT.ready (rs := [21]) (by kernel_rfl) (by simp) ?_
  refine AllT.cons (o := ⟨_, _, _, _, _, _⟩) rfl (fun K hK => ?step52046x0) ?more52046x0
  case more52046x0 => exact AllT.nil
  go_simp
  (rw [← hw4]; clear hw4)
  refine hK.out _ _ ?hS52046x0 (fun H52046 => ?_)
  case hS52046x0 => exact ⟨fun h => (by first | exact absurd h (by decide) | simp at h), by trivial⟩
  clear hK K
  clear H52043
  refine AnyT.done (by kernel_rfl) ?_ _
  clear H52046
  obtain ⟨st7, k1, k2⟩ := HST.out _ _ _ HO.out
  have HK2 := Lib.hid k2
  have HC2 := Lib.hid (HID.out _ _ _ x _ HRR.out k1)
  clear k1 k2
  go_wp2_with (go_at_call 41; ((with_reducible refine (HC2.out).mono ?_); rintro e w5 ⟨x5, e5, st5, rfl, hR5, hO5, hT5, hg5⟩))
  go_ret
  exact ⟨_, _, _, st5, rfl, hR5, hO5, stN_of HK2.out hT5, HG.out.trans hg5⟩
end Go.Proofs.Ytnheioehadldmaa

/- PLAIN: what column.Decode computes. -/
namespace Go.Proofs.Ytnheioehadldmaa
def entsE : Nat → Int → Int → List Int → List Int → List Nat → Except Int (Int × List Int × List Int × List Nat)
 | 0, _, edge, T, E, r => .ok (edge, T, E, r)
 | n + 1, tv, edge, T, E, r => match nearM tv r with
  | .error e => .error e
  | .ok (tv', r1) => match nearM edge r1 with
   | .error e => .error e
   | .ok (ed', r2) => entsE n tv' ed' (T ++ [tv']) (E ++ [ed']) r2
def rowsE : Nat → Int → Int → Col → List Nat → Except Int (Col × List Nat)
 | 0, _, _, c, r => .ok (c, r)
 | n + 1, node, edge, c, r => match uI r with
  | .error e => .error e
  | .ok (d, r1) => match idM node d r1 with
   | .error e => .error e
   | .ok (nd, r2) => match uI r2 with
    | .error e => .error e
    | .ok (many, r3) => if many = 0 then .error 1 else match entsE many.toNat nd edge c.tos c.edges r3 with
     | .error e => .error e
     | .ok (ed', T, E, r4) => rowsE n nd ed' ⟨c.nodes ++ [nd], c.first ++ [(c.tos.length : Int)], T, E⟩ r4
def finC (c : Col) : Col := if c.nodes = [] then c else { c with first := c.first ++ [(c.tos.length : Int)] }
/-- the entries of a row, then the other rows -/
def contE (n : Nat) (nd : Int) (N F : List Int) : Except Int (Int × List Int × List Int × List Nat) → Except Int (Col × List Nat)
 | .error e => .error e
 | .ok (ed', T, E, r4) => rowsE n nd ed' ⟨N, F, T, E⟩ r4
def rowsS (n : Nat) (node edge : Int) (c : Col) : Except Int (List Nat) → Except Int (Col × List Nat)
 | .error e => .error e
 | .ok r => rowsE n node edge c r
def entsS (n : Nat) (tv edge : Int) (T E : List Int) : Except Int (List Nat) → Except Int (Int × List Int × List Int × List Nat)
 | .error e => .error e
 | .ok r => entsE n tv edge T E r
noncomputable def endC : Except Int (Col × List Nat) → Except Int Col
 | .error e => .error e
 | .ok (c, r) => if colB (finC c) = true then (if r = [] then .ok (finC c) else .error 2) else .error 1
def cntS (cnt : Int) (st : Except Int (List Nat)) : Except Int (Col × List Nat) := rowsS cnt.toNat 0 0 noCol st
noncomputable def decC (l : List Nat) : Except Int Col := match uI l with
 | .error e => .error e
 | .ok (cnt, r) => endC (rowsE cnt.toNat 0 0 noCol r)
def decR : Except Int Col → Int × Col
 | .error e => (e, noCol)
 | .ok c => (0, c)
def chkS (st : Except Int (List Nat)) (many : Int) : Except Int (List Nat) := match st with
 | .error e => .error e
 | .ok r => if many = 0 then .error 1 else .ok r
theorem dec_start {l : List Nat} {cnt : Int} {st : Except Int (List Nat)} (h : stU (.ok l) cnt st) : decC l = endC (cntS cnt st) := by
 unfold stU at h
 unfold decC
 cases hu : uI l with
 | error e => simp only [hu] at h; rw [h]; rfl
 | ok p => obtain ⟨n, r⟩ := p; simp only [hu] at h; obtain ⟨rfl, rfl⟩ := h; rfl
theorem ents_step {X : Except Int (Col × List Nat)} {m k : Nat} {nd tv edge x1 x2 : Int} {N F T E : List Int} {r : List Nat} {st1 st2 : Except Int (List Nat)} (h : X = contE m nd N F (entsS (k + 1) tv edge T E (.ok r))) (h1 : stN (.ok r) tv x1 st1) (h2 : stN st1 edge x2 st2) : X = contE m nd N F (entsS k x1 x2 (T ++ [x1]) (E ++ [x2]) st2) := by
 rw [h]
 show contE m nd N F (entsE (k + 1) tv edge T E r) = _
 unfold entsE
 unfold stN at h1
 cases hn : nearM tv r with
 | error e => simp only [hn] at h1; rw [h1] at h2; unfold stN at h2; simp only at h2; rw [h2]; rfl
 | ok p =>
  obtain ⟨a, r1⟩ := p
  simp only [hn] at h1
  obtain ⟨rfl, rfl⟩ := h1
  unfold stN at h2
  simp only
  cases hm : nearM edge r1 with
  | error e => simp only [hm] at h2; rw [h2]; rfl
  | ok p =>
   obtain ⟨b, r2⟩ := p
   simp only [hm] at h2
   obtain ⟨rfl, rfl⟩ := h2
   rfl
theorem rows_step {X : Except Int (Col × List Nat)} {n : Nat} {node edge d nd many : Int} {c : Col} {r : List Nat} {st1 st2 st3 : Except Int (List Nat)} (h : X = rowsS (n + 1) node edge c (.ok r)) (h1 : stU (.ok r) d st1) (h2 : stI st1 node d nd st2) (h3 : stU st2 many st3) : X = contE n nd (c.nodes ++ [nd]) (c.first ++ [(c.tos.length : Int)]) (entsS many.toNat nd edge c.tos c.edges (chkS st3 many)) := by
 rw [h]
 show rowsE (n + 1) node edge c r = _
 unfold rowsE
 unfold stU at h1
 cases ha : uI r with
 | error e => simp only [ha] at h1; rw [h1] at h2; unfold stI at h2; simp only at h2; rw [h2] at h3; unfold stU at h3; simp only at h3; rw [h3]; rfl
 | ok p =>
  obtain ⟨a, r1⟩ := p
  simp only [ha] at h1
  obtain ⟨rfl, rfl⟩ := h1
  unfold stI at h2
  simp only
  cases hb : idM node d r1 with
  | error e => simp only [hb] at h2; rw [h2] at h3; unfold stU at h3; simp only at h3; rw [h3]; rfl
  | ok p =>
   obtain ⟨b, r2⟩ := p
   simp only [hb] at h2
   obtain ⟨rfl, rfl⟩ := h2
   unfold stU at h3
   simp only
   cases hc : uI r2 with
   | error e => simp only [hc] at h3; rw [h3]; rfl
   | ok p =>
    obtain ⟨b, r3⟩ := p
    simp only [hc] at h3
    obtain ⟨rfl, rfl⟩ := h3
    simp only [chkS]
    by_cases hm : many = 0
    ·rw [if_pos hm, if_pos hm]; rfl
    ·rw [if_neg hm, if_neg hm]; show _ = contE _ _ _ _ (entsE _ _ _ _ _ _); cases entsE many.toNat nd edge c.tos c.edges r3 <;> rfl
theorem ents_end {X : Except Int (Col × List Nat)} {m : Nat} {nd tv edge : Int} {N F T E : List Int} {r : List Nat} (h : X = contE m nd N F (entsS 0 tv edge T E (.ok r))) : X = rowsS m nd edge ⟨N, F, T, E⟩ (.ok r) := h
theorem ents_err {X : Except Int (Col × List Nat)} {m k k' : Nat} {nd nd' tv edge edge' e : Int} {N F T E : List Int} {c : Col} (h : X = contE m nd N F (entsS k tv edge T E (.error e))) : X = rowsS k' nd' edge' c (.error e) := h
/-- what is left bounds what is read -/
def bdS (NN : Nat) (st : Except Int (List Nat)) (len : Nat) : Prop := match st with
 | .error _ => len ≤ NN + 1
 | .ok r => len + r.length ≤ NN
/-- ids come out of the reader -/
def rgS (st : Except Int (List Nat)) (x : Int) : Prop := match st with
 | .error _ => True
 | .ok _ => 0 ≤ x ∧ x ≤ 1000000
theorem idM_suf {base n m : Int} {r r' : List Nat} (h : idM base n r = .ok (m, r')) : r' = r ∧ 0 ≤ m ∧ m ≤ 1000000 := by
 unfold idM at h
 split at h
 ·cases h
 ·rename_i hn
  injection h with h
  injection h with e1 e2
  have hb : idB (base + n) = true := by
   cases hb : idB (base + n) with
   | true => rfl
   | false => exact absurd (.inr (.inr hb)) hn
  rw [idB_iff] at hb
  unfold idOk at hb
  exact ⟨e2.symm, by omega, by omega⟩
theorem nearM_suf {base m : Int} {r r' : List Nat} (h : nearM base r = .ok (m, r')) : r'.length < r.length ∧ 0 ≤ m ∧ m ≤ 1000000 := by
 unfold nearM at h
 cases hi : iE r with
 | error e => rw [hi] at h; cases h
 | ok p =>
  obtain ⟨n, r1⟩ := p
  rw [hi] at h
  obtain ⟨h1, h2, h3⟩ := idM_suf h
  rw [h1]
  exact ⟨(iE_suf hi).1, h2, h3⟩
theorem bd_push {NN len : Nat} {st st' : Except Int (List Nat)} {base x : Int} (h : bdS NN st len) (hl : len ≤ NN) (h1 : stN st base x st') : rgS st' x ∧ bdS NN st' len ∧ (∀ r, st = .ok r → bdS NN st' (len + 1)) := by
 cases st with
 | error e => unfold stN at h1; simp only at h1; subst h1; exact ⟨trivial, h, fun r hr => by cases hr⟩
 | ok r =>
  unfold stN at h1
  simp only at h1
  cases hn : nearM base r with
  | error e => rw [hn] at h1; simp only at h1; subst h1; exact ⟨trivial, show len ≤ NN + 1 by omega, fun _ _ => show len + 1 ≤ NN + 1 by omega⟩
  | ok p =>
   obtain ⟨m, r'⟩ := p
   rw [hn] at h1
   simp only at h1
   obtain ⟨rfl, rfl⟩ := h1
   obtain ⟨k1, k2, k3⟩ := nearM_suf hn
   have h' : len + r.length ≤ NN := h
   exact ⟨⟨k2, k3⟩, show len + r'.length ≤ NN by omega, fun _ _ => show len + 1 + r'.length ≤ NN by omega⟩
end Go.Proofs.Ytnheioehadldmaa

/- PLAIN: the loops of column.Decode; boxes that change. -/
namespace Go.Proofs.Ytnheioehadldmaa
open Go.RowKit
theorem Col4.other {W W' : World} {base q : Nat} {vN vF vT vE : Value} {c : Col} (h : Col4 W base vN vF vT vE c) (hq : q < base) (hg : W.grownBy W' (some q)) : Col4 W' base vN vF vT vE c := by
 have k : ∀ {v : Value} {l : List Int}, OI W base v l → OI W' base v l := fun {v l} h => OwnG.grown h hg (by
  cases hv : v.ownBlock with
  | none => exact .inl rfl
  | some g => exact .inr (fun e => by have := (OwnG.lt h hv).1; have := Option.some.inj e; omega)) (fun _ _ hf => hf)
 exact ⟨k h.n, k h.f, k h.t, k h.e, h.nf, h.nt, h.ne, h.ft, h.fe, h.te⟩
/-- another box of the call changed -/
theorem PkS.other {w0 : World} {base q2 q3 q : Nat} {W W' : World} {vN vF vT vE b0 b1 b2 b3 : Value} {c : Col} (h : PkS w0 base q2 q3 W vN vF vT vE b0 b1 b2 b3 c) (hq : w0.heap.size ≤ q ∧ q < base ∧ q ≠ q2 ∧ q ≠ q3) (hg : W.grownBy W' (some q)) : PkS w0 base q2 q3 W' vN vF vT vE b0 b1 b2 b3 c :=
 have k2 : some q2 ≠ some q := fun e => hq.2.2.1 (Option.some.inj e).symm
 have k3 : some q3 ≠ some q := fun e => hq.2.2.2 (Option.some.inj e).symm
 ⟨h.ext.grown hg (fun g hg' => by cases hg'; exact hq.1), Nat.le_trans h.le hg.size, h.c4.other hq.2.1 hg, h.bx.grown hg k3, h.fz.grown h.bx hg k3, h.rx.grown hg k2, h.rz.grown h.rx hg k2, h.h3, h.l2, h.l3, h.n23, h.hb⟩
theorem box_reader (w : World) (A : Option Addr) (N c : Nat) (t : TypeId) : ∃ (q : Nat) (w1 : World), q = w.heap.size ∧ w1 = w.alloc (.cells #[.slice A N c, .int .i64 0, .int .i64 0] t) ∧ RdC w1 q A N c 0 0 ∧ Ext w w1 :=
 ⟨_, _, rfl, rfl, ⟨by go_simp, by go_simp, by go_simp, by go_simp, by go_simp⟩, (Ext.refl _).alloc _⟩
/-- what bounds the rows under way -/
structure Bnd (NN : Nat) (st : Except Int (List Nat)) (C : Col) : Prop where
 n : bdS NN st C.nodes.length
 f : C.first.length = C.nodes.length
 t : bdS NN st C.tos.length
 e : C.edges.length = C.tos.length
/-- the loop over the rows -/
structure InvO (NN : Nat) (cnt : Int) (X : Except Int (Col × List Nat)) (i : Nat) (node edge : Int) (C : Col) (st : Except Int (List Nat)) : Prop where
 x : X = rowsS (cnt.toNat - i) node edge C st
 rn : rgS st node
 re : rgS st edge
 b : Bnd NN st C
 i : i ≤ C.nodes.length
/-- the loop over the entries of a row -/
structure InvI (NN m : Nat) (X : Except Int (Col × List Nat)) (i : Nat) (nd many : Int) (k : Nat) (tv edge : Int) (C : Col) (st : Except Int (List Nat)) : Prop where
 x : X = contE m nd C.nodes C.first (entsS (many.toNat - k) tv edge C.tos C.edges st)
 rn : rgS st nd
 rt : rgS st tv
 re : rgS st edge
 b : Bnd NN st C
 i : i ≤ C.nodes.length
 k : k ≤ C.tos.length
def endS (C : Col) : Except Int (List Nat) → Except Int (Col × List Nat)
 | .error e => .error e
 | .ok r => .ok (C, r)
theorem Bnd.len {NN : Nat} {st : Except Int (List Nat)} {C : Col} (h : Bnd NN st C) : C.nodes.length ≤ NN + 1 ∧ C.first.length ≤ NN + 1 ∧ C.tos.length ≤ NN + 1 ∧ C.edges.length ≤ NN + 1 := by
 have k : ∀ {m : Nat}, bdS NN st m → m ≤ NN + 1 := fun {m} hm => by
  cases st with
  | error e => exact hm
  | ok r => have h' : m + r.length ≤ NN := hm; omega
 exact ⟨k h.n, by rw [h.f]; exact k h.n, k h.t, by rw [h.e]; exact k h.t⟩
theorem Bnd.ok {NN : Nat} {r : List Nat} {C : Col} (h : Bnd NN (.ok r) C) : C.nodes.length ≤ NN ∧ C.tos.length ≤ NN := by
 have h1 : C.nodes.length + r.length ≤ NN := h.n
 have h2 : C.tos.length + r.length ≤ NN := h.t
 omega
theorem rg0 (st : Except Int (List Nat)) : rgS st 0 := by cases st <;> simp [rgS]
theorem inv_start {l : List Nat} {at_ e cnt : Int} {st : Except Int (List Nat)} (h : okR l at_ e st) : InvO l.length cnt (cntS cnt st) 0 0 0 noCol st := by
 have hb : bdS l.length st 0 := by
  cases st with
  | error e => exact Nat.zero_le _
  | ok r => show 0 + r.length ≤ l.length; have := h.2.1; omega
 exact ⟨rfl, rg0 st, rg0 st, ⟨hb, rfl, hb, rfl⟩, Nat.zero_le _⟩
/-- what a number read leaves -/
theorem bd_num {NN len : Nat} {st : Except Int (List Nat)} {r : List Nat} (h : bdS NN (.ok r) len) (hs : ∀ s, st = .ok s → s.length ≤ r.length) : bdS NN st len ∧ ((∀ s, st = .ok s → s.length < r.length) → bdS NN st (len + 1)) := by
 have h' : len + r.length ≤ NN := h
 cases st with
 | error e => exact ⟨show len ≤ NN + 1 by omega, fun _ => show len + 1 ≤ NN + 1 by omega⟩
 | ok s =>
  have := hs s rfl
  exact ⟨show len + s.length ≤ NN by omega, fun k => by have := k s rfl; show len + 1 + s.length ≤ NN; omega⟩
theorem stU_suf {r : List Nat} {x : Int} {st : Except Int (List Nat)} (h : stU (.ok r) x st) : ∀ s, st = .ok s → s.length < r.length := fun s hs => by
 unfold stU at h
 cases hu : uI r with
 | error e => simp only [hu] at h; rw [h] at hs; cases hs
 | ok p => obtain ⟨n, r'⟩ := p; simp only [hu] at h; rw [h.2] at hs; cases hs; exact (uI_suf hu).1
theorem stI_suf {r : List Nat} {base n x : Int} {st : Except Int (List Nat)} (h : stI (.ok r) base n x st) : ∀ s, st = .ok s → s = r ∧ 0 ≤ x ∧ x ≤ 1000000 := fun s hs => by
 unfold stI at h
 cases hu : idM base n r with
 | error e => simp only [hu] at h; rw [h] at hs; cases hs
 | ok p => obtain ⟨m, r'⟩ := p; simp only [hu] at h; rw [h.2] at hs; cases hs; rw [h.1]; exact idM_suf hu
theorem chk_no {l : List Nat} {at_ e many : Int} {st : Except Int (List Nat)} (hO : okR l at_ e st) (h : (decide (e = 0) && decide (many = 0)) = false) : chkS st many = st := by
 cases st with
 | error er => rfl
 | ok r =>
  rw [hO.1] at h
  have : many ≠ 0 := by simpa using h
  exact if_neg this
theorem chk_yes {l : List Nat} {at_ e many : Int} {st : Except Int (List Nat)} (hO : okR l at_ e st) (h : (decide (e = 0) && decide (many = 0)) = true) : chkS st many = .error 1 := by
 rw [Bool.and_eq_true, decide_eq_true_eq, decide_eq_true_eq] at h
 cases st with
 | error er => exact absurd (hO.1.symm.trans h.1) hO.2
 | ok r => exact if_pos h.2
theorem rg_any {st : Except Int (List Nat)} {r : List Nat} {x : Int} (h : rgS (.ok r) x) : rgS st x := by
 cases st with
 | error e => trivial
 | ok s => exact h
theorem inv_row {NN i : Nat} {cnt node edge d nd many : Int} {X : Except Int (Col × List Nat)} {C : Col} {r : List Nat} {st1 st2 st3 : Except Int (List Nat)} (h : InvO NN cnt X i node edge C (.ok r)) (hi : (i : Int) < cnt) (h1 : stU (.ok r) d st1) (h2 : stI st1 node d nd st2) (h3 : stU st2 many st3) : InvI NN (cnt.toNat - (i + 1)) X (i + 1) nd many 0 nd edge { { C with nodes := C.nodes ++ [nd] } with first := C.first ++ [(C.tos.length : Int)] } (chkS st3 many) := by
 have hx := h.x
 rw [show cnt.toNat - i = (cnt.toNat - (i + 1)) + 1 by omega] at hx
 have hy := rows_step hx h1 h2 h3
 have hk : ∀ s, chkS st3 many = .ok s → st3 = .ok s := fun s hs => by
  cases st3 with
  | error e => cases hs
  | ok q =>
   unfold chkS at hs
   simp only at hs
   split at hs
   ·cases hs
   ·exact hs
 have hsuf : ∀ s, chkS st3 many = .ok s → (s.length < r.length ∧ 0 ≤ nd ∧ nd ≤ 1000000) := fun s hs => by
  have hs3 := hk s hs
  cases st1 with
  | error e => unfold stI at h2; simp only at h2; rw [h2] at h3; unfold stU at h3; simp only at h3; rw [h3] at hs3; cases hs3
  | ok r1 =>
   cases st2 with
   | error e => unfold stU at h3; simp only at h3; rw [h3] at hs3; cases hs3
   | ok r2 =>
    have a1 := stU_suf h1 r1 rfl
    obtain ⟨a2, a3, a4⟩ := stI_suf h2 r2 rfl
    have a5 := stU_suf h3 s hs3
    rw [a2] at a5
    exact ⟨by omega, a3, a4⟩
 have hrn : rgS (chkS st3 many) nd := by
  cases hc : chkS st3 many with
  | error e => trivial
  | ok s => exact (hsuf s hc).2
 have hbn := (bd_num (st := chkS st3 many) h.b.n (fun s hs => Nat.le_of_lt (hsuf s hs).1)).2 (fun s hs => (hsuf s hs).1)
 have hbt := (bd_num (st := chkS st3 many) h.b.t (fun s hs => Nat.le_of_lt (hsuf s hs).1)).1
 exact ⟨hy, hrn, hrn, rg_any h.re, ⟨by show bdS _ _ (C.nodes ++ [nd]).length; rw [List.length_append]; exact hbn, by show (C.first ++ _).length = (C.nodes ++ _).length; rw [List.length_append, List.length_append, h.b.f]; rfl, hbt, h.b.e⟩, by show i + 1 ≤ (C.nodes ++ [nd]).length; rw [List.length_append]; have := h.i; simp; omega, Nat.zero_le _⟩
theorem inv_ent {NN m i k : Nat} {nd many tv edge x1 x2 : Int} {X : Except Int (Col × List Nat)} {C : Col} {r : List Nat} {st1 st2 : Except Int (List Nat)} (h : InvI NN m X i nd many k tv edge C (.ok r)) (hk : (k : Int) < many) (h1 : stN (.ok r) tv x1 st1) (h2 : stN st1 edge x2 st2) : InvI NN m X i nd many (k + 1) x1 x2 { { C with tos := C.tos ++ [x1] } with edges := C.edges ++ [x2] } st2 := by
 have hx := h.x
 rw [show many.toNat - k = (many.toNat - (k + 1)) + 1 by omega] at hx
 have hy := ents_step hx h1 h2
 have hb0 := h.b.ok
 obtain ⟨r1, b1, b2⟩ := bd_push h.b.t hb0.2 h1
 obtain ⟨r1n, b1n, -⟩ := bd_push h.b.n hb0.1 h1
 have e2 : rgS st2 x2 := by
  cases st1 with
  | error e => unfold stN at h2; simp only at h2; rw [h2]; trivial
  | ok s => exact (bd_push (NN := NN) (len := 0) (st := .ok s) (show 0 + s.length ≤ NN by have h' : C.tos.length + s.length ≤ NN := b1; omega) (Nat.zero_le _) h2).1
 have e1 : rgS st2 x1 := by
  cases st1 with
  | error e => unfold stN at h2; simp only at h2; rw [h2]; trivial
  | ok s => exact rg_any r1
 have bt : bdS NN st2 (C.tos.length + 1) := by
  cases st1 with
  | error e => unfold stN at h2; simp only at h2; rw [h2]; exact b2 r rfl
  | ok s => exact (bd_push (b2 r rfl) (by have h' : C.tos.length + 1 + s.length ≤ NN := b2 r rfl; omega) h2).2.1
 have bn : bdS NN st2 C.nodes.length := by
  cases st1 with
  | error e => unfold stN at h2; simp only at h2; rw [h2]; exact b1n
  | ok s => exact (bd_push b1n hb0.1 h2).2.1
 exact ⟨hy, rg_any h.rn, e1, e2, ⟨bn, h.b.f, by show bdS _ _ (C.tos ++ [x1]).length; rw [List.length_append]; exact bt, by show (C.edges ++ _).length = (C.tos ++ _).length; rw [List.length_append, List.length_append, h.b.e]; rfl⟩, h.i, by show k + 1 ≤ (C.tos ++ [x1]).length; rw [List.length_append]; have := h.k; simp; omega⟩
theorem inv_out {NN i k : Nat} {cnt nd many tv edge : Int} {X : Except Int (Col × List Nat)} {C : Col} {st : Except Int (List Nat)} (h : InvI NN (cnt.toNat - i) X i nd many k tv edge C st) (hk : ∀ r, st = .ok r → ¬ (k : Int) < many) : InvO NN cnt X i nd edge C st := by
 refine ⟨?_, h.rn, h.re, h.b, h.i⟩
 cases st with
 | error e => exact ents_err h.x
 | ok r =>
  have hx := h.x
  rw [show many.toNat - k = 0 by have := hk r rfl; omega] at hx
  exact ents_end hx
theorem inv_end {NN i : Nat} {cnt node edge : Int} {X : Except Int (Col × List Nat)} {C : Col} {st : Except Int (List Nat)} (h : InvO NN cnt X i node edge C st) (hk : ∀ r, st = .ok r → ¬ (i : Int) < cnt) : X = endS C st ∧ Bnd NN st C := by
 refine ⟨?_, h.b⟩
 cases st with
 | error e => exact h.x
 | ok r =>
  have hx := h.x
  rw [show cnt.toNat - i = 0 by have := hk r rfl; omega] at hx
  exact hx
theorem dec_err {D : Except Int Col} {X : Except Int (Col × List Nat)} {C : Col} {e : Int} (h : D = endC X) (hx : X = endS C (.error e)) : decR D = (e, noCol) := by rw [h, hx]; rfl
theorem dec_bad {D : Except Int Col} {X : Except Int (Col × List Nat)} {C : Col} {r : List Nat} (h : D = endC X) (hx : X = endS C (.ok r)) (hb : colB (finC C) = false) : decR D = (1, noCol) := by
 rw [h, hx]; unfold endS endC; simp only; rw [if_neg (by rw [hb]; exact Bool.false_ne_true)]; rfl
theorem dec_more {D : Except Int Col} {X : Except Int (Col × List Nat)} {C : Col} {r : List Nat} (h : D = endC X) (hx : X = endS C (.ok r)) (hb : colB (finC C) = true) (hr : r ≠ []) : decR D = (2, noCol) := by
 rw [h, hx]; unfold endS endC; simp only; rw [if_pos hb, if_neg hr]; rfl
theorem dec_good {D : Except Int Col} {X : Except Int (Col × List Nat)} {C : Col} {r : List Nat} (h : D = endC X) (hx : X = endS C (.ok r)) (hb : colB (finC C) = true) (hr : r = []) : decR D = (0, finC C) := by
 rw [h, hx]; unfold endS endC; simp only; rw [if_pos hb, if_pos hr]; rfl
theorem finC_len {NN : Nat} {st : Except Int (List Nat)} {C : Col} (h : Bnd NN st C) : (finC C).nodes.length ≤ NN + 1 ∧ (finC C).first.length ≤ NN + 2 ∧ (finC C).tos.length ≤ NN + 1 ∧ (finC C).edges.length ≤ NN + 1 := by
 obtain ⟨h0, h1, h2, h3⟩ := h.len
 unfold finC
 split
 ·exact ⟨h0, by omega, h2, h3⟩
 ·exact ⟨h0, by show (C.first ++ _).length ≤ _; rw [List.length_append]; show C.first.length + 1 ≤ _; omega, h2, h3⟩
end Go.Proofs.Ytnheioehadldmaa
