/- PARTS OF THE WALKS, joined: CpI, CpC, CpD, CoZ, CpA. -/
import Derived.Test.YtnheioehadldmaaGreatS17
import Derived.Test.YtnheioehadldmaaGreatS11
import Derived.Test.YtnheioehadldmaaGreatS04
import Derived.Test.YtnheioehadldmaaGreatS09
import Derived.Test.YtnheioehadldmaaGreatS18
import Derived.Test.YtnheioehadldmaaGreatS14
/- THE WALKS over slices.IndexFunc, slices.DeleteFunc at entries; column.Row, column.Degree. -/
namespace Go.Proofs.YtnheioehadldmaaGreat
open Go.RowKit
set_option maxRecDepth 100000 in
set_option maxHeartbeats 3200000 in
theorem co_unpackO (c : Col) (ok : Nat → Prop) (A B Cx D : Option Addr) (k0 k1 k2 k3 : Nat) (w : World) (hv : ColAt w ok A B Cx D c) (hs : shapeP c) (hm : c.tos.length ≤ 8000000) :
  Calls Tryz.prog 44 #[agC c A B Cx D k0 k1 k2 k3] w fun e w' => ∃ v, e = .returned v ∧ OA w' w.heap.size v (flatC c) ∧ Ext w w' := by
 obtain ⟨q, w1, hq, hw1, ⟨a0, a1, a2, a3⟩, hx⟩ := box_col w c A B Cx D k0 k1 k2 k3 29
 have HW := Lib.hid hw1
 have HQ := Lib.hid hq
 have HX := Lib.hid hx
 have hnl := hv.n.len
 have HV := Lib.hid (hv.ext hx)
 obtain ⟨R, hR⟩ : ∃ R, R = flatC c := ⟨_, rfl⟩
 rw [← hR]
 have HR := Lib.hid hR
 clear hw1 hq hv hx hR
 unfold agC
 go_enter Tryz.func44, Tryz.ntmps44
 go_upto_region 1 with (fail)
 rw [← HW.out, ← HQ.out]
 clear HW HQ
 by_cases hn0 : c.nodes.length = 0
 ·have hz : R = [] := by
   rw [HR.out]; unfold flatC; rw [hn0]; rfl
  subst hz
  clear HV HR
  generalize c.nodes.length = nl at *
  subst hn0
  go_wp2_with fail
  go_loopw [3, 10] (fun v u W => ∃ (_ : Nat), v = .slice none 0 0 ∧ u = .int .i64 0 ∧ Hid (Ext w1 W)) (fun _ _ _ => 0)
  case atStart => exact ⟨0, rfl, rfl, Lib.hid (by solve_by_elim [X0, X1, X2, X3])⟩
  case round =>
   obtain ⟨-, rfl, rfl, hE⟩ := hrel
   replace a0 := hE.out.cell a0
   go_wp2_with fail
   go_ret
   exact ⟨_, rfl, OwnG.nil _ _ _ _ _, HX.out.trans hE.out⟩
 ·have hS : ShapeC c := by
   rcases hs with ⟨h1, -⟩ | h1
   ·exact absurd (by rw [h1]; rfl) hn0
   ·exact h1
  have hfl : c.nodes.length + 1 ≤ c.first.length := by have := hS.len; omega
  have hel : c.tos.length ≤ c.edges.length := by have := hS.same; omega
  have hlast := hS.lt (i := 0) (j := c.nodes.length) (by omega) (Nat.le_refl _)
  rw [hS.zero, hS.last] at hlast
  obtain ⟨bn, on, rfl, hcn⟩ := HV.out.n.2 (by omega)
  obtain ⟨bf, of, rfl, hcf⟩ := HV.out.f.2 (by omega)
  obtain ⟨bt, ot, rfl, hct⟩ := HV.out.t.2 (by omega)
  obtain ⟨be, oe, rfl, hce⟩ := HV.out.e.2 (by omega)
  have HN := Lib.hid (fun t (ht : t < c.nodes.length) W (e : Ext w1 W) => (by have h := (hcn t ht).2; rw [Nat.mul_one, ← getElem!_pos _ t ht] at h; exact e.cell h : W.cell? ⟨bn, on + t, none⟩ = some (.int .i64 c.nodes[t]!)))
  have HF := Lib.hid (fun t (ht : t < c.first.length) W (e : Ext w1 W) => (by have h := (hcf t ht).2; rw [Nat.mul_one, ← getElem!_pos _ t ht] at h; exact e.cell h : W.cell? ⟨bf, of + t, none⟩ = some (.int .i64 c.first[t]!)))
  have HT := Lib.hid (fun t (ht : t < c.tos.length) W (e : Ext w1 W) => (by have h := (hct t ht).2; rw [Nat.mul_one, ← getElem!_pos _ t ht] at h; exact e.cell h : W.cell? ⟨bt, ot + t, none⟩ = some (.int .i64 c.tos[t]!)))
  have HEE := Lib.hid (fun t (ht : t < c.edges.length) W (e : Ext w1 W) => (by have h := (hce t ht).2; rw [Nat.mul_one, ← getElem!_pos _ t ht] at h; exact e.cell h : W.cell? ⟨be, oe + t, none⟩ = some (.int .i64 c.edges[t]!)))
  have MKQ := Lib.hid (fun V (e : Ext w1 V) => (⟨e.cell a0, e.cell a1, e.cell a2, e.cell a3⟩ : (V.cell? ⟨q, 0, none⟩ = some (.slice (some ⟨bn, on, none⟩) c.nodes.length k0) ∧ V.cell? ⟨q, 1, none⟩ = some (.slice (some ⟨bf, of, none⟩) c.first.length k1) ∧ V.cell? ⟨q, 2, none⟩ = some (.slice (some ⟨bt, ot, none⟩) c.tos.length k2) ∧ V.cell? ⟨q, 3, none⟩ = some (.slice (some ⟨be, oe, none⟩) c.edges.length k3))))
  have HS := Lib.hid hS
  clear hcn hcf hct hce HV hn0 hlast
  go_wp2_with fail
  go_loopw [3, 10] (fun v3 u W => ∃ (vO : Value) (i : Nat), vO = v3 ∧ u = .int .i64 i ∧ i ≤ c.nodes.length ∧ Hid (OA W w1.heap.size vO (flatK c i)) ∧ Hid (Ext w1 W)) (fun _ u _ => c.nodes.length - (intOf u).toNat)
  case atStart => exact ⟨_, 0, rfl, rfl, Nat.zero_le _, Lib.hid (OwnG.nil _ _ _ _ _), Lib.hid (by solve_by_elim [X0, X1, X2, X3])⟩
  case round =>
   obtain ⟨vO, i, rfl, rfl, hi, HO, hE⟩ := hrel
   obtain ⟨a0, a1, a2, a3⟩ := MKQ.out wr hE.out
   by_cases hlt : i < c.nodes.length
   ·obtain ⟨nv, hnv⟩ : ∃ nv, nv = c.nodes[i]! := ⟨_, rfl⟩
    have HCN := Lib.hid (HN.out i hlt)
    rw [← hnv] at HCN
    have n0 := HCN.out wr hE.out
    have f0 := HF.out i (by omega) wr hE.out
    have hi1 : i + 1 < c.first.length := by omega
    have hi0 : i < c.first.length := by omega
    obtain ⟨x, hx⟩ : ∃ x : Nat, x = c.first[i]!.toNat := ⟨_, rfl⟩
    obtain ⟨y, hy⟩ : ∃ y : Nat, y = c.first[i + 1]!.toNat := ⟨_, rfl⟩
    have ex : c.first[i]! = (x : Int) := by have := HS.out.nn (i := i) (by omega); omega
    have ey : c.first[i + 1]! = (y : Int) := by have := HS.out.nn (i := i + 1) (by omega); omega
    have hxy : x ≤ y := by have := HS.out.rise i hlt; omega
    have hyt : y ≤ c.tos.length := by have := HS.out.le (i := i + 1) (by omega); omega
    have hlx := flatK_len HS.out hi
    have wi : IntKind.i64.wrap ((i : Int) + 1) = ((i + 1 : Nat) : Int) := by rw [IntKind.wrap_i64]; omega
    have HFN := Lib.hid (fun W (e : Ext w1 W) => (by have h := HF.out (i + 1) hi1 W e; rw [ey] at h; exact h : W.cell? ⟨bf, of + (i + 1), none⟩ = some (.int .i64 (y : Int))))
    have HSC := Lib.hid (flatK_succ c i)
    rw [← hy] at HSC
    have HRS := Lib.hid (fun k (hk : x ≤ k) => ((rowK_snoc (c := c) (i := i) (k := k) (by omega)).trans (by rw [hnv]; rfl) : rowK c i (k + 1) = rowK c i k ++ [(⟨nv, c.tos[k]!, c.edges[k]!⟩ : Sh)]))
    have HR0 := Lib.hid (by rw [hx]; exact rowK_start c i : rowK c i x = [])
    have HRL := Lib.hid (fun k => (by unfold rowK; rw [List.length_map, List.length_range', ← hx] : (rowK c i k).length = k - x))
    rw [← hx] at hlx
    have HLX := Lib.hid hlx
    clear hlx
    rw [ex] at f0
    have HE0 := hE
    have HO0 := Lib.hid (by rw [HR0.out, List.append_nil]; exact HO.out : OA wr w1.heap.size vO (flatK c i ++ rowK c i x))
    clear hx hy ex ey HO hE HR0 hnv
    go_wp2_with fail
    go_loopw [3, 6] (fun v3 u W => ∃ (vO : Value) (k : Nat), vO = v3 ∧ u = .int .i64 k ∧ x ≤ k ∧ k ≤ y ∧ Hid (OA W w1.heap.size vO (flatK c i ++ rowK c i k)) ∧ Hid (Ext w1 W)) (fun _ u _ => y - (intOf u).toNat)
    case atStart => exact ⟨_, x, rfl, rfl, Nat.le_refl _, hxy, HO0, HE0⟩
    case round =>
     clear HO0 HE0 a0 a1 a2 a3 n0 f0
     obtain ⟨vO, k, rfl, rfl, hxk, hky, HO, hE⟩ := hrel
     obtain ⟨a0, a1, a2, a3⟩ := MKQ.out wr hE.out
     have f1 := HFN.out wr hE.out
     by_cases hky' : k < y
     ·have hkt : k < c.tos.length := by omega
      have hke : k < c.edges.length := by omega
      have HCT := Lib.hid (HT.out k hkt)
      have HCE := Lib.hid (HEE.out k hke)
      have hl8 : (flatK c i ++ rowK c i k).length + 1 ≤ 8388608 := by rw [List.length_append, HLX.out, HRL.out]; omega
      have HSN := Lib.hid (by rw [HRS.out k hxk, List.append_assoc] : flatK c i ++ rowK c i (k + 1) = flatK c i ++ rowK c i k ++ [(⟨nv, c.tos[k]!, c.edges[k]!⟩ : Sh)])
      generalize c.tos[k]! = tv at *
      generalize c.edges[k]! = ev at *
      have MK := Lib.hid (fun V (e : Ext wr V) => (⟨MKQ.out V (hE.out.trans e), HCT.out V (hE.out.trans e), HCE.out V (hE.out.trans e)⟩ : (V.cell? ⟨q, 0, none⟩ = some (.slice (some ⟨bn, on, none⟩) c.nodes.length k0) ∧ V.cell? ⟨q, 1, none⟩ = some (.slice (some ⟨bf, of, none⟩) c.first.length k1) ∧ V.cell? ⟨q, 2, none⟩ = some (.slice (some ⟨bt, ot, none⟩) c.tos.length k2) ∧ V.cell? ⟨q, 3, none⟩ = some (.slice (some ⟨be, oe, none⟩) c.edges.length k3)) ∧ V.cell? ⟨bt, ot + k, none⟩ = some (.int .i64 tv) ∧ V.cell? ⟨be, oe + k, none⟩ = some (.int .i64 ev)))
      go_upto_region 8 with (fail)
      refine wp_region_held_drew (S := (fun V => (V.cell? ⟨q, 0, none⟩ = some (.slice (some ⟨bn, on, none⟩) c.nodes.length k0) ∧ V.cell? ⟨q, 1, none⟩ = some (.slice (some ⟨bf, of, none⟩) c.first.length k1) ∧ V.cell? ⟨q, 2, none⟩ = some (.slice (some ⟨bt, ot, none⟩) c.tos.length k2) ∧ V.cell? ⟨q, 3, none⟩ = some (.slice (some ⟨be, oe, none⟩) c.edges.length k3)) ∧ V.cell? ⟨bt, ot + k, none⟩ = some (.int .i64 tv) ∧ V.cell? ⟨be, oe + k, none⟩ = some (.int .i64 ev))) (by kernel_rfl) ?hs66001 (fun hHeld => ?go66001)
      case hs66001 => (first | exact MK.out _ (by solve_by_elim [X0, X1, X2, X3]) | exact MK6.out _ (by solve_by_elim [X0, X1, X2, X3]))
      refine TK 0 (v := ?v66002) hHeld ?hy66002 ?_
      case hy66002 => (intro w hSw; (try dsimp only at hSw); go_simp <;> first | with_reducible rfl | rw [if_neg (by omega)] | rw [if_pos (by omega)])
      (try simp only [PU])
      refine TK 1 (v := ?v66003) hHeld ?hy66003 ?_
      case hy66003 => (intro w hSw; (try dsimp only at hSw); go_simp <;> first | with_reducible rfl | rw [if_neg (by omega)] | rw [if_pos (by omega)])
      (try simp only [PU])
      refine TK 2 (v := ?v66004) hHeld ?hy66004 ?_
      case hy66004 => (intro w hSw; (try dsimp only at hSw); go_simp <;> first | with_reducible rfl | rw [if_neg (by omega)] | rw [if_pos (by omega)])
      (try simp only [PU])
      refine TK 3 (v := ?v66005) hHeld ?hy66005 ?_
      case hy66005 => (intro w hSw; (try dsimp only at hSw); go_simp <;> first | with_reducible rfl | rw [if_neg (by omega)] | rw [if_pos (by omega)])
      (try simp only [PU])
      refine TK 4 (v := ?v66006) hHeld ?hy66006 ?_
      case hy66006 => (intro w hSw; (try dsimp only at hSw); go_simp <;> first | with_reducible rfl | rw [if_neg (by omega)] | rw [if_pos (by omega)])
      (try simp only [PU])
      refine TK 5 (v := ?v66007) hHeld ?hy66007 ?_
      case hy66007 => (intro w hSw; (try dsimp only at hSw); go_simp <;> first | with_reducible rfl | rw [if_neg (by omega)] | rw [if_pos (by omega)])
      (try simp only [PU])
      refine TK 6 (v := ?v66008) hHeld ?hy66008 ?_
      case hy66008 => (intro w hSw; (try dsimp only at hSw); go_simp <;> first | with_reducible rfl | rw [if_neg (by omega)] | rw [if_pos (by omega)])
      (try simp only [PU])
      refine TK 7 (v := ?v66009) hHeld ?hy66009 ?_
      case hy66009 => (intro w hSw; (try dsimp only at hSw); go_simp <;> first | with_reducible rfl | rw [if_neg (by omega)] | rw [if_pos (by omega)])
      (try simp only [PU])
      refine TK 8 (v := ?v66010) hHeld ?hy66010 ?_
      case hy66010 => (intro w hSw; (try dsimp only at hSw); go_simp <;> first | with_reducible rfl | rw [if_neg (by omega)] | rw [if_pos (by omega)])
      (try simp only [PU])
      refine TK 9 (v := ?v66011) hHeld ?hy66011 ?_
      case hy66011 => (intro w hSw; (try dsimp only at hSw); go_simp <;> first | with_reducible rfl | rw [if_neg (by omega)] | rw [if_pos (by omega)])
      (try simp only [PU])
      refine TK 10 (v := ?v66012) hHeld ?hy66012 ?_
      case hy66012 => (intro w hSw; (try dsimp only at hSw); go_simp <;> first | with_reducible rfl | rw [if_neg (by omega)] | rw [if_pos (by omega)])
      (try simp only [PU])
      refine TK 11 (v := ?v66013) hHeld ?hy66013 ?_
      case hy66013 => (intro w hSw; (try dsimp only at hSw); go_simp <;> first | with_reducible rfl | rw [if_neg (by omega)] | rw [if_pos (by omega)])
      (try simp only [PU])
      refine TK 12 (v := ?v66014) hHeld ?hy66014 ?_
      case hy66014 => (intro w hSw; (try dsimp only at hSw); go_simp <;> first | with_reducible rfl | rw [if_neg (by omega)] | rw [if_pos (by omega)])
      (try simp only [PU])
      refine wpAnyH_ready (rs := [13]) (by kernel_rfl) (by simp) ?_
      refine AllReadyH.cons (o := ⟨_, _, _, _, _, _⟩) rfl (fun K hK => ?step66015x0) ?more66015x0
      case more66015x0 => exact AllReadyH.nil
      go_simp
      refine hK.out _ _ ?hS66015x0 (fun H66015 => ?_)
      case hS66015x0 => first | (first | exact MK.out _ (by solve_by_elim [X0, X1, X2, X3]) | exact MK6.out _ (by solve_by_elim [X0, X1, X2, X3])) | ((try dsimp only); (first | exact MK.out _ (by solve_by_elim [X0, X1, X2, X3]) | exact MK6.out _ (by solve_by_elim [X0, X1, X2, X3])))
      clear hK K
      clear hHeld
      (try simp only [PU])
      refine wpAnyH_ready (rs := [14]) (by kernel_rfl) (by simp) ?_
      refine AllReadyH.cons (o := ⟨_, _, _, _, _, _⟩) rfl (fun K hK => ?step66016x0) ?more66016x0
      case more66016x0 => exact AllReadyH.nil
      (refine step_pushAt (v := vO) (hs := flatK c i ++ rowK c i k) T_ka rfl (.tmp 30) (.tmp 43) rfl rfl (OwnG.ext HO.out (by solve_by_elim [X0, X1, X2, X3])) (Nat.le_trans hE.out.le (Ext.le (a := wr) (by solve_by_elim [X0, X1, X2, X3]))) (⟨nv, tv, ev⟩ : Sh) trivial ⟨_, 0, none⟩ 1 rfl (adj_cell (by go_simp) (by go_simp) (by go_simp)) hl8 (by decide) ?_; intro v6 w6 hO6 hg6 hd6; have hE6 : Ext w1 w6 := (hE.out.trans (show Ext wr _ from (by solve_by_elim [X0, X1, X2, X3]))).grown hg6 (fun g e => (OwnG.lt HO.out e).1); have HO6 := Lib.hid hO6; have HE6 := Lib.hid hE6; have MK6 := Lib.hid (fun V (e : Ext w6 V) => (⟨MKQ.out V (HE6.out.trans e), (HCT.out V (HE6.out.trans e)), (HCE.out V (HE6.out.trans e))⟩ : (V.cell? ⟨q, 0, none⟩ = some (.slice (some ⟨bn, on, none⟩) c.nodes.length k0) ∧ V.cell? ⟨q, 1, none⟩ = some (.slice (some ⟨bf, of, none⟩) c.first.length k1) ∧ V.cell? ⟨q, 2, none⟩ = some (.slice (some ⟨bt, ot, none⟩) c.tos.length k2) ∧ V.cell? ⟨q, 3, none⟩ = some (.slice (some ⟨be, oe, none⟩) c.edges.length k3)) ∧ V.cell? ⟨bt, ot + k, none⟩ = some (.int .i64 tv) ∧ V.cell? ⟨be, oe + k, none⟩ = some (.int .i64 ev))); clear hO6 hg6 hd6 hE6)
      refine hK.out _ _ ?hS66016x0 (fun H66016 => ?_)
      case hS66016x0 => first | (first | exact MK.out _ (by solve_by_elim [X0, X1, X2, X3]) | exact MK6.out _ (by solve_by_elim [X0, X1, X2, X3])) | ((try dsimp only); (first | exact MK.out _ (by solve_by_elim [X0, X1, X2, X3]) | exact MK6.out _ (by solve_by_elim [X0, X1, X2, X3])))
      clear hK K
      clear H66015
      (try simp only [PU])
      refine TK 15 (v := ?v66017) H66016 ?hy66017 ?_
      case hy66017 => (intro w hSw; (try dsimp only at hSw); go_simp <;> first | with_reducible rfl | rw [if_neg (by omega)] | rw [if_pos (by omega)])
      (try simp only [PU])
      refine wpAnyH_done (by kernel_rfl) ?_ _
      clear H66016
      go_wp2_with fail
      go_roundw
      case rel => exact ⟨_, k + 1, rfl, by go_num, by omega, by omega, Lib.hid (by rw [HSN.out]; exact HO6.out), HE6⟩
      case measure => simp [intOf]; omega
     ·have hke : k = y := by omega
      have HOF := Lib.hid (by rw [HSC.out, ← hke]; exact HO.out : OA wr w1.heap.size vO (flatK c (i + 1)))
      clear hke HO
      go_wp2_with fail
      go_roundw
      case rel => exact ⟨_, i + 1, rfl, by go_num, by omega, HOF, hE⟩
      case measure => simp [intOf]; omega
   ·have hke : i = c.nodes.length := by omega
    have HOF := Lib.hid (by have h := HO.out; rw [hke] at h; rw [HR.out]; exact h : OA wr w1.heap.size vO R)
    have hRl : R.length = c.tos.length := by rw [HR.out]; exact flatC_len HS.out
    have HLE := Lib.hid HX.out.le
    clear HO hke HR
    go_wp2_with fail
    go_ret
    exact ⟨_, rfl, OwnG.mono HOF.out HLE.out, HX.out.trans hE.out⟩
set_option maxRecDepth 100000 in
theorem co_EntriesO (c : Col) (ok : Nat → Prop) (A B Cx D : Option Addr) (k0 k1 k2 k3 : Nat) (w : World) (hv : ColAt w ok A B Cx D c) (hm : c.tos.length ≤ 8000000) :
  Calls Tryz.prog 19 #[agC c A B Cx D k0 k1 k2 k3] w fun e w' => ∃ v, e = .returned v ∧ OA w' w.heap.size v (entR c) ∧ Ext w w' := by
 obtain ⟨q, w1, hq, hw1, ⟨a0, a1, a2, a3⟩, hx⟩ := box_col w c A B Cx D k0 k1 k2 k3 29
 have HW := Lib.hid hw1
 have HQ := Lib.hid hq
 have HX := Lib.hid hx
 have HVA := Lib.hid (co_Valid c ok A B Cx D k0 k1 k2 k3 w1 (hv.ext hx) hm)
 have HFT := Lib.hid (fun (hs : shapeP c) W (e : Ext w1 W) => co_unpackO c ok A B Cx D k0 k1 k2 k3 W ((hv.ext hx).ext e) hs hm)
 have HE1 := Lib.hid (fun (h : colB c = true) => (by unfold entR; rw [if_pos h] : entR c = flatC c))
 have HE0 := Lib.hid (fun (h : colB c = false) => (by unfold entR; rw [if_neg (by rw [h]; exact Bool.false_ne_true)] : entR c = []))
 have HSP := Lib.hid (fun (h : colB c = true) => valid_shape (colB_iff.1 h))
 obtain ⟨R, hR⟩ : ∃ R, R = entR c := ⟨_, rfl⟩
 rw [← hR] at HE1 HE0 ⊢
 clear hw1 hq hv hx hR
 unfold agC at HVA HFT ⊢
 go_enter Tryz.func19, Tryz.ntmps19
 go_upto_region 1 with (fail)
 rw [← HW.out, ← HQ.out]
 clear HW HQ
 cases hb : colB c
 ·rw [hb] at HVA
  have e := HE0.out hb
  subst e
  clear hb HE0 HE1 HSP HFT
  go_wp2_with (go_at_call 15; ((with_reducible refine (HVA.out).mono ?_); rintro e w2 ⟨rfl, hx2⟩))
  go_ret
  exact ⟨_, rfl, OwnG.nil _ _ _ _ _, HX.out.trans hx2⟩
 ·rw [hb] at HVA
  have e := HE1.out hb
  have HF2 := Lib.hid (HFT.out (HSP.out hb))
  rw [← e] at HF2
  clear hb e HE0 HE1 HSP HFT
  go_wp2_with (first | (go_at_call 15; ((with_reducible refine (HVA.out).mono ?_); rintro e w2 ⟨rfl, hx2⟩; replace a0 := hx2.cell a0; replace a1 := hx2.cell a1; replace a2 := hx2.cell a2; replace a3 := hx2.cell a3)) | (go_at_call 44; ((with_reducible refine (HF2.out _ hx2).mono ?_); rintro e w3 ⟨v3, rfl, hO3, hx3⟩)))
  go_ret
  exact ⟨v3, rfl, OwnG.mono hO3 (Nat.le_trans HX.out.le hx2.le), (HX.out.trans hx2).trans hx3⟩
theorem flat_setC {α : Type} (f : α → List Value) (hf : ∀ x, (f x).length = 3) (a0 a1 a2 : Value) : ∀ (l : List α) (i : Nat) (y : α), i < l.length → f y = [a0, a1, a2] → (l.set i y).flatMap f = (((l.flatMap f).set (i * 3) a0).set (i * 3 + 1) a1).set (i * 3 + 2) a2
 | [], i, y, h, _ => absurd h (by simp)
 | x :: l, 0, y, _, hy => by
  have hx := hf x
  match hfx : f x, hx with
  | [b0, b1, b2], _ => simp [hfx, hy]
 | x :: l, i + 1, y, h, hy => by
  have ih := flat_setC f hf a0 a1 a2 l i y (by simpa using h) hy
  have e0 : (i + 1) * 3 = 3 + i * 3 := by omega
  have hx : (f x).length = 3 := hf x
  have S : ∀ (m : List Value) (j : Nat) (u : Value), (f x ++ m).set (3 + j) u = f x ++ m.set j u := fun m j u => by
   rw [List.set_append_right _ _ (by omega), hx, Nat.add_sub_cancel_left]
  rw [List.set_cons_succ, List.flatMap_cons, List.flatMap_cons, ih, e0, S, Nat.add_assoc, S, Nat.add_assoc, S]
theorem OwnG.put3 {α : Type} {K : KindG α} {e : TypeId} {W : World} {base : Nat} {ok0 : Nat → Prop} {hs : List α} (hK : K.size = 3) {g n c : Nat} (h : OwnG K e W base ok0 (.slice (some ⟨g, 0, none⟩) n c) hs) {i : Nat} (hi : i < hs.length) (y : α) {a0 a1 a2 : Value} (hy : K.enc y = [a0, a1, a2]) (hl : K.lies W (fun b => ok0 b ∧ some b ≠ some g) y) :
  OwnG K e (((W.setCell ⟨g, i * 3, none⟩ a0).setCell ⟨g, i * 3 + 1, none⟩ a1).setCell ⟨g, i * 3 + 2, none⟩ a2) base ok0 (.slice (some ⟨g, 0, none⟩) n c) (hs.set i y) ∧ W.grownBy (((W.setCell ⟨g, i * 3, none⟩ a0).setCell ⟨g, i * 3 + 1, none⟩ a1).setCell ⟨g, i * 3 + 2, none⟩ a2) (some g) := by
 obtain ⟨A, c', hv⟩ := own_form h.own
 injection hv with h1 h2 h3
 subst h2
 obtain ⟨k0, g0⟩ := World.ownsRow.stored h.own (i * 3) a0
 obtain ⟨k1, g1⟩ := World.ownsRow.stored k0 (i * 3 + 1) a1
 obtain ⟨k2, g2⟩ := World.ownsRow.stored k1 (i * 3 + 2) a2
 have G := grown_two g0 (grown_two g1 g2)
 refine ⟨⟨?_, fun p hp => ?_⟩, G⟩
 ·rw [List.length_set, flat_setC K.enc (fun x => by rw [K.len, hK]) _ _ _ hs i y hi hy]; exact k2
 ·have hlies : K.lies W (fun b => ok0 b ∧ some b ≠ (Value.slice (some ⟨g, 0, none⟩) hs.length c).ownBlock) p := by
   rcases List.mem_or_eq_of_mem_set hp with hp | hp
   ·exact h.lies p hp
   ·rw [hp]; exact hl
  exact K.keep _ _ _ _ _ (fun b o x hb hc => ⟨G.cell hc (fun e2 => hb.2 (by rw [e2]; rfl)), hb⟩) hlies
abbrev OwnW (W : World) (base : Nat) (ok0 : Nat → Prop) (v : Value) (hs : List Sh) : Prop := OwnG KA 41 W base ok0 v hs
theorem own_cells3 {W : World} {base g n c : Nat} {ok0 : Nat → Prop} {hs : List Sh} (h : OwnW W base ok0 (.slice (some ⟨g, 0, none⟩) n c) hs) {i : Nat} (hi : i < hs.length) : (W.cell? ⟨g, i * 3, none⟩ = some (.int .i64 hs[i].id) ∧ W.cell? ⟨g, i * 3 + 1, none⟩ = some (.int .i64 hs[i].n) ∧ W.cell? ⟨g, i * 3 + 2, none⟩ = some (.int .i64 hs[i].d)) ∧
  W.frozen? ⟨g, i * 3, none⟩ = false ∧ W.frozen? ⟨g, i * 3 + 1, none⟩ = false ∧ W.frozen? ⟨g, i * 3 + 2, none⟩ = false := by
 obtain ⟨g', hg, -, -, -, -, hc⟩ := OwnG.cellAt h hi
 injection hg with hg
 injection hg with hg
 subst hg
 exact ⟨⟨(hc 0 (by decide)).1, (hc 1 (by decide)).1, (hc 2 (by decide)).1⟩, (hc 0 (by decide)).2, (hc 1 (by decide)).2, (hc 2 (by decide)).2⟩
def PredW (f : Nat) (p : Sh → Bool) (cb : Array Value) (Q : Sh → Prop) (ok0 : Nat → Prop) (g : Nat) (w : World) : Prop := ∀ (W : World) (x : Sh), w.grownBy W (some g) → KA.lies W (fun b => ok0 b ∧ some b ≠ some g) x → Q x → Calls Tryz.prog f (#[Sh.agg x] ++ cb) W fun e w' => e = .returned (.bool (p x)) ∧ Ext W w'
set_option maxRecDepth 100000 in
set_option maxHeartbeats 1600000 in
theorem a_IndexF (p : Sh → Bool) (f : Nat) (eg : ∀ args w, (callFunc f args).run Tryz.prog w = .ok (.enter f args) w) (cb : Array Value) (Q : Sh → Prop) (hs : List Sh) (base : Nat) (ok0 : Nat → Prop) (g n c : Nat) (w : World) (hp : PredW f p cb Q ok0 g w) (hq : ∀ x ∈ hs, Q x) (h : OwnW w base ok0 (.slice (some ⟨g, 0, none⟩) n c) hs) (hn : n = hs.length) (hl : hs.length ≤ 8000000) :
  Calls Tryz.prog 71 #[.slice (some ⟨g, 0, none⟩) n c, .func (.func f) #[] cb] w fun e w' => e = .returned (.int .i64 (idxF (fun x => p x) hs)) ∧ Ext w w' := by
 have HO := Lib.hid h
 have HP := Lib.hid hp
 have HQ := Lib.hid hq
 have HY := Lib.hid (fun h => idxF_none (p := fun x : Sh => p x) (l := hs) h)
 have HB := Lib.hid (fun i (hi : i < hs.length) h1 h2 => idxF_at (p := fun x : Sh => p x) i hi h1 h2)
 obtain ⟨R, hR⟩ : ∃ R, R = idxF (fun x : Sh => p x) hs := ⟨_, rfl⟩
 rw [← hR] at HY HB ⊢
 have HN := Lib.hid hn
 have hnl : n ≤ 8000000 := by omega
 clear h hR hp hn hq
 go_enter Tryz.func71, Tryz.ntmps71
 go_wp2_with fail
 go_loopw [8] (fun u W => ∃ k : Nat, u = .int .i64 k ∧ k ≤ n ∧ Hid (∀ i (hi : i < hs.length), i < k → p hs[i] = false) ∧ Ext w W) (fun u _ => n - (intOf u).toNat)
 case atStart => exact ⟨0, rfl, Nat.zero_le _, Lib.hid (fun i _ hi => absurd hi (Nat.not_lt_zero _)), Ext.refl _⟩
 case round =>
  obtain ⟨k, rfl, hk, hgd, hE⟩ := hrel
  by_cases hlt : k < n
  ·have hkl : k < hs.length := by have := HN.out; omega
   obtain ⟨⟨c0, c1, c2⟩, -⟩ := own_cells3 (HO.out.ext hE) hkl
   have hlie := (HO.out.ext hE).lies hs[k] (List.getElem_mem hkl)
   have HS := Lib.hid (fun (h : p hs[k] = false) i hi (hj : i < k + 1) => (if e : i = k then (by subst e; exact h) else hgd.out i hi (by omega) : p hs[i] = false))
   have HB' := Lib.hid (HB.out k hkl hgd.out)
   have HC := Lib.hid (fun W (e : Ext wr W) => HP.out W hs[k] ((hE.trans e).gr _) (KA.keep _ _ _ _ _ (fun _ _ _ hb hc => ⟨e.cell hc, hb⟩) hlie) (HQ.out _ (List.getElem_mem hkl)))
   unfold Sh.agg at HC
   clear hlie
   clear HB hgd
   generalize hs[k] = x at *
   generalize p x = q at *
   cases q
   ·have HT := Lib.hid (HS.out rfl)
    go_wp2_with (go_at_fn f; ((with_reducible refine (HC.out _ (by solve_by_elim [X0, X1, X2, X3])).mono ?_); rintro e w7 ⟨rfl, hx7⟩))
    go_roundw
    case rel => exact ⟨k + 1, by go_num, by omega, HT, hE.trans hx7⟩
    case measure => simp [intOf]; omega
   ·have HT := Lib.hid (HB'.out rfl)
    go_wp2_with (go_at_fn f; ((with_reducible refine (HC.out _ (by solve_by_elim [X0, X1, X2, X3])).mono ?_); rintro e w7 ⟨rfl, hx7⟩))
    go_ret
    exact ⟨ret_int HT.out.symm, hE.trans hx7⟩
  ·have HT := Lib.hid (HY.out (fun i hi => hgd.out i hi (by have := HN.out; omega)))
   go_wp2_with fail
   go_ret
   exact ⟨ret_int HT.out.symm, hE⟩
set_option maxRecDepth 100000 in
theorem a_IndexF0 (A : Option Addr) (c : Nat) (fv : Value) (w : World) : Calls Tryz.prog 71 #[.slice A 0 c, fv] w fun e w' => e = .returned (.int .i64 (-1)) ∧ Ext w w' := by
 go_enter Tryz.func71, Tryz.ntmps71
 go_wp2_with fail
 go_loopw [8] (fun u W => u = .int .i64 0 ∧ Ext w W) (fun _ _ => 0)
 case atStart => exact ⟨rfl, Ext.refl _⟩
 case round =>
  obtain ⟨rfl, hE⟩ := hrel
  go_wp2_with fail
  go_ret
  exact ⟨rfl, hE⟩
/-- a list struck in place: i elements kept of the first j -/
structure KpA {α : Type} (q : α → Bool) (hs L : List α) (i j : Nat) : Prop where
 lt : i < j
 le : j ≤ hs.length
 len : L.length = hs.length
 lo : L.take i = (hs.take j).filter q
 hi : ∀ t, j ≤ t → L[t]? = hs[t]?
section
variable {α : Type} {q : α → Bool} {hs L : List α} {i j : Nat}
theorem fil1_t {x : α} (h : q x = true) : [x].filter q = [x] := by simp [h]
theorem fil1_f {x : α} (h : q x = false) : [x].filter q = [] := by simp [h]
theorem take_next {l : List α} {j : Nat} (h : j < l.length) : l.take (j + 1) = l.take j ++ [l[j]] := by
 rw [List.take_add_one, List.getElem?_eq_getElem h]; rfl
theorem KpA.start (hi : i < hs.length) (h1 : ∀ t (ht : t < hs.length), t < i → q hs[t] = true) (h2 : q hs[i] = false) : KpA q hs hs i (i + 1) := by
 refine ⟨by omega, hi, rfl, ?_, fun _ _ => rfl⟩
 rw [take_next hi, List.filter_append, fil1_f h2, List.append_nil]
 refine (List.filter_eq_self.2 (fun a ha => ?_)).symm
 obtain ⟨t, ht, rfl⟩ := List.getElem_of_mem ha
 rw [List.length_take] at ht
 rw [List.getElem_take]
 exact h1 t (by omega) (by omega)
theorem KpA.skip (h : KpA q hs L i j) (hj : j < hs.length) (hq : q hs[j] = false) : KpA q hs L i (j + 1) := by
 refine ⟨by have := h.lt; omega, hj, h.len, ?_, fun t ht => h.hi t (by omega)⟩
 rw [take_next hj, List.filter_append, fil1_f hq, List.append_nil, h.lo]
theorem KpA.keep (h : KpA q hs L i j) (hj : j < hs.length) (hq : q hs[j] = true) : KpA q hs (L.set i hs[j]) (i + 1) (j + 1) := by
 have h1 := h.lt
 have h2 := h.len
 refine ⟨by omega, hj, by rw [List.length_set]; exact h2, ?_, fun t ht => ?_⟩
 ·rw [take_next hj, List.filter_append, fil1_t hq, ← h.lo, take_next (l := L.set i hs[j]) (j := i) (by rw [List.length_set]; omega), List.take_set_of_le (Nat.le_refl _)]
  simp
 ·rw [List.getElem?_set_ne (by omega)]; exact h.hi t (by omega)
theorem KpA.done (h : KpA q hs L i hs.length) : L.take i = hs.filter q := by rw [h.lo, List.take_length]
theorem KpA.at_ (h : KpA q hs L i j) (hj : j < hs.length) : ∃ hl : j < L.length, L[j] = hs[j] := by
 have h1 := h.len
 have h2 := h.hi j (Nat.le_refl _)
 rw [List.getElem?_eq_getElem (by omega), List.getElem?_eq_getElem hj] at h2
 exact ⟨by omega, Option.some.inj h2⟩
end
def zAj : Value := .agg #[.int .i64 0, .int .i64 0, .int .i64 0]
theorem zero_aj (w : World) : (zeroValue 41).run Tryz.prog w = .ok zAj w := Tryz.zeroValue41 w
set_option maxRecDepth 100000 in
set_option maxHeartbeats 3200000 in
theorem a_DeleteF (p : Sh → Bool) (f : Nat) (eg : ∀ args w, (callFunc f args).run Tryz.prog w = .ok (.enter f args) w) (cb : Array Value) (Q : Sh → Prop) (hs : List Sh) (base : Nat) (ok0 : Nat → Prop) (g n c : Nat) (w : World) (hp : PredW f p cb Q ok0 g w) (hq : ∀ x ∈ hs, Q x) (h : OwnW w base ok0 (.slice (some ⟨g, 0, none⟩) n c) hs) (hn : n = hs.length) (hl : hs.length ≤ 8000000) :
  Calls Tryz.prog 45 #[.slice (some ⟨g, 0, none⟩) n c, .func (.func f) #[] cb] w fun e w' => ∃ m, e = .returned (.slice (some ⟨g, 0, none⟩) m c) ∧ OwnW w' base ok0 (.slice (some ⟨g, 0, none⟩) m c) (hs.filter (fun x => !p x)) ∧ w.grownBy w' (some g) := by
 have HI := Lib.hid (a_IndexF p f eg cb Q hs base ok0 g n c w hp hq h hn hl)
 have HO := Lib.hid h
 have HP := Lib.hid hp
 have HQ := Lib.hid hq
 have hnl : n ≤ 8000000 := by omega
 have hnc : n ≤ c := by
  rcases h.own.2 with ⟨hv, -⟩ | ⟨g', cap', cur, hv, -, -, hcp, -⟩
  ·simp at hv
  ·simp only [Value.slice.injEq] at hv; omega
 cases hf : hs.findIdx? (fun x => p x) with
 | none =>
  have e1 : idxF (fun x : Sh => p x) hs = -1 := by unfold idxF; rw [hf]
  have HF := Lib.hid (show hs.filter (fun x => !p x) = hs from List.filter_eq_self.2 (fun a ha => by rw [List.findIdx?_eq_none_iff.1 hf a ha]; rfl))
  rw [e1] at HI
  clear h hp hq hf e1 hn hl
  go_enter Tryz.func45, Tryz.ntmps45
  go_wp2_with (go_at_call 71; ((with_reducible refine (HI.out).mono ?_); rintro e w1 ⟨rfl, hx1⟩))
  go_ret
  exact ⟨_, rfl, by rw [HF.out]; exact HO.out.ext hx1, hx1.gr _⟩
 | some i0 =>
  have e1 : idxF (fun x : Sh => p x) hs = (i0 : Int) := by unfold idxF; rw [hf]
  obtain ⟨hi0, hp0, hlo0⟩ := List.findIdx?_eq_some_iff_getElem.1 hf
  have HK0 := Lib.hid (KpA.start (q := fun x : Sh => !p x) hi0 (fun t ht hti => by
   have := hlo0 t hti
   cases hpt : p hs[t]
   ·rfl
   ·rw [hpt] at this; exact absurd rfl this) (by rw [hp0]; rfl))
  rw [e1] at HI
  have HN := Lib.hid hn
  have hi0n : i0 < n := by omega
  have hne : ((i0 : Int) == -1) = false := beq_eq_false_iff_ne.2 (by omega)
  clear h hp hq hf e1 hn hl hi0 hp0 hlo0
  go_enter Tryz.func45, Tryz.ntmps45
  go_wp2_with (go_at_call 71; ((with_reducible refine (HI.out).mono ?_); rintro e w1 ⟨rfl, hx1⟩))
  clear hne
  go_loopw [5, 6] (fun u v W => ∃ (i j : Nat) (L : List Sh), u = .int .i64 i ∧ v = .int .i64 j ∧ i < j ∧ j ≤ n ∧ Hid (OwnW W base ok0 (.slice (some ⟨g, 0, none⟩) n c) L) ∧ Hid (KpA (fun x : Sh => !p x) hs L i j) ∧ Hid (∀ x ∈ L, Q x) ∧ Hid (w.grownBy W (some g))) (fun _ v _ => n - (intOf v).toNat)
  case atStart => exact ⟨i0, i0 + 1, hs, rfl, by go_num, by omega, by omega, Lib.hid (HO.out.ext hx1), HK0, HQ, Lib.hid (hx1.gr _)⟩
  case round =>
   clear HI HK0 hx1
   obtain ⟨i, j, L, rfl, rfl, hij, hj, hown, hkp, hQL, hgr⟩ := hrel
   by_cases hlt : j < n
   ·have hjh : j < hs.length := by have := HN.out; omega
    obtain ⟨hjL, hjx⟩ := hkp.out.at_ hjh
    have hiL : i < L.length := by omega
    obtain ⟨⟨c0, c1, c2⟩, -⟩ := own_cells3 hown.out hjL
    obtain ⟨g1, w2, hg1, hw2, ⟨p0, p1, p2⟩, hx2⟩ := box_adj wr L[j] 41
    have HC := Lib.hid (fun W (e : Ext wr W) => HP.out W L[j] (grown_two hgr.out (e.gr _)) (KA.keep _ _ _ _ _ (fun _ _ _ hb hc => ⟨e.cell hc, hb⟩) (hown.out.lies L[j] (List.getElem_mem hjL))) (hQL.out _ (List.getElem_mem hjL)))
    have HQX := Lib.hid (hQL.out _ (List.getElem_mem hjL))
    have HLX := Lib.hid (hown.out.lies L[j] (List.getElem_mem hjL))
    have HKS := Lib.hid (fun (h : p L[j] = true) => hkp.out.skip hjh (by rw [← hjx, h]; rfl))
    have HKK := Lib.hid (fun (h : p L[j] = false) => (by have := hkp.out.keep hjh (by rw [← hjx, h]; rfl); rwa [← hjx] at this : KpA (fun x : Sh => !p x) hs (L.set i L[j]) (i + 1) (j + 1)))
    have HW2 := Lib.hid hw2
    have HG1 := Lib.hid hg1
    have hgb : g < wr.heap.size := (hown.out.lt rfl).2
    have hgg : g1 ≠ g := by omega
    unfold Sh.agg at HC
    clear hw2 hg1 hkp hjx
    generalize L[j] = x at *
    cases hq : p x
    ·rw [hq] at HC
     have HKK' := Lib.hid (HKK.out hq)
     clear HKS HKK hq
     go_upto_region 8 with (fail)
     rw [← HW2.out, ← HG1.out]
     clear HW2 HG1 c0 c1 c2
     go_upto_region 9 with (go_at_fn f; ((with_reducible refine (HC.out _ hx2).mono ?_); rintro e w7 ⟨rfl, hx7⟩; replace p0 := hx7.cell p0; replace p1 := hx7.cell p1; replace p2 := hx7.cell p2))
     have hO7 := hown.out.ext (hx2.trans hx7)
     obtain ⟨⟨q0, q1, q2⟩, f0, f1, f2⟩ := own_cells3 hO7 hiL
     obtain ⟨hO8, hG8⟩ := OwnG.put3 (K := KA) rfl hO7 hiL x (a0 := .int .i64 x.id) (a1 := .int .i64 x.n) (a2 := .int .i64 x.d) rfl (KA.keep _ _ _ _ _ (fun b o y hb hc => ⟨(hx2.trans hx7).cell hc, hb⟩) HLX.out)
     obtain ⟨W8, hW8⟩ : ∃ W8, W8 = ((w7.setCell ⟨g, i * 3, none⟩ (.int .i64 x.id)).setCell ⟨g, i * 3 + 1, none⟩ (.int .i64 x.n)).setCell ⟨g, i * 3 + 2, none⟩ (.int .i64 x.d) := ⟨_, rfl⟩
     rw [← hW8] at hO8 hG8
     have HO8 := Lib.hid hO8
     have HG8 := Lib.hid (grown_two (grown_two hgr.out ((hx2.trans hx7).gr _)) hG8)
     have HW8 := Lib.hid hW8
     clear hO8 hG8 hW8 hO7 hown hgr HC hx7
     go_upto_region 10 with (fail)
     rw [← HW8.out]
     clear HW8
     go_wp2_with fail
     go_roundw
     case rel => exact ⟨i + 1, j + 1, _, by go_num, by go_num, by omega, by omega, HO8, HKK', Lib.hid (fun y hy => (List.mem_or_eq_of_mem_set hy).elim (fun h => hQL.out y h) (fun h => h ▸ HQX.out)), HG8⟩
     case measure => simp [intOf]; omega
    ·rw [hq] at HC
     have HKS' := Lib.hid (HKS.out hq)
     clear HKS HKK hq
     go_upto_region 8 with (fail)
     rw [← HW2.out, ← HG1.out]
     clear HW2 HG1 c0 c1 c2
     go_wp2_with (go_at_fn f; ((with_reducible refine (HC.out _ hx2).mono ?_); rintro e w7 ⟨rfl, hx7⟩))
     go_roundw
     case rel => exact ⟨i, j + 1, L, rfl, by go_num, by omega, by omega, Lib.hid (hown.out.ext (hx2.trans hx7)), HKS', hQL, Lib.hid (grown_two hgr.out ((hx2.trans hx7).gr _))⟩
     case measure => simp [intOf]; omega
   ·have hjn : j = n := by omega
    subst hjn
    obtain ⟨W9, hcl, hO9, hG9⟩ := OwnG.cleared (P := Tryz.prog) (t := 42) (z := zAj) Tryz.underlying42 zero_aj rfl (by decide) (by decide) hown.out (by have := HN.out; have := hkp.out.len; omega) hij
    have HF := Lib.hid (show L.take i = hs.filter (fun x => !p x) by have h1 := hkp.out; have h2 := HN.out; subst h2; exact h1.done)
    have HO9 := Lib.hid hO9
    have HG9 := Lib.hid (grown_two hgr.out hG9)
    have hin : (i : Int) ≤ (j : Int) := by omega
    have hic : (i : Int) ≤ (c : Int) := by omega
    have hin2 : i ≤ j := by omega
    have hic2 : i ≤ c := by omega
    replace hcl : ∀ ty c', (Builtin.clear_ #[42] ty #[.slice (some ⟨g, i * 3, none⟩) (j - i) c']).run Tryz.prog wr = .ok (.tuple #[]) W9 := hcl
    clear hO9 hG9 hown hkp hgr
    go_wp2_with fail
    go_ret
    exact ⟨_, rfl, by rw [← HF.out]; exact HO9.out, HG9.out⟩
set_option maxRecDepth 100000 in
theorem a_DeleteF0 (A : Option Addr) (c : Nat) (fv : Value) (w : World) : Calls Tryz.prog 45 #[.slice A 0 c, fv] w fun e w' => e = .returned (.slice A 0 c) ∧ Ext w w' := by
 go_enter Tryz.func45, Tryz.ntmps45
 go_wp2_with (go_at_call 71; ((with_reducible refine (a_IndexF0 _ _ _ _).mono ?_); rintro e w1 ⟨rfl, hx1⟩))
 go_ret
 exact ⟨rfl, hx1⟩
theorem a_DeleteV (p : Sh → Bool) (f : Nat) (eg : ∀ args w, (callFunc f args).run Tryz.prog w = .ok (.enter f args) w) (cb : Array Value) (l : List Sh) (w0 : World) (v : Value) (w : World) (hp : ∀ (W : World) (x : Sh), Ext w0 W → Calls Tryz.prog f (#[Sh.agg x] ++ cb) W fun e w' => e = .returned (.bool (p x)) ∧ Ext W w') (h : OA w w0.heap.size v l) (hx : Ext w0 w) (hl : l.length ≤ 8000000) :
  Calls Tryz.prog 45 #[v, .func (.func f) #[] cb] w fun e w' => ∃ v', e = .returned v' ∧ OA w' w0.heap.size v' (l.filter (fun x => !p x)) ∧ Ext w0 w' := by
 rcases h.own.2 with ⟨rfl, h0⟩ | ⟨g, cp, cur, rfl, hb, -, -⟩
 ·obtain rfl : l = [] := List.eq_nil_of_length_eq_zero (by first | exact h0 | simpa using h0)
  exact (a_DeleteF0 none 0 _ w).mono (fun e w' ⟨h1, h2⟩ => ⟨_, h1, OwnG.nil _ _ _ _ _, hx.trans h2⟩)
 ·refine (a_DeleteF p f eg cb (fun _ => True) l w0.heap.size (fun _ => False) g l.length cp w (fun W x hg _ _ => hp W x (hx.grown hg (fun k hk => by cases hk; exact hb))) (fun _ _ => trivial) h rfl hl).mono ?_
  rintro e w' ⟨m, rfl, hO, hg⟩
  exact ⟨_, rfl, hO, hx.grown hg (fun k hk => by cases hk; exact hb)⟩
set_option maxRecDepth 100000 in
theorem co_Row1 (x : Sh) (id : Int) (y0 : Nat) (w : World) (hy : w.cell? ⟨y0, 0, none⟩ = some (.int .i64 id)) :
  Calls Tryz.prog 46 (#[Sh.agg x] ++ #[.pointer (some ⟨y0, 0, none⟩)]) w fun e w' => e = .returned (.bool (!decide (x.id = id))) ∧ Ext w w' := by
 obtain ⟨q, w1, hq, hw1, ⟨c0, c1, c2⟩, hx⟩ := box_adj w x 41
 have hy1 := hx.cell hy
 have HW := Lib.hid hw1
 have HQ := Lib.hid hq
 unfold Sh.agg
 generalize x.id = a at *
 generalize x.n = b at *
 generalize x.d = c at *
 have g : (a != id) = !decide (a = id) := by
  by_cases h : a = id
  ·simp [h]
  ·simp [h]
 have HG := Lib.hid g
 clear hw1 hq hy g
 refine (show Calls Tryz.prog 46 #[.agg #[.int .i64 a, .int .i64 b, .int .i64 c], .pointer (some ⟨y0, 0, none⟩)] w _ from ?_)
 go_enter Tryz.func46, Tryz.ntmps46
 go_upto_region 1 with (fail)
 rw [← HW.out, ← HQ.out]
 clear HW HQ
 go_wp2_with fail
 go_ret
 exact ⟨ret_bool HG.out, hx⟩
theorem eg_row (args : Array Value) (w : World) : (callFunc 46 args).run Tryz.prog w = .ok (.enter 46 args) w :=
 run_enter (c := Tryz.f46.body.get!) Tryz.func46 (by kernel_rfl) (by kernel_rfl) args w
set_option maxRecDepth 100000 in
theorem co_Row (c : Col) (id : Int) (ok : Nat → Prop) (A B Cx D : Option Addr) (k0 k1 k2 k3 : Nat) (w : World) (hv : ColAt w ok A B Cx D c) (hm : c.tos.length ≤ 8000000) :
  Calls Tryz.prog 17 #[agC c A B Cx D k0 k1 k2 k3, .int .i64 id] w fun e w' => ∃ A' c', e = .returned (.slice A' ((entR c).filter (fun a => decide (a.id = id))).length c') ∧ Shares w' (fun b => w.heap.size ≤ b) A' ((entR c).filter (fun a => decide (a.id = id))) ∧ Ext w w' := by
 obtain ⟨q, w1, hq, hw1, ⟨a0, a1, a2, a3⟩, hx1⟩ := box_col w c A B Cx D k0 k1 k2 k3 29
 obtain ⟨y, w2, hy, hw2, hc2, hx2⟩ : ∃ (y : Nat) (w2 : World), y = w1.heap.size ∧ w2 = w1.alloc (.cells #[.int .i64 id] 3) ∧ w2.cell? ⟨y, 0, none⟩ = some (.int .i64 id) ∧ Ext w1 w2 := ⟨_, _, rfl, rfl, by go_simp, (Ext.refl _).alloc _⟩
 replace a0 := hx2.cell a0
 replace a1 := hx2.cell a1
 replace a2 := hx2.cell a2
 replace a3 := hx2.cell a3
 have HW1 := Lib.hid hw1
 have HW2 := Lib.hid hw2
 have HQ := Lib.hid hq
 have HY := Lib.hid (show y = q + 1 by rw [hy, hw1, hq]; simp)
 have HX := Lib.hid (hx1.trans hx2)
 have HEN := Lib.hid (co_EntriesO c ok A B Cx D k0 k1 k2 k3 w2 ((hv.ext hx1).ext hx2) hm)
 have HCY := Lib.hid (fun V (e : Ext w2 V) => e.cell hc2)
 have HEL := Lib.hid (show (entR c).length ≤ 8000000 by
  unfold entR
  split
  ·rename_i h
   rcases valid_shape (colB_iff.1 h) with ⟨h1, h2, h3, h4⟩ | h1
   ·unfold flatC; rw [h1]; exact Nat.zero_le _
   ·rw [flatC_len h1]; exact hm
  ·exact Nat.zero_le _)
 generalize entR c = l at *
 have HFE := Lib.hid (show l.filter (fun x => !(fun x : Sh => !decide (x.id = id)) x) = l.filter (fun a => decide (a.id = id)) by congr 1; funext a; simp)
 clear hw1 hw2 hq hy hv hx1 hx2 hc2 hm
 unfold agC at HEN ⊢
 go_enter Tryz.func17, Tryz.ntmps17
 go_upto_region 1 with (fail)
 rw [← HW1.out, ← HQ.out, ← HY.out, ← HW2.out]
 clear HW1 HW2 HQ HY
 go_wp2_with (first | (go_at_call 19; ((with_reducible refine (HEN.out).mono ?_); rintro e w3 ⟨v3, rfl, hO3, hx3⟩; have HX3 := Lib.hid hx3; have HDL := Lib.hid (a_DeleteV (fun x => !decide (x.id = id)) 46 eg_row #[.pointer (some ⟨y, 0, none⟩)] l w2 v3 w3 (fun W x hx => co_Row1 x id y W (HCY.out _ hx)) hO3 HX3.out HEL.out); clear HEN hO3 hx3)) | (go_at_call 45; ((with_reducible refine (HDL.out).mono ?_); rintro e w4 ⟨v4, rfl, hO4, hx4⟩)))
 rw [HFE.out] at hO4
 obtain ⟨A5, c5, e5, -, hS5⟩ := OA.shares hO4 (by have h1 := List.length_filter_le (fun a : Sh => decide (a.id = id)) l; have h2 := HEL.out; omega)
 subst e5
 clear hO4
 go_ret
 exact ⟨A5, c5, rfl, SliceR.mono hS5 (fun _ _ _ _ hx => ⟨Nat.le_trans HX.out.le hx.1, hx.2⟩), HX.out.trans hx4⟩
set_option maxRecDepth 100000 in
theorem co_Degree (c : Col) (id : Int) (ok : Nat → Prop) (A B Cx D : Option Addr) (k0 k1 k2 k3 : Nat) (w : World) (hv : ColAt w ok A B Cx D c) (hm : c.tos.length ≤ 8000000) :
  Calls Tryz.prog 18 #[agC c A B Cx D k0 k1 k2 k3, .int .i64 id] w fun e w' => e = .returned (.int .i64 (((entR c).filter (fun a => decide (a.id = id))).length : Int)) ∧ Ext w w' := by
 obtain ⟨q, w1, hq, hw1, ⟨a0, a1, a2, a3⟩, hx1⟩ := box_col w c A B Cx D k0 k1 k2 k3 29
 have HW1 := Lib.hid hw1
 have HQ := Lib.hid hq
 have HX := Lib.hid hx1
 have HR := Lib.hid (co_Row c id ok A B Cx D k0 k1 k2 k3 w1 (hv.ext hx1) hm)
 generalize (entR c).filter (fun a => decide (a.id = id)) = l at *
 clear hw1 hq hv hx1 hm
 unfold agC at HR ⊢
 go_enter Tryz.func18, Tryz.ntmps18
 go_upto_region 1 with (fail)
 rw [← HW1.out, ← HQ.out]
 clear HW1 HQ
 go_wp2_with (go_at_call 17; ((with_reducible refine (HR.out).mono ?_); rintro e w3 ⟨A3, c3, rfl, hS3, hx3⟩))
 go_ret
 exact ⟨rfl, HX.out.trans hx3⟩
end Go.Proofs.YtnheioehadldmaaGreat

/- PLAIN: what column.Encode writes; an append of a row of bytes. -/
namespace Go.Proofs.YtnheioehadldmaaGreat
open Go.RowKit
theorem fm_bytes : ∀ l : List Nat, l.flatMap KB.enc = l.map (fun x : Nat => Value.int .u8 (x : Int))
 | [] => rfl
 | x :: l => by rw [List.flatMap_cons, fm_bytes l]; rfl
/-- an own row of bytes appended to an own row of bytes -/
theorem run_catB (ty : TypeId) {w : World} {base base2 : Nat} {v v2 : Value} {l l2 : List Nat} (h : OB w base v l) (hb : base ≤ w.heap.size) (h2 : OB w base2 v2 l2) (h63 : l.length + l2.length ≤ 8388608) :
  ∃ v' w', (Builtin.append_ #[35, 35] ty #[v, v2]).run Tryz.prog w = .ok v' w' ∧ OB w' base v' (l ++ l2) ∧ w.grownBy w' v.ownBlock := by
 obtain ⟨A, c, hv, hle, hB⟩ := h2.byts (by omega)
 have hA : A = none → l2.length = 0 := fun e => by
  rcases Nat.eq_zero_or_pos l2.length with h0 | h0
  ·exact h0
  ·obtain ⟨b, o, e2, -⟩ := hB.2 h0
   rw [e] at e2; cases e2
 have hC : ∀ ad, A = some ad → ∀ j u, (l2.flatMap KB.enc)[j]? = some u → w.cell? (ad.add j) = some u := fun ad e j u hu => by
  rw [fm_bytes, List.getElem?_map] at hu
  cases hj : l2[j]? with
  | none => rw [hj] at hu; cases hu
  | some x =>
   rw [hj] at hu
   obtain ⟨hjl, hx⟩ := List.getElem?_eq_some_iff.1 hj
   obtain ⟨b, o, e2, hc⟩ := hB.2 (by omega)
   rw [e] at e2
   injection e2 with e2
   subst e2
   have h9 := (hc j hjl).2
   rw [Addr.add_mid]
   rw [Nat.mul_one, hx] at h9
   rw [h9, ← hu]; rfl
 obtain ⟨v', w', k1, k2, k3, -⟩ := run_catG T_kb ty w h hb A l2.length c l2 rfl hA hC (fun _ _ => trivial) h63 (by decide)
 exact ⟨v', w', by rw [hv]; exact k1, k2, k3⟩
theorem own_catB {ops : Array Oper} {rest : List Oper} {o : Oper} {a : Act} {Q : Exit → Act → World → Prop} {w : World} {base base2 : Nat} {v v2 : Value} {l l2 : List Nat} (hgd : o.guard = none) (s y : Operand)
  (ho : o.op = .call { callee := .builtin .append, args := #[s, y], argTypes := #[35, 35] }) (hs' : a.eval s = v) (hy : a.eval y = v2) (h : OB w base v l) (hb : base ≤ w.heap.size) (h2 : OB w base2 v2 l2) (h63 : l.length + l2.length ≤ 8388608)
  (hK : ∀ v' w', OB w' base v' (l ++ l2) → w.grownBy w' v.ownBlock → wpList Tryz.prog ops Q rest (a.put o.dst v') w') : wpList Tryz.prog ops Q (o :: rest) a w := by
 obtain ⟨v', w', hr, h1, h3⟩ := run_catB o.type h hb h2 h63
 refine wpList_plain hgd fun K2 hK2 => ?_
 unfold Oper.wp execOp
 simp only [ho, resolve, invoke, builtin, Sem.run_bind, Sem.run_pure, Result.andThen_ok, List.map_toArray, List.map_cons, List.map_nil, hs', hy, hr]
 exact hK2 _ _ (hK v' w' h1 h3)
theorem step_catB {ops : Array Oper} {o : Oper} {a : Act} {K2 : Act → World → Prop} {Q : Exit → Act → World → Prop} {E : Prop} {w : World} {base base2 : Nat} {v v2 : Value} {l l2 : List Nat} (hgd : o.guard = none) (s y : Operand)
  (ho : o.op = .call { callee := .builtin .append, args := #[s, y], argTypes := #[35, 35] }) (hs' : a.eval s = v) (hy : a.eval y = v2) (h : OB w base v l) (hb : base ≤ w.heap.size) (h2 : OB w base2 v2 l2) (h63 : l.length + l2.length ≤ 8388608)
  (hK : ∀ v' w', OB w' base v' (l ++ l2) → w.grownBy w' v.ownBlock → K2 (a.put o.dst v') w') : if Region.wanted o (yielded ops a.tmps) = true then Oper.wp Tryz.prog o a w K2 Q else E := by
 obtain ⟨v', w', hr, h1, h3⟩ := run_catB o.type h hb h2 h63
 exact step_append_run' hgd s y _ _ ho v _ hs' hy hr (hK v' w' h1 h3)
def prevN (c : Col) (i : Nat) : Int := if i = 0 then 0 else c.nodes[i - 1]!
def prevE (c : Col) (k : Nat) : Int := if k = 0 then 0 else c.edges[k - 1]!
def prevT (c : Col) (i k : Nat) : Int := if k = c.first[i]!.toNat then c.nodes[i]! else c.tos[k - 1]!
def entB (c : Col) (i k : Nat) : List Nat := vi (zig (c.tos[k]! - prevT c i k)) ++ vi (zig (c.edges[k]! - prevE c k))
def entsB (c : Col) (i k : Nat) : List Nat := (List.range' c.first[i]!.toNat (k - c.first[i]!.toNat)).flatMap (entB c i)
def hdB (c : Col) (i : Nat) : List Nat := vi (c.nodes[i]! - prevN c i).toNat ++ vi (c.first[i + 1]!.toNat - c.first[i]!.toNat)
def rowB (c : Col) (i : Nat) : List Nat := hdB c i ++ entsB c i c.first[i + 1]!.toNat
def rowsB (c : Col) (i : Nat) : List Nat := (List.range i).flatMap (rowB c)
def encC (c : Col) : List Nat := vi c.nodes.length ++ rowsB c c.nodes.length
noncomputable def encR (c : Col) : List Nat := if colB c = true then encC c else []
theorem ents_start (c : Col) (i : Nat) : entsB c i c.first[i]!.toNat = [] := by unfold entsB; rw [Nat.sub_self]; rfl
theorem ents_snoc {c : Col} {i k : Nat} (h : c.first[i]!.toNat ≤ k) : entsB c i (k + 1) = entsB c i k ++ entB c i k := by
 unfold entsB
 rw [show k + 1 - c.first[i]!.toNat = (k - c.first[i]!.toNat) + 1 by omega, List.range'_concat, List.flatMap_append, show c.first[i]!.toNat + 1 * (k - c.first[i]!.toNat) = k by omega]
 simp
theorem rows_succB (c : Col) (i : Nat) : rowsB c (i + 1) = rowsB c i ++ rowB c i := by
 unfold rowsB
 rw [List.range_succ, List.flatMap_append]
 simp
theorem prevN_succ (c : Col) (i : Nat) : prevN c (i + 1) = c.nodes[i]! := by unfold prevN; rw [if_neg (by omega)]; rfl
theorem prevE_succ (c : Col) (k : Nat) : prevE c (k + 1) = c.edges[k]! := by unfold prevE; rw [if_neg (by omega)]; rfl
theorem prevT_succ {c : Col} {i k : Nat} (h : c.first[i]!.toNat ≤ k) : prevT c i (k + 1) = c.tos[k]! := by unfold prevT; rw [if_neg (by omega)]; rfl
theorem prevT_start (c : Col) (i : Nat) : prevT c i c.first[i]!.toNat = c.nodes[i]! := by unfold prevT; rw [if_pos rfl]
theorem nb_node {c : Col} (h : validP c) {i : Nat} (hi : i < c.nodes.length) : 0 ≤ c.nodes[i]! - prevN c i ∧ c.nodes[i]! - prevN c i ≤ 1000000 := by
 obtain ⟨⟨-, hs⟩, -⟩ := (valid_ref c).1 h
 obtain ⟨h1, h2⟩ := hs i hi
 unfold prevN
 unfold idOk at h1
 split
 ·omega
 ·rename_i h0
  obtain ⟨j, rfl⟩ : ∃ j, i = j + 1 := ⟨i - 1, by omega⟩
  have h3 := h2 j rfl
  have h4 := (hs j (by omega)).1
  unfold idOk at h4
  rw [Nat.add_sub_cancel]
  omega
theorem nb_ent {c : Col} (h : validP c) {i k : Nat} (hi : i < c.nodes.length) (hk : k < c.tos.length) : (-1000000 ≤ c.tos[k]! - prevT c i k ∧ c.tos[k]! - prevT c i k ≤ 1000000) ∧ -1000000 ≤ c.edges[k]! - prevE c k ∧ c.edges[k]! - prevE c k ≤ 1000000 := by
 obtain ⟨⟨-, hs⟩, ht, -⟩ := (valid_ref c).1 h
 obtain ⟨h1, h2⟩ := ht k hk
 have h3 := (hs i hi).1
 unfold prevT prevE
 unfold idOk at h1 h2 h3
 refine ⟨?_, ?_⟩
 ·split
  ·omega
  ·rename_i h0
   have h4 := (ht (k - 1) (by omega)).1
   unfold idOk at h4
   omega
 ·split
  ·omega
  ·rename_i h0
   have h4 := (ht (k - 1) (by omega)).2
   unfold idOk at h4
   omega
theorem entB_len {c : Col} (h : validP c) {i k : Nat} (hi : i < c.nodes.length) (hk : k < c.tos.length) : (entB c i k).length ≤ 20 := by
 obtain ⟨h1, h2⟩ := nb_ent h hi hk
 unfold entB
 rw [List.length_append]
 have a := vi_len10 (zig_lt (n := c.tos[k]! - prevT c i k) (by omega))
 have b := vi_len10 (zig_lt (n := c.edges[k]! - prevE c k) (by omega))
 omega
theorem entsB_len {c : Col} (h : validP c) {i : Nat} (hi : i < c.nodes.length) : ∀ d, c.first[i]!.toNat + d ≤ c.tos.length → (entsB c i (c.first[i]!.toNat + d)).length ≤ 20 * d
 | 0, _ => by rw [Nat.add_zero, ents_start]; exact Nat.zero_le _
 | d + 1, hd => by
  have ih := entsB_len h hi d (by omega)
  rw [← Nat.add_assoc, ents_snoc (by omega), List.length_append]
  have := entB_len h hi (k := c.first[i]!.toNat + d) (by omega)
  omega
theorem hdB_len {c : Col} (h : validP c) {i : Nat} (hi : i < c.nodes.length) (hm : c.first[i + 1]!.toNat ≤ 1000000) : (hdB c i).length ≤ 20 := by
 have h1 := nb_node h hi
 unfold hdB
 rw [List.length_append]
 have a := vi_len10 (u := (c.nodes[i]! - prevN c i).toNat) (by omega)
 have b := vi_len10 (u := c.first[i + 1]!.toNat - c.first[i]!.toNat) (by omega)
 omega
theorem rowsB_len {c : Col} (h : validP c) (hs : ShapeC c) (hm : c.tos.length ≤ 1000000) : ∀ {i : Nat}, i ≤ c.nodes.length → (rowsB c i).length ≤ 20 * i + 20 * c.first[i]!.toNat
 | 0, _ => Nat.zero_le _
 | i + 1, hi => by
  have ih := rowsB_len h hs hm (i := i) (by omega)
  have hle := hs.le (i := i + 1) hi
  have hr := hs.lt (i := i) (j := i + 1) (by omega) hi
  have hnn := hs.nn (i := i) (by omega)
  have a := hdB_len h (i := i) (by omega) (by omega)
  have b := entsB_len h (i := i) (by omega) (c.first[i + 1]!.toNat - c.first[i]!.toNat) (by omega)
  rw [show c.first[i]!.toNat + (c.first[i + 1]!.toNat - c.first[i]!.toNat) = c.first[i + 1]!.toNat by omega] at b
  rw [rows_succB, List.length_append]
  unfold rowB
  rw [List.length_append]
  omega
end Go.Proofs.YtnheioehadldmaaGreat

/- THE WALK over column.Encode. -/
namespace Go.Proofs.YtnheioehadldmaaGreat
open Go.RowKit
set_option maxRecDepth 100000 in
set_option maxHeartbeats 6400000 in
theorem co_Encode (c : Col) (ok : Nat → Prop) (A B Cx D : Option Addr) (k0 k1 k2 k3 : Nat) (w : World) (hv : ColAt w ok A B Cx D c) (hm : c.tos.length ≤ 100000 ∧ c.nodes.length ≤ 100000) :
  Calls Tryz.prog 12 #[agC c A B Cx D k0 k1 k2 k3] w fun e w' => ∃ A' c', e = .returned (.slice A' (encR c).length c') ∧ (encR c).length ≤ c' ∧ Byts w' (fun b => w.heap.size ≤ b) A' (encR c) ∧ Ext w w' := by
 obtain ⟨q, w1, hq, hw1, ⟨a0, a1, a2, a3⟩, hx⟩ := box_col w c A B Cx D k0 k1 k2 k3 29
 have HW := Lib.hid hw1
 have HQ := Lib.hid hq
 have HX := Lib.hid hx
 have HBS := Lib.hid hx.le
 have hnl := hv.n.len
 have HV := Lib.hid (hv.ext hx)
 have HVA := Lib.hid (co_Valid c ok A B Cx D k0 k1 k2 k3 w1 (hv.ext hx) (by omega))
 obtain ⟨R, hR⟩ : ∃ R, R = encR c := ⟨_, rfl⟩
 rw [← hR]
 have HR1 := Lib.hid (fun (h : colB c = true) => (by rw [hR]; unfold encR; rw [if_pos h] : R = encC c))
 have HR0 := Lib.hid (fun (h : colB c = false) => (by rw [hR]; unfold encR; rw [if_neg (by rw [h]; exact Bool.false_ne_true)] : R = []))
 have HVP := Lib.hid (fun (h : colB c = true) => colB_iff.1 h)
 clear hw1 hq hv hx hR
 unfold agC at HVA ⊢
 go_enter Tryz.func12, Tryz.ntmps12
 go_upto_region 1 with (fail)
 rw [← HW.out, ← HQ.out]
 clear HW HQ
 cases hb : colB c
 ·rw [hb] at HVA
  have e := HR0.out hb
  subst e
  clear hb HR0 HR1 HVP
  go_wp2_with (go_at_call 15; ((with_reducible refine (HVA.out).mono ?_); rintro e w2 ⟨rfl, hx2⟩))
  go_ret
  exact ⟨none, 0, rfl, Nat.le_refl _, SliceR.nil _ _ _, HX.out.trans hx2⟩
 ·rw [hb] at HVA
  have HR := Lib.hid (HR1.out hb)
  have hV := HVP.out hb
  clear hb HR0 HR1 HVP
  have HPC := Lib.hid (fun W => co_PutUint c.nodes.length (by omega) W)
  by_cases hn0 : c.nodes.length = 0
  ·have hz : R = vi 0 := by
    rw [HR.out]; unfold encC; rw [hn0]; unfold rowsB; rw [List.range_zero, List.flatMap_nil, List.append_nil]
   subst hz
   clear HV HR hV hm HPC
   have HPC : Hid (∀ W, Calls Tryz.prog 35 #[.int .i64 0] W fun e w' => ∃ v, e = .returned v ∧ OB w' W.heap.size v (vi 0) ∧ Ext W w') := Lib.hid (fun W => co_PutUint 0 (by omega) W)
   generalize c.nodes.length = nl at *
   subst hn0
   go_upto_region 4 with (first | (go_at_call 15; ((with_reducible refine (HVA.out).mono ?_); rintro e w2 ⟨rfl, hx2⟩; replace a0 := hx2.cell a0; replace a1 := hx2.cell a1; replace a2 := hx2.cell a2; replace a3 := hx2.cell a3; clear HVA)) | (go_at_call 35; (go_loud (with_reducible refine (HPC.out _).mono ?_); rintro e w3 ⟨v3, rfl, hO3, hx3⟩; replace a0 := hx3.cell a0; have HO3 := Lib.hid hO3; clear HPC hO3)))
   go_wp2_with fail
   go_loopw [3, 20] (fun u3 u W => ∃ (_ : Nat), u3 = v3 ∧ u = .int .i64 0 ∧ Hid (Ext w3 W)) (fun _ _ _ => 0)
   case atStart => exact ⟨0, rfl, rfl, Lib.hid (by solve_by_elim [X0, X1, X2, X3])⟩
   case round =>
    obtain ⟨-, rfl, rfl, hE⟩ := hrel
    obtain ⟨A3, c3, rfl, hle, hB⟩ := OB.byts (OwnG.ext HO3.out hE.out) (by have := vi_len10 (u := 0) (by decide); omega)
    go_wp2_with fail
    go_ret
    exact ⟨A3, c3, rfl, hle, SliceR.mono hB (fun _ _ _ _ hx => ⟨Nat.le_trans HBS.out (Nat.le_trans hx2.le hx.1), hx.2⟩), ((HX.out.trans hx2).trans hx3).trans hE.out⟩
  ·have hS : ShapeC c := by
    rcases hV with ⟨h1, -⟩ | ⟨h1, -⟩
    ·exact absurd (by rw [h1]; rfl) hn0
    ·exact h1
   have hfl : c.nodes.length + 1 ≤ c.first.length := by have := hS.len; omega
   have hel : c.tos.length ≤ c.edges.length := by have := hS.same; omega
   have hlast := hS.lt (i := 0) (j := c.nodes.length) (by omega) (Nat.le_refl _)
   rw [hS.zero, hS.last] at hlast
   obtain ⟨bn, on, rfl, hcn⟩ := HV.out.n.2 (by omega)
   obtain ⟨bf, of, rfl, hcf⟩ := HV.out.f.2 (by omega)
   obtain ⟨bt, ot, rfl, hct⟩ := HV.out.t.2 (by omega)
   obtain ⟨be, oe, rfl, hce⟩ := HV.out.e.2 (by omega)
   have HN := Lib.hid (fun t (ht : t < c.nodes.length) W (e : Ext w1 W) => (by have h := (hcn t ht).2; rw [Nat.mul_one, ← getElem!_pos _ t ht] at h; exact e.cell h : W.cell? ⟨bn, on + t, none⟩ = some (.int .i64 c.nodes[t]!)))
   have HF := Lib.hid (fun t (ht : t < c.first.length) W (e : Ext w1 W) => (by have h := (hcf t ht).2; rw [Nat.mul_one, ← getElem!_pos _ t ht] at h; exact e.cell h : W.cell? ⟨bf, of + t, none⟩ = some (.int .i64 c.first[t]!)))
   have HT := Lib.hid (fun t (ht : t < c.tos.length) W (e : Ext w1 W) => (by have h := (hct t ht).2; rw [Nat.mul_one, ← getElem!_pos _ t ht] at h; exact e.cell h : W.cell? ⟨bt, ot + t, none⟩ = some (.int .i64 c.tos[t]!)))
   have HEE := Lib.hid (fun t (ht : t < c.edges.length) W (e : Ext w1 W) => (by have h := (hce t ht).2; rw [Nat.mul_one, ← getElem!_pos _ t ht] at h; exact e.cell h : W.cell? ⟨be, oe + t, none⟩ = some (.int .i64 c.edges[t]!)))
   have MKQ := Lib.hid (fun V (e : Ext w1 V) => (⟨e.cell a0, e.cell a1, e.cell a2, e.cell a3⟩ : (V.cell? ⟨q, 0, none⟩ = some (.slice (some ⟨bn, on, none⟩) c.nodes.length k0) ∧ V.cell? ⟨q, 1, none⟩ = some (.slice (some ⟨bf, of, none⟩) c.first.length k1) ∧ V.cell? ⟨q, 2, none⟩ = some (.slice (some ⟨bt, ot, none⟩) c.tos.length k2) ∧ V.cell? ⟨q, 3, none⟩ = some (.slice (some ⟨be, oe, none⟩) c.edges.length k3))))
   have HS := Lib.hid hS
   have HVV := Lib.hid hV
   have HZ := Lib.hid (by unfold prevN; rw [if_pos rfl] : (0 : Int) = prevN c 0)
   have HZE := Lib.hid (by rw [hS.zero]; rfl : (0 : Int) = prevE c c.first[0]!.toNat)
   clear hcn hcf hct hce HV hn0 hlast hS hV
   go_upto_region 4 with (first | (go_at_call 15; ((with_reducible refine (HVA.out).mono ?_); rintro e w2 ⟨rfl, hx2⟩; replace a0 := hx2.cell a0; replace a1 := hx2.cell a1; replace a2 := hx2.cell a2; replace a3 := hx2.cell a3; clear HVA)) | (go_at_call 35; ((with_reducible refine (HPC.out _).mono ?_); rintro e w3 ⟨v3, rfl, hO3, hx3⟩; replace a0 := hx3.cell a0; clear HPC)))
   have HO0 := Lib.hid (by rw [show rowsB c 0 = [] from rfl, List.append_nil]; exact OwnG.mono hO3 hx2.le : OB w3 w1.heap.size v3 (vi c.nodes.length ++ rowsB c 0))
   have HE0 := Lib.hid (hx2.trans hx3)
   clear hO3 hx2 hx3
   go_wp2_with fail
   go_loopw [3, 4, 5, 20] (fun u3 u4 u5 u W => ∃ (vO : Value) (i : Nat) (pn pe : Int), vO = u3 ∧ u4 = .int .i64 pn ∧ u5 = .int .i64 pe ∧ u = .int .i64 i ∧ i ≤ c.nodes.length ∧ Hid (pn = prevN c i) ∧ Hid (pe = prevE c c.first[i]!.toNat) ∧ Hid (OB W w1.heap.size vO (vi c.nodes.length ++ rowsB c i)) ∧ Hid (Ext w1 W)) (fun _ _ _ u _ => c.nodes.length - (intOf u).toNat)
   case atStart => exact ⟨_, 0, 0, 0, rfl, rfl, rfl, rfl, Nat.zero_le _, HZ, HZE, HO0, HE0⟩
   case round =>
    clear HO0 HE0 HZ HZE a0 a1 a2 a3
    obtain ⟨vO, i, pn, pe, rfl, rfl, rfl, rfl, hi, HPN0, HPE0, HO, hE⟩ := hrel
    by_cases hlt : i < c.nodes.length
    ·obtain ⟨nv, hnv⟩ : ∃ nv, nv = c.nodes[i]! := ⟨_, rfl⟩
     have n0 := HN.out i hlt wr hE.out
     rw [← hnv] at n0
     have f0 := HF.out i (by omega) wr hE.out
     have hi1 : i + 1 < c.first.length := by omega
     have hi0 : i < c.first.length := by omega
     obtain ⟨x, hx⟩ : ∃ x : Nat, x = c.first[i]!.toNat := ⟨_, rfl⟩
     obtain ⟨y, hy⟩ : ∃ y : Nat, y = c.first[i + 1]!.toNat := ⟨_, rfl⟩
     have ex : c.first[i]! = (x : Int) := by have := HS.out.nn (i := i) (by omega); omega
     have ey : c.first[i + 1]! = (y : Int) := by have := HS.out.nn (i := i + 1) (by omega); omega
     have hxy : x ≤ y := by have := HS.out.rise i hlt; omega
     have hyt : y ≤ c.tos.length := by have := HS.out.le (i := i + 1) (by omega); omega
     have hnb := nb_node HVV.out hlt
     obtain ⟨dn, hdn⟩ : ∃ dn : Nat, dn = (c.nodes[i]! - prevN c i).toNat := ⟨_, rfl⟩
     obtain ⟨dm, hdm⟩ : ∃ dm : Nat, dm = y - x := ⟨_, rfl⟩
     have hdl : dn ≤ 1000000 := by omega
     have hml : dm ≤ 1000000 := by omega
     have wi : IntKind.i64.wrap ((i : Int) + 1) = ((i + 1 : Nat) : Int) := by rw [IntKind.wrap_i64]; omega
     have wd : IntKind.i64.wrap (nv - pn) = (dn : Int) := by rw [IntKind.wrap_i64, HPN0.out, hnv]; omega
     have wm : IntKind.i64.wrap ((y : Int) - (x : Int)) = (dm : Int) := by rw [IntKind.wrap_i64]; omega
     have HPN := Lib.hid (fun W => co_PutUint dn (by omega) W)
     have HPF := Lib.hid (fun W => co_PutUint dm (by omega) W)
     have HHD := Lib.hid (by unfold hdB; rw [← hdn, ← hx, ← hy, ← hdm] : hdB c i = vi dn ++ vi dm)
     have hln := vi_len10 (u := c.nodes.length) (by omega)
     have hld := vi_len10 (u := dn) (by omega)
     have hlm := vi_len10 (u := dm) (by omega)
     have hrl := rowsB_len HVV.out HS.out (by omega) hi
     rw [← hx] at hrl
     have hl1 : (vi c.nodes.length ++ rowsB c i).length + (vi dn).length ≤ 8388608 := by rw [List.length_append]; omega
     have hl2 : ((vi c.nodes.length ++ rowsB c i) ++ vi dn).length + (vi dm).length ≤ 8388608 := by rw [List.length_append, List.length_append]; omega
     have hl3 : ((vi c.nodes.length ++ rowsB c i) ++ hdB c i).length ≤ 4000100 := by rw [HHD.out, List.length_append, List.length_append, List.length_append]; omega
     have HFI := Lib.hid (fun W (e : Ext w1 W) => (by have h := HF.out i hi0 W e; rw [ex] at h; exact h : W.cell? ⟨bf, of + i, none⟩ = some (.int .i64 (x : Int))))
     have HFN := Lib.hid (fun W (e : Ext w1 W) => (by have h := HF.out (i + 1) hi1 W e; rw [ey] at h; exact h : W.cell? ⟨bf, of + (i + 1), none⟩ = some (.int .i64 (y : Int))))
     have HRS := Lib.hid (rows_succB c i)
     have HRB := Lib.hid (show rowB c i = hdB c i ++ entsB c i y by unfold rowB; rw [hy])
     have HE0S := Lib.hid (by rw [hx]; exact ents_start c i : entsB c i x = [])
     have HES := Lib.hid (fun k (hk : x ≤ k) => ents_snoc (c := c) (i := i) (k := k) (by omega))
     have HEL := Lib.hid (fun k (hk : x ≤ k) (hk2 : k ≤ y) => (by have h := entsB_len HVV.out hlt (k - x) (by omega); rw [← hx, show x + (k - x) = k by omega] at h; omega : (entsB c i k).length ≤ 20 * k))
     have HNB := Lib.hid (fun k (hk2 : k < y) => nb_ent HVV.out hlt (k := k) (by omega))
     have HPTS := Lib.hid (fun k (hk : x ≤ k) => prevT_succ (c := c) (i := i) (k := k) (by omega))
     have HPT0 := Lib.hid (by rw [hnv, hx]; exact (prevT_start c i).symm : nv = prevT c i x)
     have HPNS := Lib.hid (by rw [hnv]; exact (prevN_succ c i).symm : nv = prevN c (i + 1))
     have HPEX := Lib.hid (by rw [hx]; exact HPE0.out : pe = prevE c x)
     have HPEY := Lib.hid (by rw [hy] : prevE c y = prevE c c.first[i + 1]!.toNat)
     clear hnb hdn hdm hx hy ex ey hnv HPN0 HPE0 f0 hln hld hlm hrl
     go_upto_region 8 with (fail)
     clear n0
     go_upto_region 9 with (first | (go_at_call 35; ((with_reducible refine (HPN.out _).mono ?_); rintro e w2 ⟨v2, rfl, hO2, hx2⟩; have HO2 := Lib.hid hO2; clear hO2 HPN)) | (at_builtin; go_loud (refine own_catB rfl (.tmp 25) (.tmp 29) rfl rfl rfl (OwnG.ext HO.out hx2) (Nat.le_trans hE.out.le hx2.le) HO2.out hl1 ?_); intro v3 w3 hO3 hg3; have hE3 : Ext w1 w3 := (hE.out.trans hx2).grown hg3 (fun g e => (OwnG.lt HO.out e).1); have HO3 := Lib.hid hO3; have HE3 := Lib.hid hE3; clear hO3 hg3 hE3 hx2))
     have MF := Lib.hid (fun V (e : Ext w1 V) => (⟨(MKQ.out V e).2.1, HFI.out V e, HFN.out V e⟩ : V.cell? ⟨q, 1, none⟩ = some (.slice (some ⟨bf, of, none⟩) c.first.length k1) ∧ V.cell? ⟨bf, of + i, none⟩ = some (.int .i64 (x : Int)) ∧ V.cell? ⟨bf, of + (i + 1), none⟩ = some (.int .i64 (y : Int))))
     clear HO2
     refine wp_region_held_drew (S := (fun V => V.cell? ⟨q, 1, none⟩ = some (.slice (some ⟨bf, of, none⟩) c.first.length k1) ∧ V.cell? ⟨bf, of + i, none⟩ = some (.int .i64 (x : Int)) ∧ V.cell? ⟨bf, of + (i + 1), none⟩ = some (.int .i64 (y : Int)))) (by kernel_rfl) ?hs62001 (fun hHeld => ?go62001)
     case hs62001 => (first | exact MF.out _ (Ext.trans HE3.out (by solve_by_elim [X0, X1, X2, X3])) | exact MF.out _ (Ext.trans HE5.out (by solve_by_elim [X0, X1, X2, X3])))
     refine TK 0 (v := ?v62002) hHeld ?hy62002 ?_
     case hy62002 => (intro w hSw; (try dsimp only at hSw); go_simp <;> first | with_reducible rfl | rw [if_neg (by omega)] | rw [if_pos (by omega)])
     (try simp only [PU])
     refine TK 1 (v := ?v62003) hHeld ?hy62003 ?_
     case hy62003 => (intro w hSw; (try dsimp only at hSw); go_simp <;> first | with_reducible rfl | rw [if_neg (by omega)] | rw [if_pos (by omega)])
     (try simp only [PU])
     refine TK 2 (v := ?v62004) hHeld ?hy62004 ?_
     case hy62004 => (intro w hSw; (try dsimp only at hSw); go_simp <;> first | with_reducible rfl | rw [if_neg (by omega)] | rw [if_pos (by omega)])
     (try simp only [PU])
     refine TK 3 (v := ?v62005) hHeld ?hy62005 ?_
     case hy62005 => (intro w hSw; (try dsimp only at hSw); go_simp <;> first | with_reducible rfl | rw [if_neg (by omega)] | rw [if_pos (by omega)])
     (try simp only [PU])
     refine TK 4 (v := ?v62006) hHeld ?hy62006 ?_
     case hy62006 => (intro w hSw; (try dsimp only at hSw); go_simp <;> first | with_reducible rfl | rw [if_neg (by omega)] | rw [if_pos (by omega)])
     (try simp only [PU])
     refine TK 5 (v := ?v62007) hHeld ?hy62007 ?_
     case hy62007 => (intro w hSw; (try dsimp only at hSw); go_simp <;> first | with_reducible rfl | rw [if_neg (by omega)] | rw [if_pos (by omega)])
     (try simp only [PU])
     refine TK 6 (v := ?v62008) hHeld ?hy62008 ?_
     case hy62008 => (intro w hSw; (try dsimp only at hSw); go_simp <;> first | with_reducible rfl | rw [if_neg (by omega)] | rw [if_pos (by omega)])
     (try simp only [PU])
     refine TK 7 (v := ?v62009) hHeld ?hy62009 ?_
     case hy62009 => (intro w hSw; (try dsimp only at hSw); go_simp <;> first | with_reducible rfl | rw [if_neg (by omega)] | rw [if_pos (by omega)])
     (try simp only [PU])
     refine TK 8 (v := ?v62010) hHeld ?hy62010 ?_
     case hy62010 => (intro w hSw; (try dsimp only at hSw); go_simp <;> first | with_reducible rfl | rw [if_neg (by omega)] | rw [if_pos (by omega)])
     (try simp only [PU])
     refine TK 9 (v := ?v62011) hHeld ?hy62011 ?_
     case hy62011 => (intro w hSw; (try dsimp only at hSw); go_simp <;> first | with_reducible rfl | rw [if_neg (by omega)] | rw [if_pos (by omega)])
     (try simp only [PU])
     refine TK 10 (v := ?v62012) hHeld ?hy62012 ?_
     case hy62012 => (intro w hSw; (try dsimp only at hSw); go_simp <;> first | with_reducible rfl | rw [if_neg (by omega)] | rw [if_pos (by omega)])
     (try simp only [PU])
     refine TK 11 (v := ?v62013) hHeld ?hy62013 ?_
     case hy62013 => (intro w hSw; (try dsimp only at hSw); go_simp <;> first | with_reducible rfl | rw [if_neg (by omega)] | rw [if_pos (by omega)])
     (try simp only [PU])
     refine TK 12 (v := ?v62014) hHeld ?hy62014 ?_
     case hy62014 => (intro w hSw; (try dsimp only at hSw); go_simp <;> first | with_reducible rfl | rw [if_neg (by omega)] | rw [if_pos (by omega)])
     (try simp only [PU])
     refine wpAnyH_ready (rs := [13]) (by kernel_rfl) (by simp) ?_
     refine AllReadyH.cons (o := ⟨_, _, _, _, _, _⟩) rfl (fun K hK => ?step62015x0) ?more62015x0
     case more62015x0 => exact AllReadyH.nil
     go_simp
     (go_at_call 35; ((with_reducible refine (HPF.out _).mono ?_); rintro e w4 ⟨v4, rfl, hO4, hx4⟩; replace hx4 : Ext w3 w4 := Ext.trans (a := w3) (by solve_by_elim [X0, X1, X2, X3]) hx4; have HO4 := Lib.hid hO4; clear hO4 HPF))
     refine hK.out _ _ ?hS62015x0 (fun H62015 => ?_)
     case hS62015x0 => first | (first | exact MF.out _ (Ext.trans HE3.out (by solve_by_elim [X0, X1, X2, X3])) | exact MF.out _ (Ext.trans HE5.out (by solve_by_elim [X0, X1, X2, X3]))) | ((try dsimp only); (first | exact MF.out _ (Ext.trans HE3.out (by solve_by_elim [X0, X1, X2, X3])) | exact MF.out _ (Ext.trans HE5.out (by solve_by_elim [X0, X1, X2, X3]))))
     clear hK K
     clear hHeld
     (try simp only [PU])
     refine wpAnyH_ready (rs := [14]) (by kernel_rfl) (by simp) ?_
     refine AllReadyH.cons (o := ⟨_, _, _, _, _, _⟩) rfl (fun K hK => ?step62016x0) ?more62016x0
     case more62016x0 => exact AllReadyH.nil
     (refine step_catB rfl (.tmp 31) (.tmp 44) rfl rfl rfl (OwnG.ext HO3.out (by solve_by_elim [X0, X1, X2, X3])) (Nat.le_trans HE3.out.le (Ext.le (a := w3) (by solve_by_elim [X0, X1, X2, X3]))) (OwnG.ext HO4.out (by solve_by_elim [X0, X1, X2, X3])) hl2 ?_; intro v5 w5 hO5 hg5; have hE5 : Ext w1 w5 := (HE3.out.trans (show Ext w3 _ from (by solve_by_elim [X0, X1, X2, X3]))).grown hg5 (fun g e => (OwnG.lt HO3.out e).1); have HO5 := Lib.hid hO5; have HE5 := Lib.hid hE5; clear hO5 hg5 hE5 hx4)
     refine hK.out _ _ ?hS62016x0 (fun H62016 => ?_)
     case hS62016x0 => first | (first | exact MF.out _ (Ext.trans HE3.out (by solve_by_elim [X0, X1, X2, X3])) | exact MF.out _ (Ext.trans HE5.out (by solve_by_elim [X0, X1, X2, X3]))) | ((try dsimp only); (first | exact MF.out _ (Ext.trans HE3.out (by solve_by_elim [X0, X1, X2, X3])) | exact MF.out _ (Ext.trans HE5.out (by solve_by_elim [X0, X1, X2, X3]))))
     clear hK K
     clear H62015
     (try simp only [PU])
     refine TK 15 (v := ?v62017) H62016 ?hy62017 ?_
     case hy62017 => (intro w hSw; (try dsimp only at hSw); go_simp <;> first | with_reducible rfl | rw [if_neg (by omega)] | rw [if_pos (by omega)])
     (try simp only [PU])
     refine wpAnyH_done (by kernel_rfl) ?_ _
     clear H62016
     skip
     have HO0 := Lib.hid (by rw [HE0S.out, List.append_nil, HHD.out, ← List.append_assoc]; exact HO5.out : OB w5 w1.heap.size v5 (((vi c.nodes.length ++ rowsB c i) ++ hdB c i) ++ entsB c i x))
     have HE0 := HE5
     obtain ⟨a0, a1, a2, a3⟩ := MKQ.out w5 HE5.out
     have f0 := HFI.out w5 HE5.out
     clear HO HO3 HO5 hE HE3 HE5 HO4 hl1 hl2 MF
     go_wp2_with fail
     go_loopw [3, 5, 8, 9] (fun u3 u5 u8 u9 W => ∃ (vO : Value) (k : Nat) (pe pt : Int), vO = u3 ∧ u5 = .int .i64 pe ∧ u8 = .int .i64 pt ∧ u9 = .int .i64 k ∧ x ≤ k ∧ k ≤ y ∧ Hid (pe = prevE c k) ∧ Hid (pt = prevT c i k) ∧ Hid (OB W w1.heap.size vO (((vi c.nodes.length ++ rowsB c i) ++ hdB c i) ++ entsB c i k)) ∧ Hid (Ext w1 W)) (fun _ _ _ u _ => y - (intOf u).toNat)
     case atStart => exact ⟨_, x, pe, nv, rfl, rfl, rfl, rfl, Nat.le_refl _, hxy, HPEX, HPT0, HO0, HE0⟩
     case round =>
      clear HO0 HE0 a0 a1 a2 a3 f0 wd wm
      obtain ⟨vO, k, pe, pt, rfl, rfl, rfl, rfl, hxk, hky, HPE, HPT, HO, hE⟩ := hrel
      obtain ⟨a0, a1, a2, a3⟩ := MKQ.out wr hE.out
      have f1 := HFN.out wr hE.out
      by_cases hky' : k < y
      ·have hkt : k < c.tos.length := by omega
       have hke : k < c.edges.length := by omega
       have hnb := HNB.out k hky'
       obtain ⟨tv, htv⟩ : ∃ tv, tv = c.tos[k]! := ⟨_, rfl⟩
       obtain ⟨ev, hev⟩ : ∃ ev, ev = c.edges[k]! := ⟨_, rfl⟩
       have HCT := Lib.hid (fun W (e : Ext w1 W) => (by rw [htv]; exact HT.out k hkt W e : W.cell? ⟨bt, ot + k, none⟩ = some (.int .i64 tv)))
       have HCE := Lib.hid (fun W (e : Ext w1 W) => (by rw [hev]; exact HEE.out k hke W e : W.cell? ⟨be, oe + k, none⟩ = some (.int .i64 ev)))
       obtain ⟨d1, hd1⟩ : ∃ d1, d1 = tv - pt := ⟨_, rfl⟩
       obtain ⟨d2, hd2⟩ : ∃ d2, d2 = ev - pe := ⟨_, rfl⟩
       have e1 : c.tos[k]! - prevT c i k = d1 := by rw [hd1, htv, HPT.out]
       have e2 : c.edges[k]! - prevE c k = d2 := by rw [hd2, hev, HPE.out]
       have HSN := Lib.hid (by rw [HES.out k hxk]; unfold entB; rw [e1, e2]; simp only [List.append_assoc] : ((vi c.nodes.length ++ rowsB c i) ++ hdB c i) ++ entsB c i (k + 1) = ((((vi c.nodes.length ++ rowsB c i) ++ hdB c i) ++ entsB c i k) ++ vi (zig d1)) ++ vi (zig d2))
       rw [e1, e2] at hnb
       have h1a : -9223372036854775808 ≤ d1 ∧ d1 ≤ 9223372036854775807 := by omega
       have h2a : -9223372036854775808 ≤ d2 ∧ d2 ≤ 9223372036854775807 := by omega
       have wt : IntKind.i64.wrap (tv - pt) = d1 := by rw [IntKind.wrap_i64]; omega
       have we : IntKind.i64.wrap (ev - pe) = d2 := by rw [IntKind.wrap_i64]; omega
       have HPA := Lib.hid (fun W => co_PutInt d1 h1a W)
       have HPB := Lib.hid (fun W => co_PutInt d2 h2a W)
       have b1 := vi_len10 (zig_lt h1a)
       have b2 := vi_len10 (zig_lt h2a)
       have b3 := HEL.out k hxk hky
       have hl1 : (((vi c.nodes.length ++ rowsB c i) ++ hdB c i) ++ entsB c i k).length + (vi (zig d1)).length ≤ 8388608 := by rw [List.length_append]; omega
       have hl2 : ((((vi c.nodes.length ++ rowsB c i) ++ hdB c i) ++ entsB c i k) ++ vi (zig d1)).length + (vi (zig d2)).length ≤ 8388608 := by rw [List.length_append, List.length_append]; omega
       have HPE1 := Lib.hid (by rw [hev]; exact (prevE_succ c k).symm : ev = prevE c (k + 1))
       have HPT1 := Lib.hid (by rw [htv]; exact (HPTS.out k hxk).symm : tv = prevT c i (k + 1))
       have t0 := HCT.out wr hE.out
       clear e1 e2 hnb hd1 hd2 htv hev h1a h2a b1 b2 b3 HPE HPT
       go_upto_region 15 with (fail)
       clear f1
       go_upto_region 16 with (first | (go_at_call 36; ((with_reducible refine (HPA.out _).mono ?_); rintro e w4 ⟨v4, rfl, hO4, hx4⟩; have HO4 := Lib.hid hO4; clear hO4 HPA)) | (at_builtin; go_loud (refine own_catB rfl (.tmp 63) (.tmp 71) rfl rfl rfl (OwnG.ext HO.out hx4) (Nat.le_trans hE.out.le hx4.le) HO4.out hl1 ?_); intro v5 w5 hO5 hg5; have hE5 : Ext w1 w5 := (hE.out.trans hx4).grown hg5 (fun g e => (OwnG.lt HO.out e).1); have HO5 := Lib.hid hO5; have HE5 := Lib.hid hE5; clear hO5 hg5 hE5 hx4 HO4))
       clear a0 a1 a2 a3 t0
       obtain ⟨a0, a1, a2, a3⟩ := MKQ.out w5 HE5.out
       have t1 := HCE.out w5 HE5.out
       go_upto_region 17 with (first | (go_at_call 36; ((with_reducible refine (HPB.out _).mono ?_); rintro e w6 ⟨v6, rfl, hO6, hx6⟩; have HO6 := Lib.hid hO6; clear hO6 HPB)) | (at_builtin; go_loud (refine own_catB rfl (.tmp 73) (.tmp 81) rfl rfl rfl (OwnG.ext HO5.out hx6) (Nat.le_trans HE5.out.le hx6.le) HO6.out hl2 ?_); intro v7 w7 hO7 hg7; have hE7 : Ext w1 w7 := (HE5.out.trans hx6).grown hg7 (fun g e => (OwnG.lt HO5.out e).1); have HO7 := Lib.hid hO7; have HE7 := Lib.hid hE7; clear hO7 hg7 hE7 hx6 HO6))
       clear a0 a1 a2 a3 t1
       have MT := Lib.hid (fun V (e : Ext w7 V) => (⟨(MKQ.out V (HE7.out.trans e)).2.2.1, (MKQ.out V (HE7.out.trans e)).2.2.2, HCT.out V (HE7.out.trans e), HCE.out V (HE7.out.trans e)⟩ : V.cell? ⟨q, 2, none⟩ = some (.slice (some ⟨bt, ot, none⟩) c.tos.length k2) ∧ V.cell? ⟨q, 3, none⟩ = some (.slice (some ⟨be, oe, none⟩) c.edges.length k3) ∧ V.cell? ⟨bt, ot + k, none⟩ = some (.int .i64 tv) ∧ V.cell? ⟨be, oe + k, none⟩ = some (.int .i64 ev)))
       clear HO HO5 hE HE5 wt we
       refine wp_region_held_drew (S := (fun V => V.cell? ⟨q, 2, none⟩ = some (.slice (some ⟨bt, ot, none⟩) c.tos.length k2) ∧ V.cell? ⟨q, 3, none⟩ = some (.slice (some ⟨be, oe, none⟩) c.edges.length k3) ∧ V.cell? ⟨bt, ot + k, none⟩ = some (.int .i64 tv) ∧ V.cell? ⟨be, oe + k, none⟩ = some (.int .i64 ev))) (by kernel_rfl) ?hs62018 (fun hHeld => ?go62018)
       case hs62018 => (exact MT.out _ (by solve_by_elim [X0, X1, X2, X3]))
       refine TK 0 (v := ?v62019) hHeld ?hy62019 ?_
       case hy62019 => (intro w hSw; (try dsimp only at hSw); go_simp <;> first | with_reducible rfl | rw [if_neg (by omega)] | rw [if_pos (by omega)])
       (try simp only [PU])
       refine TK 1 (v := ?v62020) hHeld ?hy62020 ?_
       case hy62020 => (intro w hSw; (try dsimp only at hSw); go_simp <;> first | with_reducible rfl | rw [if_neg (by omega)] | rw [if_pos (by omega)])
       (try simp only [PU])
       refine TK 2 (v := ?v62021) hHeld ?hy62021 ?_
       case hy62021 => (intro w hSw; (try dsimp only at hSw); go_simp <;> first | with_reducible rfl | rw [if_neg (by omega)] | rw [if_pos (by omega)])
       (try simp only [PU])
       refine TK 3 (v := ?v62022) hHeld ?hy62022 ?_
       case hy62022 => (intro w hSw; (try dsimp only at hSw); go_simp <;> first | with_reducible rfl | rw [if_neg (by omega)] | rw [if_pos (by omega)])
       (try simp only [PU])
       refine TK 4 (v := ?v62023) hHeld ?hy62023 ?_
       case hy62023 => (intro w hSw; (try dsimp only at hSw); go_simp <;> first | with_reducible rfl | rw [if_neg (by omega)] | rw [if_pos (by omega)])
       (try simp only [PU])
       refine TK 5 (v := ?v62024) hHeld ?hy62024 ?_
       case hy62024 => (intro w hSw; (try dsimp only at hSw); go_simp <;> first | with_reducible rfl | rw [if_neg (by omega)] | rw [if_pos (by omega)])
       (try simp only [PU])
       refine TK 6 (v := ?v62025) hHeld ?hy62025 ?_
       case hy62025 => (intro w hSw; (try dsimp only at hSw); go_simp <;> first | with_reducible rfl | rw [if_neg (by omega)] | rw [if_pos (by omega)])
       (try simp only [PU])
       refine TK 7 (v := ?v62026) hHeld ?hy62026 ?_
       case hy62026 => (intro w hSw; (try dsimp only at hSw); go_simp <;> first | with_reducible rfl | rw [if_neg (by omega)] | rw [if_pos (by omega)])
       (try simp only [PU])
       refine TK 8 (v := ?v62027) hHeld ?hy62027 ?_
       case hy62027 => (intro w hSw; (try dsimp only at hSw); go_simp <;> first | with_reducible rfl | rw [if_neg (by omega)] | rw [if_pos (by omega)])
       (try simp only [PU])
       refine TK 9 (v := ?v62028) hHeld ?hy62028 ?_
       case hy62028 => (intro w hSw; (try dsimp only at hSw); go_simp <;> first | with_reducible rfl | rw [if_neg (by omega)] | rw [if_pos (by omega)])
       (try simp only [PU])
       refine TK 10 (v := ?v62029) hHeld ?hy62029 ?_
       case hy62029 => (intro w hSw; (try dsimp only at hSw); go_simp <;> first | with_reducible rfl | rw [if_neg (by omega)] | rw [if_pos (by omega)])
       (try simp only [PU])
       refine TK 11 (v := ?v62030) hHeld ?hy62030 ?_
       case hy62030 => (intro w hSw; (try dsimp only at hSw); go_simp <;> first | with_reducible rfl | rw [if_neg (by omega)] | rw [if_pos (by omega)])
       (try simp only [PU])
       refine wpAnyH_done (by kernel_rfl) ?_ _
       clear hHeld
       go_wp2_with fail
       go_roundw
       case rel => exact ⟨_, k + 1, ev, tv, rfl, rfl, rfl, by go_num, by omega, by omega, HPE1, HPT1, Lib.hid (by rw [HSN.out]; exact OwnG.ext HO7.out (by solve_by_elim [X0, X1, X2, X3])), Lib.hid (HE7.out.trans (by solve_by_elim [X0, X1, X2, X3]))⟩
       case measure => simp [intOf]; omega
      ·have hke : k = y := by omega
       have HPY := Lib.hid (by rw [HPE.out, hke]; exact HPEY.out : pe = prevE c c.first[i + 1]!.toNat)
       have HOF := Lib.hid (by rw [HRS.out, HRB.out, ← hke, ← List.append_assoc, ← List.append_assoc]; exact HO.out : OB wr w1.heap.size vO (vi c.nodes.length ++ rowsB c (i + 1)))
       clear hke HO HPE HPT
       go_wp2_with fail
       go_roundw
       case rel => exact ⟨_, i + 1, nv, pe, rfl, rfl, rfl, by go_num, by omega, HPNS, HPY, HOF, hE⟩
       case measure => simp [intOf]; omega
    ·have hke : i = c.nodes.length := by omega
     have HOF := Lib.hid (by rw [HR.out]; unfold encC; rw [hke] at HO; exact HO.out : OB wr w1.heap.size vO R)
     have hrl := rowsB_len HVV.out HS.out (by omega) (Nat.le_refl _)
     have hln := vi_len10 (u := c.nodes.length) (by omega)
     have hle2 := HS.out.le (Nat.le_refl c.nodes.length)
     have hRl : R.length ≤ 140737488355328 := by rw [HR.out]; unfold encC; rw [List.length_append]; omega
     obtain ⟨A3, c3, rfl, hle, hB⟩ := OB.byts HOF.out hRl
     have HB := Lib.hid hB
     clear hke HO HOF HR hrl hln hle2 hRl hB HPN0 HPE0
     go_wp2_with fail
     go_ret
     exact ⟨A3, c3, rfl, hle, SliceR.mono HB.out (fun _ _ _ _ hx => ⟨Nat.le_trans HBS.out hx.1, hx.2⟩), HX.out.trans hE.out⟩
end Go.Proofs.YtnheioehadldmaaGreat

/- PLAIN: what column.Decode computes. -/
namespace Go.Proofs.YtnheioehadldmaaGreat
def entsE : Nat → Int → Int → List Int → List Int → List Nat → Except Int (Int × List Int × List Int × List Nat)
 | 0, _, edge, T, E, r => .ok (edge, T, E, r)
 | n + 1, tv, edge, T, E, r => match nearM tv r with
  | .error e => .error e
  | .ok (tv', r1) => match nearM edge r1 with
   | .error e => .error e
   | .ok (ed', r2) => entsE n tv' ed' (T ++ [tv']) (E ++ [ed']) r2
def rowsE : Nat → Int → Int → Col → List Nat → Except Int (Col × List Nat)
 | 0, _, _, c, r => .ok (c, r)
 | n + 1, node, edge, c, r => match uI r with
  | .error e => .error e
  | .ok (d, r1) => match idM node d r1 with
   | .error e => .error e
   | .ok (nd, r2) => match uI r2 with
    | .error e => .error e
    | .ok (many, r3) => if many = 0 then .error 1 else match entsE many.toNat nd edge c.tos c.edges r3 with
     | .error e => .error e
     | .ok (ed', T, E, r4) => rowsE n nd ed' ⟨c.nodes ++ [nd], c.first ++ [(c.tos.length : Int)], T, E⟩ r4
def finC (c : Col) : Col := if c.nodes = [] then c else { c with first := c.first ++ [(c.tos.length : Int)] }
/-- the entries of a row, then the other rows -/
def contE (n : Nat) (nd : Int) (N F : List Int) : Except Int (Int × List Int × List Int × List Nat) → Except Int (Col × List Nat)
 | .error e => .error e
 | .ok (ed', T, E, r4) => rowsE n nd ed' ⟨N, F, T, E⟩ r4
def rowsS (n : Nat) (node edge : Int) (c : Col) : Except Int (List Nat) → Except Int (Col × List Nat)
 | .error e => .error e
 | .ok r => rowsE n node edge c r
def entsS (n : Nat) (tv edge : Int) (T E : List Int) : Except Int (List Nat) → Except Int (Int × List Int × List Int × List Nat)
 | .error e => .error e
 | .ok r => entsE n tv edge T E r
noncomputable def endC : Except Int (Col × List Nat) → Except Int Col
 | .error e => .error e
 | .ok (c, r) => if colB (finC c) = true then (if r = [] then .ok (finC c) else .error 2) else .error 1
def cntS (cnt : Int) (st : Except Int (List Nat)) : Except Int (Col × List Nat) := rowsS cnt.toNat 0 0 noCol st
noncomputable def decC (l : List Nat) : Except Int Col := match uI l with
 | .error e => .error e
 | .ok (cnt, r) => endC (rowsE cnt.toNat 0 0 noCol r)
def decR : Except Int Col → Int × Col
 | .error e => (e, noCol)
 | .ok c => (0, c)
def chkS (st : Except Int (List Nat)) (many : Int) : Except Int (List Nat) := match st with
 | .error e => .error e
 | .ok r => if many = 0 then .error 1 else .ok r
theorem dec_start {l : List Nat} {cnt : Int} {st : Except Int (List Nat)} (h : stU (.ok l) cnt st) : decC l = endC (cntS cnt st) := by
 unfold stU at h
 unfold decC
 cases hu : uI l with
 | error e => simp only [hu] at h; rw [h]; rfl
 | ok p => obtain ⟨n, r⟩ := p; simp only [hu] at h; obtain ⟨rfl, rfl⟩ := h; rfl
theorem ents_step {X : Except Int (Col × List Nat)} {m k : Nat} {nd tv edge x1 x2 : Int} {N F T E : List Int} {r : List Nat} {st1 st2 : Except Int (List Nat)} (h : X = contE m nd N F (entsS (k + 1) tv edge T E (.ok r))) (h1 : stN (.ok r) tv x1 st1) (h2 : stN st1 edge x2 st2) : X = contE m nd N F (entsS k x1 x2 (T ++ [x1]) (E ++ [x2]) st2) := by
 rw [h]
 show contE m nd N F (entsE (k + 1) tv edge T E r) = _
 unfold entsE
 unfold stN at h1
 cases hn : nearM tv r with
 | error e => simp only [hn] at h1; rw [h1] at h2; unfold stN at h2; simp only at h2; rw [h2]; rfl
 | ok p =>
  obtain ⟨a, r1⟩ := p
  simp only [hn] at h1
  obtain ⟨rfl, rfl⟩ := h1
  unfold stN at h2
  simp only
  cases hm : nearM edge r1 with
  | error e => simp only [hm] at h2; rw [h2]; rfl
  | ok p =>
   obtain ⟨b, r2⟩ := p
   simp only [hm] at h2
   obtain ⟨rfl, rfl⟩ := h2
   rfl
theorem rows_step {X : Except Int (Col × List Nat)} {n : Nat} {node edge d nd many : Int} {c : Col} {r : List Nat} {st1 st2 st3 : Except Int (List Nat)} (h : X = rowsS (n + 1) node edge c (.ok r)) (h1 : stU (.ok r) d st1) (h2 : stI st1 node d nd st2) (h3 : stU st2 many st3) : X = contE n nd (c.nodes ++ [nd]) (c.first ++ [(c.tos.length : Int)]) (entsS many.toNat nd edge c.tos c.edges (chkS st3 many)) := by
 rw [h]
 show rowsE (n + 1) node edge c r = _
 unfold rowsE
 unfold stU at h1
 cases ha : uI r with
 | error e => simp only [ha] at h1; rw [h1] at h2; unfold stI at h2; simp only at h2; rw [h2] at h3; unfold stU at h3; simp only at h3; rw [h3]; rfl
 | ok p =>
  obtain ⟨a, r1⟩ := p
  simp only [ha] at h1
  obtain ⟨rfl, rfl⟩ := h1
  unfold stI at h2
  simp only
  cases hb : idM node d r1 with
  | error e => simp only [hb] at h2; rw [h2] at h3; unfold stU at h3; simp only at h3; rw [h3]; rfl
  | ok p =>
   obtain ⟨b, r2⟩ := p
   simp only [hb] at h2
   obtain ⟨rfl, rfl⟩ := h2
   unfold stU at h3
   simp only
   cases hc : uI r2 with
   | error e => simp only [hc] at h3; rw [h3]; rfl
   | ok p =>
    obtain ⟨b, r3⟩ := p
    simp only [hc] at h3
    obtain ⟨rfl, rfl⟩ := h3
    simp only [chkS]
    by_cases hm : many = 0
    ·rw [if_pos hm, if_pos hm]; rfl
    ·rw [if_neg hm, if_neg hm]; show _ = contE _ _ _ _ (entsE _ _ _ _ _ _); cases entsE many.toNat nd edge c.tos c.edges r3 <;> rfl
theorem ents_end {X : Except Int (Col × List Nat)} {m : Nat} {nd tv edge : Int} {N F T E : List Int} {r : List Nat} (h : X = contE m nd N F (entsS 0 tv edge T E (.ok r))) : X = rowsS m nd edge ⟨N, F, T, E⟩ (.ok r) := h
theorem ents_err {X : Except Int (Col × List Nat)} {m k k' : Nat} {nd nd' tv edge edge' e : Int} {N F T E : List Int} {c : Col} (h : X = contE m nd N F (entsS k tv edge T E (.error e))) : X = rowsS k' nd' edge' c (.error e) := h
/-- what is left bounds what is read -/
def bdS (NN : Nat) (st : Except Int (List Nat)) (len : Nat) : Prop := match st with
 | .error _ => len ≤ NN + 1
 | .ok r => len + r.length ≤ NN
/-- ids come out of the reader -/
def rgS (st : Except Int (List Nat)) (x : Int) : Prop := match st with
 | .error _ => True
 | .ok _ => 0 ≤ x ∧ x ≤ 1000000
theorem idM_suf {base n m : Int} {r r' : List Nat} (h : idM base n r = .ok (m, r')) : r' = r ∧ 0 ≤ m ∧ m ≤ 1000000 := by
 unfold idM at h
 split at h
 ·cases h
 ·rename_i hn
  injection h with h
  injection h with e1 e2
  have hb : idB (base + n) = true := by
   cases hb : idB (base + n) with
   | true => rfl
   | false => exact absurd (.inr (.inr hb)) hn
  rw [idB_iff] at hb
  unfold idOk at hb
  exact ⟨e2.symm, by omega, by omega⟩
theorem nearM_suf {base m : Int} {r r' : List Nat} (h : nearM base r = .ok (m, r')) : r'.length < r.length ∧ 0 ≤ m ∧ m ≤ 1000000 := by
 unfold nearM at h
 cases hi : iE r with
 | error e => rw [hi] at h; cases h
 | ok p =>
  obtain ⟨n, r1⟩ := p
  rw [hi] at h
  obtain ⟨h1, h2, h3⟩ := idM_suf h
  rw [h1]
  exact ⟨(iE_suf hi).1, h2, h3⟩
theorem bd_push {NN len : Nat} {st st' : Except Int (List Nat)} {base x : Int} (h : bdS NN st len) (hl : len ≤ NN) (h1 : stN st base x st') : rgS st' x ∧ bdS NN st' len ∧ (∀ r, st = .ok r → bdS NN st' (len + 1)) := by
 cases st with
 | error e => unfold stN at h1; simp only at h1; subst h1; exact ⟨trivial, h, fun r hr => by cases hr⟩
 | ok r =>
  unfold stN at h1
  simp only at h1
  cases hn : nearM base r with
  | error e => rw [hn] at h1; simp only at h1; subst h1; exact ⟨trivial, show len ≤ NN + 1 by omega, fun _ _ => show len + 1 ≤ NN + 1 by omega⟩
  | ok p =>
   obtain ⟨m, r'⟩ := p
   rw [hn] at h1
   simp only at h1
   obtain ⟨rfl, rfl⟩ := h1
   obtain ⟨k1, k2, k3⟩ := nearM_suf hn
   have h' : len + r.length ≤ NN := h
   exact ⟨⟨k2, k3⟩, show len + r'.length ≤ NN by omega, fun _ _ => show len + 1 + r'.length ≤ NN by omega⟩
end Go.Proofs.YtnheioehadldmaaGreat

/- PLAIN: the loops of column.Decode; boxes that change. -/
namespace Go.Proofs.YtnheioehadldmaaGreat
open Go.RowKit
theorem Col4.other {W W' : World} {base q : Nat} {vN vF vT vE : Value} {c : Col} (h : Col4 W base vN vF vT vE c) (hq : q < base) (hg : W.grownBy W' (some q)) : Col4 W' base vN vF vT vE c := by
 have k : ∀ {v : Value} {l : List Int}, OI W base v l → OI W' base v l := fun {v l} h => OwnG.grown h hg (by
  cases hv : v.ownBlock with
  | none => exact .inl rfl
  | some g => exact .inr (fun e => by have := (OwnG.lt h hv).1; have := Option.some.inj e; omega)) (fun _ _ hf => hf)
 exact ⟨k h.n, k h.f, k h.t, k h.e, h.nf, h.nt, h.ne, h.ft, h.fe, h.te⟩
/-- another box of the call changed -/
theorem PkS.other {w0 : World} {base q2 q3 q : Nat} {W W' : World} {vN vF vT vE b0 b1 b2 b3 : Value} {c : Col} (h : PkS w0 base q2 q3 W vN vF vT vE b0 b1 b2 b3 c) (hq : w0.heap.size ≤ q ∧ q < base ∧ q ≠ q2 ∧ q ≠ q3) (hg : W.grownBy W' (some q)) : PkS w0 base q2 q3 W' vN vF vT vE b0 b1 b2 b3 c :=
 have k2 : some q2 ≠ some q := fun e => hq.2.2.1 (Option.some.inj e).symm
 have k3 : some q3 ≠ some q := fun e => hq.2.2.2 (Option.some.inj e).symm
 ⟨h.ext.grown hg (fun g hg' => by cases hg'; exact hq.1), Nat.le_trans h.le hg.size, h.c4.other hq.2.1 hg, h.bx.grown hg k3, h.fz.grown h.bx hg k3, h.rx.grown hg k2, h.rz.grown h.rx hg k2, h.h3, h.l2, h.l3, h.n23, h.hb⟩
theorem box_reader (w : World) (A : Option Addr) (N c : Nat) (t : TypeId) : ∃ (q : Nat) (w1 : World), q = w.heap.size ∧ w1 = w.alloc (.cells #[.slice A N c, .int .i64 0, .int .i64 0] t) ∧ RdC w1 q A N c 0 0 ∧ Ext w w1 :=
 ⟨_, _, rfl, rfl, ⟨by go_simp, by go_simp, by go_simp, by go_simp, by go_simp⟩, (Ext.refl _).alloc _⟩
/-- what bounds the rows under way -/
structure Bnd (NN : Nat) (st : Except Int (List Nat)) (C : Col) : Prop where
 n : bdS NN st C.nodes.length
 f : C.first.length = C.nodes.length
 t : bdS NN st C.tos.length
 e : C.edges.length = C.tos.length
/-- the loop over the rows -/
structure InvO (NN : Nat) (cnt : Int) (X : Except Int (Col × List Nat)) (i : Nat) (node edge : Int) (C : Col) (st : Except Int (List Nat)) : Prop where
 x : X = rowsS (cnt.toNat - i) node edge C st
 rn : rgS st node
 re : rgS st edge
 b : Bnd NN st C
 i : i ≤ C.nodes.length
/-- the loop over the entries of a row -/
structure InvI (NN m : Nat) (X : Except Int (Col × List Nat)) (i : Nat) (nd many : Int) (k : Nat) (tv edge : Int) (C : Col) (st : Except Int (List Nat)) : Prop where
 x : X = contE m nd C.nodes C.first (entsS (many.toNat - k) tv edge C.tos C.edges st)
 rn : rgS st nd
 rt : rgS st tv
 re : rgS st edge
 b : Bnd NN st C
 i : i ≤ C.nodes.length
 k : k ≤ C.tos.length
def endS (C : Col) : Except Int (List Nat) → Except Int (Col × List Nat)
 | .error e => .error e
 | .ok r => .ok (C, r)
theorem Bnd.len {NN : Nat} {st : Except Int (List Nat)} {C : Col} (h : Bnd NN st C) : C.nodes.length ≤ NN + 1 ∧ C.first.length ≤ NN + 1 ∧ C.tos.length ≤ NN + 1 ∧ C.edges.length ≤ NN + 1 := by
 have k : ∀ {m : Nat}, bdS NN st m → m ≤ NN + 1 := fun {m} hm => by
  cases st with
  | error e => exact hm
  | ok r => have h' : m + r.length ≤ NN := hm; omega
 exact ⟨k h.n, by rw [h.f]; exact k h.n, k h.t, by rw [h.e]; exact k h.t⟩
theorem Bnd.ok {NN : Nat} {r : List Nat} {C : Col} (h : Bnd NN (.ok r) C) : C.nodes.length ≤ NN ∧ C.tos.length ≤ NN := by
 have h1 : C.nodes.length + r.length ≤ NN := h.n
 have h2 : C.tos.length + r.length ≤ NN := h.t
 omega
theorem rg0 (st : Except Int (List Nat)) : rgS st 0 := by cases st <;> simp [rgS]
theorem inv_start {l : List Nat} {at_ e cnt : Int} {st : Except Int (List Nat)} (h : okR l at_ e st) : InvO l.length cnt (cntS cnt st) 0 0 0 noCol st := by
 have hb : bdS l.length st 0 := by
  cases st with
  | error e => exact Nat.zero_le _
  | ok r => show 0 + r.length ≤ l.length; have := h.2.1; omega
 exact ⟨rfl, rg0 st, rg0 st, ⟨hb, rfl, hb, rfl⟩, Nat.zero_le _⟩
/-- what a number read leaves -/
theorem bd_num {NN len : Nat} {st : Except Int (List Nat)} {r : List Nat} (h : bdS NN (.ok r) len) (hs : ∀ s, st = .ok s → s.length ≤ r.length) : bdS NN st len ∧ ((∀ s, st = .ok s → s.length < r.length) → bdS NN st (len + 1)) := by
 have h' : len + r.length ≤ NN := h
 cases st with
 | error e => exact ⟨show len ≤ NN + 1 by omega, fun _ => show len + 1 ≤ NN + 1 by omega⟩
 | ok s =>
  have := hs s rfl
  exact ⟨show len + s.length ≤ NN by omega, fun k => by have := k s rfl; show len + 1 + s.length ≤ NN; omega⟩
theorem stU_suf {r : List Nat} {x : Int} {st : Except Int (List Nat)} (h : stU (.ok r) x st) : ∀ s, st = .ok s → s.length < r.length := fun s hs => by
 unfold stU at h
 cases hu : uI r with
 | error e => simp only [hu] at h; rw [h] at hs; cases hs
 | ok p => obtain ⟨n, r'⟩ := p; simp only [hu] at h; rw [h.2] at hs; cases hs; exact (uI_suf hu).1
theorem stI_suf {r : List Nat} {base n x : Int} {st : Except Int (List Nat)} (h : stI (.ok r) base n x st) : ∀ s, st = .ok s → s = r ∧ 0 ≤ x ∧ x ≤ 1000000 := fun s hs => by
 unfold stI at h
 cases hu : idM base n r with
 | error e => simp only [hu] at h; rw [h] at hs; cases hs
 | ok p => obtain ⟨m, r'⟩ := p; simp only [hu] at h; rw [h.2] at hs; cases hs; rw [h.1]; exact idM_suf hu
theorem chk_no {l : List Nat} {at_ e many : Int} {st : Except Int (List Nat)} (hO : okR l at_ e st) (h : (decide (e = 0) && decide (many = 0)) = false) : chkS st many = st := by
 cases st with
 | error er => rfl
 | ok r =>
  rw [hO.1] at h
  have : many ≠ 0 := by simpa using h
  exact if_neg this
theorem chk_yes {l : List Nat} {at_ e many : Int} {st : Except Int (List Nat)} (hO : okR l at_ e st) (h : (decide (e = 0) && decide (many = 0)) = true) : chkS st many = .error 1 := by
 rw [Bool.and_eq_true, decide_eq_true_eq, decide_eq_true_eq] at h
 cases st with
 | error er => exact absurd (hO.1.symm.trans h.1) hO.2
 | ok r => exact if_pos h.2
theorem rg_any {st : Except Int (List Nat)} {r : List Nat} {x : Int} (h : rgS (.ok r) x) : rgS st x := by
 cases st with
 | error e => trivial
 | ok s => exact h
theorem inv_row {NN i : Nat} {cnt node edge d nd many : Int} {X : Except Int (Col × List Nat)} {C : Col} {r : List Nat} {st1 st2 st3 : Except Int (List Nat)} (h : InvO NN cnt X i node edge C (.ok r)) (hi : (i : Int) < cnt) (h1 : stU (.ok r) d st1) (h2 : stI st1 node d nd st2) (h3 : stU st2 many st3) : InvI NN (cnt.toNat - (i + 1)) X (i + 1) nd many 0 nd edge { { C with nodes := C.nodes ++ [nd] } with first := C.first ++ [(C.tos.length : Int)] } (chkS st3 many) := by
 have hx := h.x
 rw [show cnt.toNat - i = (cnt.toNat - (i + 1)) + 1 by omega] at hx
 have hy := rows_step hx h1 h2 h3
 have hk : ∀ s, chkS st3 many = .ok s → st3 = .ok s := fun s hs => by
  cases st3 with
  | error e => cases hs
  | ok q =>
   unfold chkS at hs
   simp only at hs
   split at hs
   ·cases hs
   ·exact hs
 have hsuf : ∀ s, chkS st3 many = .ok s → (s.length < r.length ∧ 0 ≤ nd ∧ nd ≤ 1000000) := fun s hs => by
  have hs3 := hk s hs
  cases st1 with
  | error e => unfold stI at h2; simp only at h2; rw [h2] at h3; unfold stU at h3; simp only at h3; rw [h3] at hs3; cases hs3
  | ok r1 =>
   cases st2 with
   | error e => unfold stU at h3; simp only at h3; rw [h3] at hs3; cases hs3
   | ok r2 =>
    have a1 := stU_suf h1 r1 rfl
    obtain ⟨a2, a3, a4⟩ := stI_suf h2 r2 rfl
    have a5 := stU_suf h3 s hs3
    rw [a2] at a5
    exact ⟨by omega, a3, a4⟩
 have hrn : rgS (chkS st3 many) nd := by
  cases hc : chkS st3 many with
  | error e => trivial
  | ok s => exact (hsuf s hc).2
 have hbn := (bd_num (st := chkS st3 many) h.b.n (fun s hs => Nat.le_of_lt (hsuf s hs).1)).2 (fun s hs => (hsuf s hs).1)
 have hbt := (bd_num (st := chkS st3 many) h.b.t (fun s hs => Nat.le_of_lt (hsuf s hs).1)).1
 exact ⟨hy, hrn, hrn, rg_any h.re, ⟨by show bdS _ _ (C.nodes ++ [nd]).length; rw [List.length_append]; exact hbn, by show (C.first ++ _).length = (C.nodes ++ _).length; rw [List.length_append, List.length_append, h.b.f]; rfl, hbt, h.b.e⟩, by show i + 1 ≤ (C.nodes ++ [nd]).length; rw [List.length_append]; have := h.i; simp; omega, Nat.zero_le _⟩
theorem inv_ent {NN m i k : Nat} {nd many tv edge x1 x2 : Int} {X : Except Int (Col × List Nat)} {C : Col} {r : List Nat} {st1 st2 : Except Int (List Nat)} (h : InvI NN m X i nd many k tv edge C (.ok r)) (hk : (k : Int) < many) (h1 : stN (.ok r) tv x1 st1) (h2 : stN st1 edge x2 st2) : InvI NN m X i nd many (k + 1) x1 x2 { { C with tos := C.tos ++ [x1] } with edges := C.edges ++ [x2] } st2 := by
 have hx := h.x
 rw [show many.toNat - k = (many.toNat - (k + 1)) + 1 by omega] at hx
 have hy := ents_step hx h1 h2
 have hb0 := h.b.ok
 obtain ⟨r1, b1, b2⟩ := bd_push h.b.t hb0.2 h1
 obtain ⟨r1n, b1n, -⟩ := bd_push h.b.n hb0.1 h1
 have e2 : rgS st2 x2 := by
  cases st1 with
  | error e => unfold stN at h2; simp only at h2; rw [h2]; trivial
  | ok s => exact (bd_push (NN := NN) (len := 0) (st := .ok s) (show 0 + s.length ≤ NN by have h' : C.tos.length + s.length ≤ NN := b1; omega) (Nat.zero_le _) h2).1
 have e1 : rgS st2 x1 := by
  cases st1 with
  | error e => unfold stN at h2; simp only at h2; rw [h2]; trivial
  | ok s => exact rg_any r1
 have bt : bdS NN st2 (C.tos.length + 1) := by
  cases st1 with
  | error e => unfold stN at h2; simp only at h2; rw [h2]; exact b2 r rfl
  | ok s => exact (bd_push (b2 r rfl) (by have h' : C.tos.length + 1 + s.length ≤ NN := b2 r rfl; omega) h2).2.1
 have bn : bdS NN st2 C.nodes.length := by
  cases st1 with
  | error e => unfold stN at h2; simp only at h2; rw [h2]; exact b1n
  | ok s => exact (bd_push b1n hb0.1 h2).2.1
 exact ⟨hy, rg_any h.rn, e1, e2, ⟨bn, h.b.f, by show bdS _ _ (C.tos ++ [x1]).length; rw [List.length_append]; exact bt, by show (C.edges ++ _).length = (C.tos ++ _).length; rw [List.length_append, List.length_append, h.b.e]; rfl⟩, h.i, by show k + 1 ≤ (C.tos ++ [x1]).length; rw [List.length_append]; have := h.k; simp; omega⟩
theorem inv_out {NN i k : Nat} {cnt nd many tv edge : Int} {X : Except Int (Col × List Nat)} {C : Col} {st : Except Int (List Nat)} (h : InvI NN (cnt.toNat - i) X i nd many k tv edge C st) (hk : ∀ r, st = .ok r → ¬ (k : Int) < many) : InvO NN cnt X i nd edge C st := by
 refine ⟨?_, h.rn, h.re, h.b, h.i⟩
 cases st with
 | error e => exact ents_err h.x
 | ok r =>
  have hx := h.x
  rw [show many.toNat - k = 0 by have := hk r rfl; omega] at hx
  exact ents_end hx
theorem inv_end {NN i : Nat} {cnt node edge : Int} {X : Except Int (Col × List Nat)} {C : Col} {st : Except Int (List Nat)} (h : InvO NN cnt X i node edge C st) (hk : ∀ r, st = .ok r → ¬ (i : Int) < cnt) : X = endS C st ∧ Bnd NN st C := by
 refine ⟨?_, h.b⟩
 cases st with
 | error e => exact h.x
 | ok r =>
  have hx := h.x
  rw [show cnt.toNat - i = 0 by have := hk r rfl; omega] at hx
  exact hx
theorem dec_err {D : Except Int Col} {X : Except Int (Col × List Nat)} {C : Col} {e : Int} (h : D = endC X) (hx : X = endS C (.error e)) : decR D = (e, noCol) := by rw [h, hx]; rfl
theorem dec_bad {D : Except Int Col} {X : Except Int (Col × List Nat)} {C : Col} {r : List Nat} (h : D = endC X) (hx : X = endS C (.ok r)) (hb : colB (finC C) = false) : decR D = (1, noCol) := by
 rw [h, hx]; unfold endS endC; simp only; rw [if_neg (by rw [hb]; exact Bool.false_ne_true)]; rfl
theorem dec_more {D : Except Int Col} {X : Except Int (Col × List Nat)} {C : Col} {r : List Nat} (h : D = endC X) (hx : X = endS C (.ok r)) (hb : colB (finC C) = true) (hr : r ≠ []) : decR D = (2, noCol) := by
 rw [h, hx]; unfold endS endC; simp only; rw [if_pos hb, if_neg hr]; rfl
theorem dec_good {D : Except Int Col} {X : Except Int (Col × List Nat)} {C : Col} {r : List Nat} (h : D = endC X) (hx : X = endS C (.ok r)) (hb : colB (finC C) = true) (hr : r = []) : decR D = (0, finC C) := by
 rw [h, hx]; unfold endS endC; simp only; rw [if_pos hb, if_pos hr]; rfl
theorem finC_len {NN : Nat} {st : Except Int (List Nat)} {C : Col} (h : Bnd NN st C) : (finC C).nodes.length ≤ NN + 1 ∧ (finC C).first.length ≤ NN + 2 ∧ (finC C).tos.length ≤ NN + 1 ∧ (finC C).edges.length ≤ NN + 1 := by
 obtain ⟨h0, h1, h2, h3⟩ := h.len
 unfold finC
 split
 ·exact ⟨h0, by omega, h2, h3⟩
 ·exact ⟨h0, by show (C.first ++ _).length ≤ _; rw [List.length_append]; show C.first.length + 1 ≤ _; omega, h2, h3⟩
end Go.Proofs.YtnheioehadldmaaGreat
