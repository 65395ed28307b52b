/- PARTS OF THE WALKS, joined: CoP, CoQ. -/
import Derived.Test.YtnheioehadldmaaGreatR14
/- THE WALK over the reference's Valid. -/
namespace Go.Proofs.YtnheioehadldmaaGreat
open Go.RowKit
noncomputable def colB (c : Col) : Bool := @decide (validP c) (Classical.propDecidable _)
theorem colB_iff {c : Col} : colB c = true ↔ validP c := @decide_eq_true_iff _ (Classical.propDecidable _)
theorem colB_no {c : Col} (h : ¬ validP c) : colB c = false := by rw [← Bool.not_eq_true, colB_iff]; exact h
theorem adj_lt {a b c : Sh} (h1 : adjOrd a b < 0) (h2 : adjOrd b c < 0) : adjOrd a c < 0 := by
 have h3 := TotC.adj.trans a b c (by omega) (by omega)
 rcases Int.lt_or_eq_of_le h3 with h | h
 ·exact h
 ·have e := (TotC.adj.zero _ _).1 h
  subst e
  have := TotC.adj.anti a b
  omega
theorem rise_of {l : List Sh} (h : ∀ k j, k = j + 1 → k < l.length → adjOrd l[j]! l[k]! < 0) : l.Pairwise (fun a b => adjOrd a b < 0) := by
 rw [List.pairwise_iff_getElem]
 have key : ∀ d i, i + d + 1 < l.length → adjOrd l[i]! l[i + d + 1]! < 0 := by
  intro d
  induction d with
  | zero => intro i hi; exact h _ i rfl hi
  | succ d ih => intro i hi; exact adj_lt (ih i (by omega)) (h _ (i + d + 1) rfl hi)
 intro i j hi hj hij
 have := key (j - i - 1) i (by omega)
 rw [show i + (j - i - 1) + 1 = j by omega, getElem!_pos l i hi, getElem!_pos l j hj] at this
 exact this
/-- what the reference looks at -/
theorem valid_ref (c : Col) : validP c ↔ shapeRP c ∧ (∀ k, k < c.tos.length → idOk c.tos[k]! ∧ idOk c.edges[k]!) ∧ (∀ k j, k = j + 1 → k < (flatC c).length → adjOrd (flatC c)[j]! (flatC c)[k]! < 0) ∧ ∀ i, i < (flatC c).length → ∀ m, m < i → (flatC c)[m]!.d ≠ (flatC c)[i]!.d := by
 constructor
 ·rintro (⟨h1, h2, h3, h4⟩ | ⟨hS, hn, hg⟩)
  ·obtain ⟨n, f, t, e⟩ := c
   cases h1; cases h2; cases h3; cases h4
   exact ⟨⟨.inl ⟨rfl, rfl, rfl, rfl⟩, fun t ht => absurd ht (by simp)⟩, fun k hk => absurd hk (by simp), fun k j _ hk => absurd hk (by simp [flatC, flatK]), fun i hi => absurd hi (by simp [flatC, flatK])⟩
  ·have hl := flatC_len hS
   refine ⟨⟨.inr hS, fun t ht => ⟨?_, fun j hj => ?_⟩⟩, fun k hk => ?_, fun k j hkj hk => ?_, fun i hi m hm => ?_⟩
   ·have h1 := hS.rise t ht
    have h2 := hS.nn (i := t) (by omega)
    have h3 := hS.le (i := t + 1) (by omega)
    have h4 := flat_at hS ht (Nat.le_refl _) (show c.first[t]!.toNat < c.first[t + 1]!.toNat by omega)
    have h5 := hg.ids (flatC c)[c.first[t]!.toNat]! (by rw [getElem!_pos _ _ (by omega)]; exact List.getElem_mem _)
    rw [h4] at h5
    exact h5.1
   ·have := List.pairwise_iff_getElem.1 hn j t (by omega) ht (by omega)
    rwa [← getElem!_pos c.nodes j (by omega), ← getElem!_pos c.nodes t ht] at this
   ·obtain ⟨i, -, -, -, h4⟩ := flatC_nd hS hk
    have h5 := hg.ids (flatC c)[k]! (by rw [getElem!_pos _ k (by omega)]; exact List.getElem_mem _)
    rw [h4] at h5
    exact h5.2
   ·have := List.pairwise_iff_getElem.1 hg.rise j k (by omega) hk (by omega)
    rwa [← getElem!_pos (flatC c) j (by omega), ← getElem!_pos (flatC c) k hk] at this
   ·have := List.pairwise_iff_getElem.1 hg.once m i (by rw [List.length_map]; omega) (by rw [List.length_map]; exact hi) hm
    rwa [List.getElem_map, List.getElem_map, ← getElem!_pos (flatC c) m (by omega), ← getElem!_pos (flatC c) i hi] at this
 ·rintro ⟨⟨h1 | hS, hn⟩, h2, h3, h4⟩
  ·exact .inl h1
  ·have hl := flatC_len hS
   refine .inr ⟨hS, ?_, ⟨fun a ha => ?_, rise_of h3, ?_⟩⟩
   ·have key : ∀ d i, i + d + 1 < c.nodes.length → c.nodes[i]! < c.nodes[i + d + 1]! := by
     intro d
     induction d with
     | zero => intro i hi; exact (hn (i + 1) hi).2 i rfl
     | succ d ih => intro i hi; have a1 := ih i (by omega); have a2 := (hn (i + d + 1 + 1) (by omega)).2 (i + d + 1) rfl; have e : i + (d + 1) + 1 = i + d + 1 + 1 := rfl; rw [e]; omega
    rw [List.pairwise_iff_getElem]
    intro i j hi hj hij
    have := key (j - i - 1) i (by omega)
    rw [show i + (j - i - 1) + 1 = j by omega, getElem!_pos _ i hi, getElem!_pos _ j hj] at this
    exact this
   ·obtain ⟨k, hk, rfl⟩ := List.getElem_of_mem ha
    obtain ⟨i, hi, -, -, h5⟩ := flatC_nd hS (k := k) (by omega)
    rw [← getElem!_pos _ k hk, h5]
    exact ⟨(hn i hi).1, (h2 k (by omega)).1, (h2 k (by omega)).2⟩
   ·rw [List.Nodup, List.pairwise_iff_getElem]
    intro m i hm hi hmi
    rw [List.length_map] at hm hi
    rw [List.getElem_map, List.getElem_map, ← getElem!_pos _ m hm, ← getElem!_pos _ i hi]
    exact h4 i hi m hmi
set_option maxRecDepth 100000 in
set_option maxHeartbeats 6400000 in
theorem r12_Valid (c : Col) (ok : Nat → Prop) (A B Cx D : Option Addr) (k0 k1 k2 k3 : Nat) (w : World) (hv : ColAt w ok A B Cx D c) (hm : c.tos.length ≤ 8000000) :
  Calls Tryz.prog 34 #[agC c A B Cx D k0 k1 k2 k3] w fun e w' => e = .returned (.bool (colB c)) ∧ Ext w w' := by
 obtain ⟨q, w1, hq, hw1, ⟨a0, a1, a2, a3⟩, hx⟩ := box_col w c A B Cx D k0 k1 k2 k3 29
 have HW := Lib.hid hw1
 have HQ := Lib.hid hq
 have HX := Lib.hid hx
 have HTV := Lib.hid (hv.t.ext hx)
 have HEV := Lib.hid (hv.e.ext hx)
 have hnl := hv.n.len
 have htl := hv.t.len
 have HSH := Lib.hid (fun W (e : Ext w1 W) => r12_shape c ok A B Cx D k0 k1 k2 k3 W ((hv.ext hx).ext e))
 have HFT := Lib.hid (fun (hs : shapeP c) W (e : Ext w1 W) => r12_flat c ok A B Cx D k0 k1 k2 k3 W ((hv.ext hx).ext e) hs hm)
 have HFL := Lib.hid (fun (h : shapeRP c) => (by
  rcases h.1 with ⟨h1, h2, h3, h4⟩ | h1
  ·unfold flatC; rw [h1, h3]; rfl
  ·exact flatC_len h1 : (flatC c).length = c.tos.length))
 have HVR := Lib.hid (valid_ref c)
 have HY := Lib.hid (fun (h : validP c) => colB_iff.2 h)
 have HN := Lib.hid (fun (h : ¬ validP c) => colB_no h)
 have MK1 := Lib.hid (fun V (e : Ext w1 V) => (⟨e.cell a0, e.cell a1, e.cell a2, e.cell a3⟩ : (V.cell? ⟨q, 0, none⟩ = some (.slice A c.nodes.length k0) ∧ V.cell? ⟨q, 1, none⟩ = some (.slice B c.first.length k1) ∧ V.cell? ⟨q, 2, none⟩ = some (.slice Cx c.tos.length k2) ∧ V.cell? ⟨q, 3, none⟩ = some (.slice D c.edges.length k3))))
 generalize colB c = T at *
 generalize validP c = VP at *
 clear hw1 hq hv hx
 unfold agC at HSH HFT ⊢
 go_enter Tryz.func34, Tryz.ntmps34
 go_upto_region 1 with (fail)
 rw [← HW.out, ← HQ.out]
 clear HW HQ
 cases hsb : shapeRB c
 ·have HT := Lib.hid (HN.out (fun h => by have h1 := shapeRB_iff.2 (HVR.out.1 h).1; rw [hsb] at h1; cases h1))
  rw [hsb] at HSH
  clear hsb HVR HY HN HFT HTV HEV HFL
  go_wp2_with (go_at_call 63; ((with_reducible refine (HSH.out _ (Ext.refl _)).mono ?_); rintro e w2 ⟨rfl, hx2⟩))
  go_ret
  exact ⟨ret_bool HT.out.symm, HX.out.trans hx2⟩
 ·have hsr := shapeRB_iff.1 hsb
  rw [hsb] at HSH
  have HFT' := Lib.hid (HFT.out hsr.1)
  have HLL := Lib.hid (HFL.out hsr)
  have HES := Lib.hid (shapeR_same hsr)
  have HYES := Lib.hid (fun h1 h2 h3 => HY.out (HVR.out.2 ⟨hsr, h1, h2, h3⟩))
  have HN1 := Lib.hid (fun (h : ¬ ∀ k, k < c.tos.length → idOk c.tos[k]! ∧ idOk c.edges[k]!) => HN.out (fun hs => h (HVR.out.1 hs).2.1))
  have HN2 := Lib.hid (fun (h : ¬ ∀ k j, k = j + 1 → k < (flatC c).length → adjOrd (flatC c)[j]! (flatC c)[k]! < 0) => HN.out (fun hs => h (HVR.out.1 hs).2.2.1))
  have HN3 := Lib.hid (fun (h : ¬ ∀ i, i < (flatC c).length → ∀ m, m < i → (flatC c)[m]!.d ≠ (flatC c)[i]!.d) => HN.out (fun hs => h (HVR.out.1 hs).2.2.2))
  clear hsb hsr HVR HY HN HFT HFL
  generalize flatC c = l at *
  go_upto_region 3 with (go_at_call 63; ((with_reducible refine (HSH.out _ (Ext.refl _)).mono ?_); rintro e w2 ⟨rfl, hx2⟩))
  have HX2 := Lib.hid hx2
  clear hx2 HSH
  go_wp2_with fail
  go_loopw [3] (fun u W => ∃ k : Nat, u = .int .i64 k ∧ k ≤ c.tos.length ∧ Hid (∀ t, t < k → idOk c.tos[t]! ∧ idOk c.edges[t]!) ∧ Hid (Ext w1 W)) (fun u _ => c.tos.length - (intOf u).toNat)
  case atStart => exact ⟨0, rfl, Nat.zero_le _, Lib.hid (fun t h => absurd h (by omega)), HX2⟩
  case round =>
   clear HX2
   obtain ⟨k, rfl, hk, HG, hE⟩ := hrel
   obtain ⟨a0, a1, a2, a3⟩ := MK1.out _ hE.out
   by_cases hlt : k < c.tos.length
   ·have hle : k < c.edges.length := by rw [← HES.out]; exact hlt
    obtain ⟨b, o, rfl, hc⟩ := HTV.out.2 (by omega)
    obtain ⟨b2, o2, rfl, hc2⟩ := HEV.out.2 (by omega)
    have d0 := hE.out.cell (hc k hlt).2
    have e0 := hE.out.cell (hc2 k hle).2
    rw [← getElem!_pos _ k hlt, Nat.mul_one] at d0
    rw [← getElem!_pos _ k hle, Nat.mul_one] at e0
    have HB1 := Lib.hid (fun (h : ¬ idOk c.tos[k]!) => HN1.out (fun hs => h (hs k hlt).1))
    have HB2 := Lib.hid (fun (h : ¬ idOk c.edges[k]!) => HN1.out (fun hs => h (hs k hlt).2))
    have HS := Lib.hid (fun (h1 : idOk c.tos[k]!) (h2 : idOk c.edges[k]!) t (ht : t < k + 1) => (if e : t = k then (by rw [e]; exact ⟨h1, h2⟩) else HG.out t (by omega) : idOk c.tos[t]! ∧ idOk c.edges[t]!))
    clear hc hc2 HG HN1 HN2 HN3 HYES HFT' HTV HEV
    generalize c.tos[k]! = x at *
    generalize c.edges[k]! = y at *
    have HI0 := Lib.hid (fun W => r12_id x W)
    have HI1 := Lib.hid (fun W => r12_id y W)
    by_cases hx1 : idOk x
    ·rw [idB_iff.2 hx1] at HI0
     by_cases hy1 : idOk y
     ·rw [idB_iff.2 hy1] at HI1
      have HT := Lib.hid (HS.out hx1 hy1)
      clear HB1 HB2 HS hx1 hy1
      go_wp2_with (first | (go_at_call 32; ((with_reducible refine (HI0.out _).mono ?_); rintro e w3 ⟨rfl, hx3⟩; clear HI0; obtain ⟨a0, a1, a2, a3⟩ := MK1.out _ (hE.out.trans hx3); replace e0 := hx3.cell e0)) | (go_at_call 32; ((with_reducible refine (HI1.out _).mono ?_); rintro e w4 ⟨rfl, hx4⟩)))
      go_roundw
      case rel => exact ⟨k + 1, by go_num, by omega, HT, Lib.hid (hE.out.trans (hx3.trans hx4))⟩
      case measure => simp [intOf]; omega
     ·rw [show idB y = false from by rw [← Bool.not_eq_true, idB_iff]; exact hy1] at HI1
      have HT := Lib.hid (HB2.out hy1)
      clear HB1 HB2 HS hx1 hy1
      go_wp2_with (first | (go_at_call 32; ((with_reducible refine (HI0.out _).mono ?_); rintro e w3 ⟨rfl, hx3⟩; clear HI0; obtain ⟨a0, a1, a2, a3⟩ := MK1.out _ (hE.out.trans hx3); replace e0 := hx3.cell e0)) | (go_at_call 32; ((with_reducible refine (HI1.out _).mono ?_); rintro e w4 ⟨rfl, hx4⟩)))
      go_ret
      exact ⟨ret_bool HT.out.symm, HX.out.trans (hE.out.trans (hx3.trans hx4))⟩
    ·rw [show idB x = false from by rw [← Bool.not_eq_true, idB_iff]; exact hx1] at HI0
     have HT := Lib.hid (HB1.out hx1)
     clear HB1 HB2 HS hx1 HI1
     go_wp2_with (go_at_call 32; ((with_reducible refine (HI0.out _).mono ?_); rintro e w3 ⟨rfl, hx3⟩))
     go_ret
     exact ⟨ret_bool HT.out.symm, HX.out.trans (hE.out.trans hx3)⟩
   ·have HI := Lib.hid (fun t (ht : t < c.tos.length) => HG.out t (by omega))
    clear HG HN1 HTV HEV
    go_upto_region 9 with (go_at_call 64; ((with_reducible refine (HFT'.out _ hE.out).mono ?_); rintro e w3 ⟨A3, c3, rfl, hc3, hV3, hx3⟩))
    have HV3 := Lib.hid hV3
    have HE3 := Lib.hid (hE.out.trans hx3)
    have hll := hV3.len
    clear hV3 hx3 hE HFT' a0 a1 a2 a3 MK1 hk hlt
    go_wp2_with fail
    go_loopw [5] (fun u W => ∃ k : Nat, u = .int .i64 k ∧ 1 ≤ k ∧ (k ≤ l.length ∨ k = 1) ∧ Hid (∀ t j, t = j + 1 → t < k → adjOrd l[j]! l[t]! < 0) ∧ Hid (Ext w3 W)) (fun u _ => l.length - (intOf u).toNat)
    case atStart => exact ⟨1, rfl, Nat.le_refl _, Or.inr rfl, Lib.hid (fun t j h1 h2 => absurd h2 (by omega)), Lib.hid (Ext.refl _)⟩
    case round =>
     obtain ⟨k, rfl, hk1, hk, HG, hE⟩ := hrel
     by_cases hlt : k < l.length
     ·obtain ⟨j, hj⟩ : ∃ j, k = j + 1 := ⟨k - 1, by omega⟩
      have wj : IntKind.i64.wrap ((k : Int) - 1) = (j : Int) := by rw [IntKind.wrap_i64]; omega
      have hjl : j < l.length := by omega
      obtain ⟨b, o, rfl, hc⟩ := HV3.out.at_ hlt
      obtain ⟨-, d0, d1, d2⟩ := hc k hlt
      obtain ⟨-, e0, e1, e2⟩ := hc j hjl
      have HB := Lib.hid (fun (h : ¬ adjOrd l[j]! l[k]! < 0) => HN2.out (fun hs => h (hs k j hj hlt)))
      have HS := Lib.hid (fun (h : adjOrd l[j]! l[k]! < 0) t j' (h1 : t = j' + 1) (h2 : t < k + 1) => (if e : t = k then (by rw [e, show j' = j by omega]; exact h) else HG.out t j' h1 (by omega) : adjOrd l[j']! l[t]! < 0))
      clear hc HG HN2 HN3 HYES HV3 hj
      generalize l[j]! = x at *
      generalize l[k]! = y at *
      obtain ⟨x0, x1, x2⟩ := x
      obtain ⟨y0, y1, y2⟩ := y
      have HLS := Lib.hid (fun W (_ : Ext wr W) => r12_Less ⟨x0, x1, x2⟩ ⟨y0, y1, y2⟩ W)
      have MK := Lib.hid (fun V (e : Ext wr V) => (⟨⟨(hE.out.trans e).cell e0, (hE.out.trans e).cell e1, (hE.out.trans e).cell e2⟩, (hE.out.trans e).cell d0, (hE.out.trans e).cell d1, (hE.out.trans e).cell d2⟩ : (V.cell? ⟨b, o + j * 3, none⟩ = some (.int .i64 x0) ∧ V.cell? ⟨b, o + j * 3 + 1, none⟩ = some (.int .i64 x1) ∧ V.cell? ⟨b, o + j * 3 + 2, none⟩ = some (.int .i64 x2)) ∧ (V.cell? ⟨b, o + k * 3, none⟩ = some (.int .i64 y0) ∧ V.cell? ⟨b, o + k * 3 + 1, none⟩ = some (.int .i64 y1) ∧ V.cell? ⟨b, o + k * 3 + 2, none⟩ = some (.int .i64 y2))))
      clear d0 d1 d2 e0 e1 e2
      cases hls : decide (adjOrd ⟨x0, x1, x2⟩ ⟨y0, y1, y2⟩ < 0)
      ·rw [hls] at HLS
       have HT := Lib.hid (HB.out (of_decide_eq_false hls))
       clear hls HB HS
       go_upto_region 12 with (fail)
       refine wp_region_held_drew (S := (fun V => (V.cell? ⟨b, o + j * 3, none⟩ = some (.int .i64 x0) ∧ V.cell? ⟨b, o + j * 3 + 1, none⟩ = some (.int .i64 x1) ∧ V.cell? ⟨b, o + j * 3 + 2, none⟩ = some (.int .i64 x2)) ∧ (V.cell? ⟨b, o + k * 3, none⟩ = some (.int .i64 y0) ∧ V.cell? ⟨b, o + k * 3 + 1, none⟩ = some (.int .i64 y1) ∧ V.cell? ⟨b, o + k * 3 + 2, none⟩ = some (.int .i64 y2)))) (by kernel_rfl) ?hs48001 (fun hHeld => ?go48001)
       case hs48001 => (exact MK.out _ (by solve_by_elim [X0, X1, X2, X3]))
       refine TK 0 (v := ?v48002) hHeld ?hy48002 ?_
       case hy48002 => (intro w hSw; (try dsimp only at hSw); go_simp <;> first | with_reducible rfl | rw [if_neg (by omega)] | rw [if_pos (by omega)])
       (try simp only [PU])
       refine TK 1 (v := ?v48003) hHeld ?hy48003 ?_
       case hy48003 => (intro w hSw; (try dsimp only at hSw); go_simp <;> first | with_reducible rfl | rw [if_neg (by omega)] | rw [if_pos (by omega)])
       (try simp only [PU])
       refine TK 2 (v := ?v48004) hHeld ?hy48004 ?_
       case hy48004 => (intro w hSw; (try dsimp only at hSw); go_simp <;> first | with_reducible rfl | rw [if_neg (by omega)] | rw [if_pos (by omega)])
       (try simp only [PU])
       refine TK 3 (v := ?v48005) hHeld ?hy48005 ?_
       case hy48005 => (intro w hSw; (try dsimp only at hSw); go_simp <;> first | with_reducible rfl | rw [if_neg (by omega)] | rw [if_pos (by omega)])
       (try simp only [PU])
       refine TK 4 (v := ?v48006) hHeld ?hy48006 ?_
       case hy48006 => (intro w hSw; (try dsimp only at hSw); go_simp <;> first | with_reducible rfl | rw [if_neg (by omega)] | rw [if_pos (by omega)])
       (try simp only [PU])
       refine TK 5 (v := ?v48007) hHeld ?hy48007 ?_
       case hy48007 => (intro w hSw; (try dsimp only at hSw); go_simp <;> first | with_reducible rfl | rw [if_neg (by omega)] | rw [if_pos (by omega)])
       (try simp only [PU])
       refine TK 6 (v := ?v48008) hHeld ?hy48008 ?_
       case hy48008 => (intro w hSw; (try dsimp only at hSw); go_simp <;> first | with_reducible rfl | rw [if_neg (by omega)] | rw [if_pos (by omega)])
       (try simp only [PU])
       refine TK 7 (v := ?v48009) hHeld ?hy48009 ?_
       case hy48009 => (intro w hSw; (try dsimp only at hSw); go_simp <;> first | with_reducible rfl | rw [if_neg (by omega)] | rw [if_pos (by omega)])
       (try simp only [PU])
       refine TK 8 (v := ?v48010) hHeld ?hy48010 ?_
       case hy48010 => (intro w hSw; (try dsimp only at hSw); go_simp <;> first | with_reducible rfl | rw [if_neg (by omega)] | rw [if_pos (by omega)])
       (try simp only [PU])
       refine wpAnyH_ready (rs := [9]) (by kernel_rfl) (by simp) ?_
       refine AllReadyH.cons (o := ⟨_, _, _, _, _, _⟩) rfl (fun K hK => ?step48011x0) ?more48011x0
       case more48011x0 => exact AllReadyH.nil
       go_simp
       (with_reducible refine (HLS.out _ (by solve_by_elim [X0, X1, X2, X3])).mono ?_; rintro r v9 ⟨rfl, hy9⟩; replace hy9 : Ext wr v9 := Ext.trans (by solve_by_elim [X0, X1, X2, X3]) hy9)
       refine hK.out _ _ ?hS48011x0 (fun H48011 => ?_)
       case hS48011x0 => first | (exact MK.out _ (by solve_by_elim [X0, X1, X2, X3])) | ((try dsimp only); (exact MK.out _ (by solve_by_elim [X0, X1, X2, X3])))
       clear hK K
       clear hHeld
       (try simp only [PU])
       refine TK 10 (v := ?v48012) H48011 ?hy48012 ?_
       case hy48012 => (intro w hSw; (try dsimp only at hSw); go_simp <;> first | with_reducible rfl | rw [if_neg (by omega)] | rw [if_pos (by omega)])
       (try simp only [PU])
       refine wpAnyH_done (by kernel_rfl) ?_ _
       clear H48011
       go_wp2_with fail
       go_ret
       exact ⟨ret_bool HT.out.symm, HX.out.trans (HE3.out.trans (hE.out.trans hy9))⟩
      ·rw [hls] at HLS
       have HT := Lib.hid (HS.out (of_decide_eq_true hls))
       clear hls HB HS
       go_upto_region 12 with (fail)
       refine wp_region_held_drew (S := (fun V => (V.cell? ⟨b, o + j * 3, none⟩ = some (.int .i64 x0) ∧ V.cell? ⟨b, o + j * 3 + 1, none⟩ = some (.int .i64 x1) ∧ V.cell? ⟨b, o + j * 3 + 2, none⟩ = some (.int .i64 x2)) ∧ (V.cell? ⟨b, o + k * 3, none⟩ = some (.int .i64 y0) ∧ V.cell? ⟨b, o + k * 3 + 1, none⟩ = some (.int .i64 y1) ∧ V.cell? ⟨b, o + k * 3 + 2, none⟩ = some (.int .i64 y2)))) (by kernel_rfl) ?hs48013 (fun hHeld => ?go48013)
       case hs48013 => (exact MK.out _ (by solve_by_elim [X0, X1, X2, X3]))
       refine TK 0 (v := ?v48014) hHeld ?hy48014 ?_
       case hy48014 => (intro w hSw; (try dsimp only at hSw); go_simp <;> first | with_reducible rfl | rw [if_neg (by omega)] | rw [if_pos (by omega)])
       (try simp only [PU])
       refine TK 1 (v := ?v48015) hHeld ?hy48015 ?_
       case hy48015 => (intro w hSw; (try dsimp only at hSw); go_simp <;> first | with_reducible rfl | rw [if_neg (by omega)] | rw [if_pos (by omega)])
       (try simp only [PU])
       refine TK 2 (v := ?v48016) hHeld ?hy48016 ?_
       case hy48016 => (intro w hSw; (try dsimp only at hSw); go_simp <;> first | with_reducible rfl | rw [if_neg (by omega)] | rw [if_pos (by omega)])
       (try simp only [PU])
       refine TK 3 (v := ?v48017) hHeld ?hy48017 ?_
       case hy48017 => (intro w hSw; (try dsimp only at hSw); go_simp <;> first | with_reducible rfl | rw [if_neg (by omega)] | rw [if_pos (by omega)])
       (try simp only [PU])
       refine TK 4 (v := ?v48018) hHeld ?hy48018 ?_
       case hy48018 => (intro w hSw; (try dsimp only at hSw); go_simp <;> first | with_reducible rfl | rw [if_neg (by omega)] | rw [if_pos (by omega)])
       (try simp only [PU])
       refine TK 5 (v := ?v48019) hHeld ?hy48019 ?_
       case hy48019 => (intro w hSw; (try dsimp only at hSw); go_simp <;> first | with_reducible rfl | rw [if_neg (by omega)] | rw [if_pos (by omega)])
       (try simp only [PU])
       refine TK 6 (v := ?v48020) hHeld ?hy48020 ?_
       case hy48020 => (intro w hSw; (try dsimp only at hSw); go_simp <;> first | with_reducible rfl | rw [if_neg (by omega)] | rw [if_pos (by omega)])
       (try simp only [PU])
       refine TK 7 (v := ?v48021) hHeld ?hy48021 ?_
       case hy48021 => (intro w hSw; (try dsimp only at hSw); go_simp <;> first | with_reducible rfl | rw [if_neg (by omega)] | rw [if_pos (by omega)])
       (try simp only [PU])
       refine TK 8 (v := ?v48022) hHeld ?hy48022 ?_
       case hy48022 => (intro w hSw; (try dsimp only at hSw); go_simp <;> first | with_reducible rfl | rw [if_neg (by omega)] | rw [if_pos (by omega)])
       (try simp only [PU])
       refine wpAnyH_ready (rs := [9]) (by kernel_rfl) (by simp) ?_
       refine AllReadyH.cons (o := ⟨_, _, _, _, _, _⟩) rfl (fun K hK => ?step48023x0) ?more48023x0
       case more48023x0 => exact AllReadyH.nil
       go_simp
       (with_reducible refine (HLS.out _ (by solve_by_elim [X0, X1, X2, X3])).mono ?_; rintro r v9 ⟨rfl, hy9⟩; replace hy9 : Ext wr v9 := Ext.trans (by solve_by_elim [X0, X1, X2, X3]) hy9)
       refine hK.out _ _ ?hS48023x0 (fun H48023 => ?_)
       case hS48023x0 => first | (exact MK.out _ (by solve_by_elim [X0, X1, X2, X3])) | ((try dsimp only); (exact MK.out _ (by solve_by_elim [X0, X1, X2, X3])))
       clear hK K
       clear hHeld
       (try simp only [PU])
       refine TK 10 (v := ?v48024) H48023 ?hy48024 ?_
       case hy48024 => (intro w hSw; (try dsimp only at hSw); go_simp <;> first | with_reducible rfl | rw [if_neg (by omega)] | rw [if_pos (by omega)])
       (try simp only [PU])
       refine wpAnyH_done (by kernel_rfl) ?_ _
       clear H48023
       go_wp2_with fail
       go_roundw
       case rel => exact ⟨k + 1, by go_num, by omega, by omega, HT, Lib.hid (hE.out.trans hy9)⟩
       case measure => simp [intOf]; omega
     ·have HI2 := Lib.hid (fun t j (h1 : t = j + 1) (h2 : t < l.length) => HG.out t j h1 (by omega))
      have HE4 := hE
      clear HG HN2 hE hk
      go_wp2_with fail
      go_loopw [6] (fun u W => ∃ i : Nat, u = .int .i64 i ∧ i ≤ l.length ∧ Hid (∀ t, t < i → ∀ m, m < t → l[m]!.d ≠ l[t]!.d) ∧ Hid (Ext w3 W)) (fun u _ => l.length - (intOf u).toNat)
      case atStart => exact ⟨0, rfl, Nat.zero_le _, Lib.hid (fun t h => absurd h (by omega)), HE4⟩
      case round =>
       clear HE4
       obtain ⟨i, rfl, hi, HG, hE⟩ := hrel
       by_cases hlt : i < l.length
       ·have HE4 := hE
        clear hE HYES HI HI2
        go_wp2_with fail
        go_loopw [7] (fun u W => ∃ m : Nat, u = .int .i64 m ∧ m ≤ i ∧ Hid (∀ t, t < m → l[t]!.d ≠ l[i]!.d) ∧ Hid (Ext w3 W)) (fun u _ => i - (intOf u).toNat)
        case atStart => exact ⟨0, rfl, Nat.zero_le _, Lib.hid (fun t h => absurd h (by omega)), HE4⟩
        case round =>
         clear HE4
         obtain ⟨m, rfl, hm', HC, hE⟩ := hrel
         by_cases hmi : m < i
         ·obtain ⟨b, o, rfl, hc⟩ := HV3.out.at_ hlt
          obtain ⟨-, -, -, d2⟩ := hc i hlt
          obtain ⟨-, -, -, e2⟩ := hc m (by omega)
          have hml : m < l.length := by omega
          have HB := Lib.hid (fun (h : l[m]!.d = l[i]!.d) => HN3.out (fun hs => hs i hlt m hmi h))
          have HS := Lib.hid (fun (h : l[m]!.d ≠ l[i]!.d) t (ht : t < m + 1) => (if e : t = m then (by rw [e]; exact h) else HC.out t (by omega) : l[t]!.d ≠ l[i]!.d))
          clear hc HC HG HV3 HN3
          generalize l[i]!.d = x at *
          generalize l[m]!.d = y at *
          have MK := Lib.hid (fun V (e : Ext wr V) => (⟨(hE.out.trans e).cell e2, (hE.out.trans e).cell d2⟩ : V.cell? ⟨b, o + m * 3 + 2, none⟩ = some (.int .i64 y) ∧ V.cell? ⟨b, o + i * 3 + 2, none⟩ = some (.int .i64 x)))
          clear d2 e2
          by_cases hxy : y = x
          ·have HT := Lib.hid (HB.out hxy)
           have g : (y == x) = true := beq_iff_eq.2 hxy
           clear hxy HB HS
           go_upto_region 20 with (fail)
           refine wp_region_held_drew (S := (fun V => V.cell? ⟨b, o + m * 3 + 2, none⟩ = some (.int .i64 y) ∧ V.cell? ⟨b, o + i * 3 + 2, none⟩ = some (.int .i64 x))) (by kernel_rfl) ?hs48025 (fun hHeld => ?go48025)
           case hs48025 => (exact MK.out _ (by solve_by_elim [X0, X1, X2, X3]))
           refine TK 0 (v := ?v48026) hHeld ?hy48026 ?_
           case hy48026 => (intro w hSw; (try dsimp only at hSw); go_simp <;> first | with_reducible rfl | rw [if_neg (by omega)] | rw [if_pos (by omega)])
           (try simp only [PU])
           refine TK 1 (v := ?v48027) hHeld ?hy48027 ?_
           case hy48027 => (intro w hSw; (try dsimp only at hSw); go_simp <;> first | with_reducible rfl | rw [if_neg (by omega)] | rw [if_pos (by omega)])
           (try simp only [PU])
           refine TK 2 (v := ?v48028) hHeld ?hy48028 ?_
           case hy48028 => (intro w hSw; (try dsimp only at hSw); go_simp <;> first | with_reducible rfl | rw [if_neg (by omega)] | rw [if_pos (by omega)])
           (try simp only [PU])
           refine TK 3 (v := ?v48029) hHeld ?hy48029 ?_
           case hy48029 => (intro w hSw; (try dsimp only at hSw); go_simp <;> first | with_reducible rfl | rw [if_neg (by omega)] | rw [if_pos (by omega)])
           (try simp only [PU])
           refine TK 4 (v := ?v48030) hHeld ?hy48030 ?_
           case hy48030 => (intro w hSw; (try dsimp only at hSw); go_simp <;> first | with_reducible rfl | rw [if_neg (by omega)] | rw [if_pos (by omega)])
           (try simp only [PU])
           refine TK 5 (v := ?v48031) hHeld ?hy48031 ?_
           case hy48031 => (intro w hSw; (try dsimp only at hSw); go_simp <;> first | with_reducible rfl | rw [if_neg (by omega)] | rw [if_pos (by omega)])
           (try simp only [PU])
           refine TK 6 (v := ?v48032) hHeld ?hy48032 ?_
           case hy48032 => (intro w hSw; (try dsimp only at hSw); go_simp <;> first | with_reducible rfl | rw [if_neg (by omega)] | rw [if_pos (by omega)])
           (try simp only [PU])
           refine TK 7 (v := ?v48033) hHeld ?hy48033 ?_
           case hy48033 => (intro w hSw; (try dsimp only at hSw); go_simp <;> first | with_reducible rfl | rw [if_neg (by omega)] | rw [if_pos (by omega)])
           (try simp only [PU])
           refine TK 8 (v := ?v48034) hHeld ?hy48034 ?_
           case hy48034 => (intro w hSw; (try dsimp only at hSw); go_simp <;> first | with_reducible rfl | rw [if_neg (by omega)] | rw [if_pos (by omega)])
           (try simp only [PU])
           refine TK 9 (v := ?v48035) hHeld ?hy48035 ?_
           case hy48035 => (intro w hSw; (try dsimp only at hSw); go_simp <;> first | with_reducible rfl | rw [if_neg (by omega)] | rw [if_pos (by omega)])
           (try simp only [PU])
           refine TK 10 (v := ?v48036) hHeld ?hy48036 ?_
           case hy48036 => (intro w hSw; (try dsimp only at hSw); go_simp <;> first | with_reducible rfl | rw [if_neg (by omega)] | rw [if_pos (by omega)])
           (try simp only [PU])
           refine wpAnyH_done (by kernel_rfl) ?_ _
           clear hHeld
           go_wp2_with fail
           go_ret
           exact ⟨ret_bool HT.out.symm, HX.out.trans (HE3.out.trans (hE.out.trans (by solve_by_elim [X0, X1, X2, X3])))⟩
          ·have HT := Lib.hid (HS.out hxy)
           have g : (y == x) = false := beq_eq_false_iff_ne.2 hxy
           clear hxy HB HS
           go_upto_region 20 with (fail)
           refine wp_region_held_drew (S := (fun V => V.cell? ⟨b, o + m * 3 + 2, none⟩ = some (.int .i64 y) ∧ V.cell? ⟨b, o + i * 3 + 2, none⟩ = some (.int .i64 x))) (by kernel_rfl) ?hs48037 (fun hHeld => ?go48037)
           case hs48037 => (exact MK.out _ (by solve_by_elim [X0, X1, X2, X3]))
           refine TK 0 (v := ?v48038) hHeld ?hy48038 ?_
           case hy48038 => (intro w hSw; (try dsimp only at hSw); go_simp <;> first | with_reducible rfl | rw [if_neg (by omega)] | rw [if_pos (by omega)])
           (try simp only [PU])
           refine TK 1 (v := ?v48039) hHeld ?hy48039 ?_
           case hy48039 => (intro w hSw; (try dsimp only at hSw); go_simp <;> first | with_reducible rfl | rw [if_neg (by omega)] | rw [if_pos (by omega)])
           (try simp only [PU])
           refine TK 2 (v := ?v48040) hHeld ?hy48040 ?_
           case hy48040 => (intro w hSw; (try dsimp only at hSw); go_simp <;> first | with_reducible rfl | rw [if_neg (by omega)] | rw [if_pos (by omega)])
           (try simp only [PU])
           refine TK 3 (v := ?v48041) hHeld ?hy48041 ?_
           case hy48041 => (intro w hSw; (try dsimp only at hSw); go_simp <;> first | with_reducible rfl | rw [if_neg (by omega)] | rw [if_pos (by omega)])
           (try simp only [PU])
           refine TK 4 (v := ?v48042) hHeld ?hy48042 ?_
           case hy48042 => (intro w hSw; (try dsimp only at hSw); go_simp <;> first | with_reducible rfl | rw [if_neg (by omega)] | rw [if_pos (by omega)])
           (try simp only [PU])
           refine TK 5 (v := ?v48043) hHeld ?hy48043 ?_
           case hy48043 => (intro w hSw; (try dsimp only at hSw); go_simp <;> first | with_reducible rfl | rw [if_neg (by omega)] | rw [if_pos (by omega)])
           (try simp only [PU])
           refine TK 6 (v := ?v48044) hHeld ?hy48044 ?_
           case hy48044 => (intro w hSw; (try dsimp only at hSw); go_simp <;> first | with_reducible rfl | rw [if_neg (by omega)] | rw [if_pos (by omega)])
           (try simp only [PU])
           refine TK 7 (v := ?v48045) hHeld ?hy48045 ?_
           case hy48045 => (intro w hSw; (try dsimp only at hSw); go_simp <;> first | with_reducible rfl | rw [if_neg (by omega)] | rw [if_pos (by omega)])
           (try simp only [PU])
           refine TK 8 (v := ?v48046) hHeld ?hy48046 ?_
           case hy48046 => (intro w hSw; (try dsimp only at hSw); go_simp <;> first | with_reducible rfl | rw [if_neg (by omega)] | rw [if_pos (by omega)])
           (try simp only [PU])
           refine TK 9 (v := ?v48047) hHeld ?hy48047 ?_
           case hy48047 => (intro w hSw; (try dsimp only at hSw); go_simp <;> first | with_reducible rfl | rw [if_neg (by omega)] | rw [if_pos (by omega)])
           (try simp only [PU])
           refine TK 10 (v := ?v48048) hHeld ?hy48048 ?_
           case hy48048 => (intro w hSw; (try dsimp only at hSw); go_simp <;> first | with_reducible rfl | rw [if_neg (by omega)] | rw [if_pos (by omega)])
           (try simp only [PU])
           refine wpAnyH_done (by kernel_rfl) ?_ _
           clear hHeld
           go_wp2_with fail
           go_roundw
           case rel => exact ⟨m + 1, by go_num, by omega, HT, Lib.hid (hE.out.trans (by solve_by_elim [X0, X1, X2, X3]))⟩
           case measure => simp [intOf]; omega
         ·have hme : m = i := by omega
          have HT := Lib.hid (fun i' (hi' : i' < i + 1) t (ht : t < i') => (if e : i' = i then (by rw [e]; exact HC.out t (by omega)) else HG.out i' (by omega) t ht : l[t]!.d ≠ l[i']!.d))
          clear HG HC hme HN3 HV3
          go_wp2_with fail
          go_roundw
          case rel => exact ⟨i + 1, by go_num, by omega, HT, hE⟩
          case measure => simp [intOf]; omega
       ·have HT := Lib.hid (HYES.out HI.out HI2.out (fun t ht m hm => HG.out t (by omega) m hm))
        clear HG HYES HI HI2 HN3 HV3
        go_wp2_with fail
        go_ret
        exact ⟨ret_bool HT.out.symm, HX.out.trans (HE3.out.trans hE.out)⟩
end Go.Proofs.YtnheioehadldmaaGreat

/- THE WALK over the reference's Entries. -/
namespace Go.Proofs.YtnheioehadldmaaGreat
open Go.RowKit
noncomputable def entR (c : Col) : List Sh := if colB c = true then flatC c else []
theorem valid_shape {c : Col} (h : validP c) : shapeP c := h.elim .inl (fun h => .inr h.1)
end Go.Proofs.YtnheioehadldmaaGreat
