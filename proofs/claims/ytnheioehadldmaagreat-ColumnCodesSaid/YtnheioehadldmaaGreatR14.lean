/- PARTS OF THE WALKS, joined: CoO. -/
import Derived.Test.YtnheioehadldmaaGreatR13
/- THE WALK over the reference's shape. -/
namespace Go.Proofs.YtnheioehadldmaaGreat
open Go.RowKit
/-- what the reference's shape asks: the nodes' ids, rising, too -/
def shapeRP (c : Col) : Prop := shapeP c ∧ ∀ t, t < c.nodes.length → idOk c.nodes[t]! ∧ ∀ j, t = j + 1 → c.nodes[j]! < c.nodes[t]!
noncomputable def shapeRB (c : Col) : Bool := @decide (shapeRP c) (Classical.propDecidable _)
theorem shapeRB_iff {c : Col} : shapeRB c = true ↔ shapeRP c := @decide_eq_true_iff _ (Classical.propDecidable _)
theorem shapeRB_no {c : Col} (h : ¬ shapeRP c) : shapeRB c = false := by rw [← Bool.not_eq_true, shapeRB_iff]; exact h
theorem shapeR_same {c : Col} (h : shapeRP c) : c.tos.length = c.edges.length := by
 rcases h.1 with ⟨-, -, h3, h4⟩ | h1
 ·rw [h3, h4]
 ·exact h1.same
theorem shapeR_none {c : Col} (h : c.nodes.length = 0) (h2 : c.first.length = 0) (h3 : c.tos.length = c.edges.length) : shapeRP c ↔ c.tos.length = 0 := by
 unfold shapeRP
 rw [shape_none h]
 exact ⟨fun h => h.1.1, fun e => ⟨⟨e, by omega, .inl h2⟩, fun t ht => absurd ht (by omega)⟩⟩
theorem shapeR_full {c : Col} (h : ¬ (c.nodes.length = 0 ∧ c.first.length = 0)) : shapeRP c ↔ (c.first.length = c.nodes.length + 1 ∧ c.first[0]! = 0 ∧ c.tos.length = c.edges.length ∧ c.first[c.nodes.length]! = (c.tos.length : Int)) ∧ ∀ t, t < c.nodes.length → c.first[t]! < c.first[t + 1]! ∧ idOk c.nodes[t]! ∧ ∀ j, t = j + 1 → c.nodes[j]! < c.nodes[t]! := by
 constructor
 ·rintro ⟨⟨h1, h2, -⟩ | h1, h2⟩
  ·exact absurd ⟨by rw [h1]; rfl, by rw [h2]; rfl⟩ h
  ·exact ⟨⟨h1.len, h1.zero, h1.same, h1.last⟩, fun t ht => ⟨h1.rise t ht, h2 t ht⟩⟩
 ·rintro ⟨⟨h1, h2, h3, h4⟩, h5⟩
  exact ⟨.inr ⟨h1, h2, h3, h4, fun t ht => (h5 t ht).1⟩, fun t ht => (h5 t ht).2⟩
set_option maxRecDepth 100000 in
set_option maxHeartbeats 6400000 in
theorem r12_shape (c : Col) (ok : Nat → Prop) (A B Cx D : Option Addr) (k0 k1 k2 k3 : Nat) (w : World) (hv : ColAt w ok A B Cx D c) :
  Calls Tryz.prog 63 #[agC c A B Cx D k0 k1 k2 k3] w fun e w' => e = .returned (.bool (shapeRB c)) ∧ Ext w w' := by
 obtain ⟨q, w1, hq, hw1, ⟨a0, a1, a2, a3⟩, hx⟩ := box_col w c A B Cx D k0 k1 k2 k3 29
 have HW := Lib.hid hw1
 have HQ := Lib.hid hq
 have HX := Lib.hid hx
 have HF := Lib.hid (hv.f.ext hx)
 have HNV := Lib.hid (hv.n.ext hx)
 have hnl := hv.n.len
 have htl := hv.t.len
 have hel := hv.e.len
 have hfl := hv.f.len
 have HSM := Lib.hid (fun h => shapeR_same (c := c) h)
 have HSF := Lib.hid (fun h => shapeR_full (c := c) h)
 have HSN := Lib.hid (fun h1 h2 h3 => shapeR_none (c := c) h1 h2 h3)
 have HY := Lib.hid (fun (h : shapeRP c) => shapeRB_iff.2 h)
 have HN := Lib.hid (fun (h : ¬ shapeRP c) => shapeRB_no h)
 generalize shapeRB c = T at *
 generalize shapeRP c = SP at *
 obtain ⟨nodes, fst, tos, edges⟩ := c
 unfold agC
 dsimp only at *
 generalize hnl' : nodes.length = nl at *
 generalize hfl' : fst.length = fl at *
 generalize htl' : tos.length = tl at *
 generalize hel' : edges.length = el at *
 have HFL := Lib.hid hfl'
 have HNL := Lib.hid hnl'
 clear hq hv hnl' htl' hel' hfl'
 go_enter Tryz.func63, Tryz.ntmps63
 go_upto_region 1 with (fail)
 rw [← HW.out, ← HQ.out]
 clear HW HQ hw1
 by_cases ht : tl = el
 ·subst ht
  have gt : ((tl : Int) != (tl : Int)) = false := by simp
  have MK := Lib.hid (fun V (e : Ext w1 V) => (⟨e.cell a0, e.cell a1, e.cell a2, e.cell a3⟩ : (V.cell? ⟨q, 0, none⟩ = some (.slice A nl k0) ∧ V.cell? ⟨q, 1, none⟩ = some (.slice B fl k1) ∧ V.cell? ⟨q, 2, none⟩ = some (.slice Cx tl k2) ∧ V.cell? ⟨q, 3, none⟩ = some (.slice D tl k3))))
  clear hx HSM
  by_cases hz : nl = 0 ∧ fl = 0
  ·obtain ⟨hz1, hz2⟩ := hz
   have HP := Lib.hid (HSN.out hz1 hz2 rfl)
   have gn : ((nl : Int) == 0) = true := by rw [hz1]; rfl
   have gn' : decide (nl = 0) = true := decide_eq_true hz1
   have gf : ((fl : Int) == 0) = true := by rw [hz2]; rfl
   have gf' : decide (fl = 0) = true := decide_eq_true hz2
   clear HSN HSF HF HNV hz1 hz2
   by_cases h0 : tl = 0
   ·have HT := Lib.hid (HY.out (HP.out.2 h0))
    have g : ((tl : Int) == 0) = true := by rw [h0]; rfl
    have g' : decide (tl = 0) = true := decide_eq_true h0
    clear h0 HY HN HP
    go_wp2_with fail
    go_ret
    exact ⟨ret_bool HT.out.symm, HX.out⟩
   ·have HT := Lib.hid (HN.out (fun hs => h0 (HP.out.1 hs)))
    have g : ((tl : Int) == 0) = false := beq_eq_false_iff_ne.2 (by omega)
    have g' : decide (tl = 0) = false := decide_eq_false h0
    clear h0 HY HN HP
    go_wp2_with fail
    go_ret
    exact ⟨ret_bool HT.out.symm, HX.out⟩
  ·have HP := Lib.hid (HSF.out hz)
   have wn : IntKind.i64.wrap ((nl : Int) + 1) = ((nl + 1 : Nat) : Int) := by rw [IntKind.wrap_i64]; omega
   clear HSN HSF
   go_upto_region 3 with (fail)
   go_cut [20] from 11 to 20 (fun s20 wx => s20 = .bool false ∧ Ext w1 wx)
   case first =>
    clear HP HY HN HF HNV wn
    by_cases hn0 : nl = 0
    ·have gn : ((nl : Int) == 0) = true := by rw [hn0]; rfl
     have gn' : decide (nl = 0) = true := decide_eq_true hn0
     have gf : ((fl : Int) == 0) = false := beq_eq_false_iff_ne.2 (by omega)
     have gf' : decide (fl = 0) = false := decide_eq_false (by omega)
     clear hz hn0
     go_wp2_with fail
     go_meet
     case rel => exact ⟨rfl, (by solve_by_elim [X0, X1, X2, X3])⟩
    ·have gn : ((nl : Int) == 0) = false := beq_eq_false_iff_ne.2 (by omega)
     have gn' : decide (nl = 0) = false := decide_eq_false hn0
     clear hz hn0
     go_wp2_with fail
     go_meet
     case rel => exact ⟨rfl, (by solve_by_elim [X0, X1, X2, X3])⟩
   case rest =>
    obtain ⟨rfl, hxc⟩ := hcut
    obtain ⟨w2, hw2⟩ : ∃ w2, w2 = wc := ⟨_, rfl⟩
    subst hw2
    replace HX := Lib.hid (HX.out.trans hxc)
    replace HF := Lib.hid (HF.out.ext hxc)
    replace HNV := Lib.hid (HNV.out.ext hxc)
    replace MK := Lib.hid (fun V (e : Ext w2 V) => MK.out V (hxc.trans e))
    clear hxc a0 a1 a2 a3 hz
    by_cases h1 : fl = nl + 1
    ·obtain ⟨b, o, rfl, hc⟩ := HF.out.2 (by rw [HFL.out]; omega)
     have HCF := Lib.hid (fun t (ht : t < fl) => (by have h := (hc t (by rw [HFL.out]; exact ht)).2; rw [Nat.mul_one, ← getElem!_pos fst t (by rw [HFL.out]; exact ht)] at h; exact h : w2.cell? ⟨b, o + t, none⟩ = some (.int .i64 fst[t]!)))
     have e0 := HCF.out 0 (by omega)
     rw [Nat.add_zero] at e0
     have en := HCF.out nl (by omega)
     have gl : ((fl : Int) != ((nl + 1 : Nat) : Int)) = false := by simp; omega
     have gl' : ((fl : Int) != (nl : Int) + 1) = false := by simp; omega
     have hlt0 : 0 < fl := by omega
     have hltn : nl < fl := by omega
     clear hc HF HFL
     generalize hf0 : fst[0]! = f0 at *
     generalize hfn : fst[nl]! = fn at *
     have MKB := Lib.hid (fun V (e : Ext w2 V) => (⟨MK.out V e, e.cell e0, e.cell en⟩ : (V.cell? ⟨q, 0, none⟩ = some (.slice A nl k0) ∧ V.cell? ⟨q, 1, none⟩ = some (.slice (some ⟨b, o, none⟩) fl k1) ∧ V.cell? ⟨q, 2, none⟩ = some (.slice Cx tl k2) ∧ V.cell? ⟨q, 3, none⟩ = some (.slice D tl k3)) ∧ V.cell? ⟨b, o, none⟩ = some (.int .i64 f0) ∧ V.cell? ⟨b, o + nl, none⟩ = some (.int .i64 fn)))
     by_cases h2 : f0 = 0
     ·have gz : (f0 != 0) = false := by simp [h2]
      by_cases h4 : fn = (tl : Int)
      ·have gf : (fn != (tl : Int)) = false := by simp [h4]
       have HYES := Lib.hid (fun h => HY.out (HP.out.2 ⟨⟨h1, h2, rfl, h4⟩, h⟩))
       have HNO := Lib.hid (fun (h : ¬ ∀ t, t < nl → fst[t]! < fst[t + 1]! ∧ idOk nodes[t]! ∧ ∀ j, t = j + 1 → nodes[j]! < nodes[t]!) => HN.out (fun hs => h (HP.out.1 hs).2))
       clear h1 h2 h4 HY HN HP e0 en hf0 hfn MK
       go_upto_region 5 with (fail)
       refine wp_region_held_drew (S := (fun V => (V.cell? ⟨q, 0, none⟩ = some (.slice A nl k0) ∧ V.cell? ⟨q, 1, none⟩ = some (.slice (some ⟨b, o, none⟩) fl k1) ∧ V.cell? ⟨q, 2, none⟩ = some (.slice Cx tl k2) ∧ V.cell? ⟨q, 3, none⟩ = some (.slice D tl k3)) ∧ V.cell? ⟨b, o, none⟩ = some (.int .i64 f0) ∧ V.cell? ⟨b, o + nl, none⟩ = some (.int .i64 fn))) (by kernel_rfl) ?hs46288 (fun hHeld => ?go46288)
       case hs46288 => (exact MKB.out _ (by solve_by_elim [X0, X1, X2, X3]))
       refine TK 0 (v := ?v46289) hHeld ?hy46289 ?_
       case hy46289 => (intro w hSw; (try dsimp only at hSw); go_simp <;> first | with_reducible rfl | rw [if_neg (by omega)] | rw [if_pos (by omega)])
       (try simp only [PU])
       refine TK 1 (v := ?v46290) hHeld ?hy46290 ?_
       case hy46290 => (intro w hSw; (try dsimp only at hSw); go_simp <;> first | with_reducible rfl | rw [if_neg (by omega)] | rw [if_pos (by omega)])
       (try simp only [PU])
       refine TK 2 (v := ?v46291) hHeld ?hy46291 ?_
       case hy46291 => (intro w hSw; (try dsimp only at hSw); go_simp <;> first | with_reducible rfl | rw [if_neg (by omega)] | rw [if_pos (by omega)])
       (try simp only [PU])
       refine TK 3 (v := ?v46292) hHeld ?hy46292 ?_
       case hy46292 => (intro w hSw; (try dsimp only at hSw); go_simp <;> first | with_reducible rfl | rw [if_neg (by omega)] | rw [if_pos (by omega)])
       (try simp only [PU])
       refine TK 4 (v := ?v46293) hHeld ?hy46293 ?_
       case hy46293 => (intro w hSw; (try dsimp only at hSw); go_simp <;> first | with_reducible rfl | rw [if_neg (by omega)] | rw [if_pos (by omega)])
       (try simp only [PU])
       refine TK 5 (v := ?v46294) hHeld ?hy46294 ?_
       case hy46294 => (intro w hSw; (try dsimp only at hSw); go_simp <;> first | with_reducible rfl | rw [if_neg (by omega)] | rw [if_pos (by omega)])
       (try simp only [PU])
       refine TK 6 (v := ?v46295) hHeld ?hy46295 ?_
       case hy46295 => (intro w hSw; (try dsimp only at hSw); go_simp <;> first | with_reducible rfl | rw [if_neg (by omega)] | rw [if_pos (by omega)])
       (try simp only [PU])
       refine TK 7 (v := ?v46296) hHeld ?hy46296 ?_
       case hy46296 => (intro w hSw; (try dsimp only at hSw); go_simp <;> first | with_reducible rfl | rw [if_neg (by omega)] | rw [if_pos (by omega)])
       (try simp only [PU])
       refine TK 8 (v := ?v46297) hHeld ?hy46297 ?_
       case hy46297 => (intro w hSw; (try dsimp only at hSw); go_simp <;> first | with_reducible rfl | rw [if_neg (by omega)] | rw [if_pos (by omega)])
       (try simp only [PU])
       refine TK 9 (v := ?v46298) hHeld ?hy46298 ?_
       case hy46298 => (intro w hSw; (try dsimp only at hSw); go_simp <;> first | with_reducible rfl | rw [if_neg (by omega)] | rw [if_pos (by omega)])
       (try simp only [PU])
       refine TK 10 (v := ?v46299) hHeld ?hy46299 ?_
       case hy46299 => (intro w hSw; (try dsimp only at hSw); go_simp <;> first | with_reducible rfl | rw [if_neg (by omega)] | rw [if_pos (by omega)])
       (try simp only [PU])
       refine TK 11 (v := ?v46300) hHeld ?hy46300 ?_
       case hy46300 => (intro w hSw; (try dsimp only at hSw); go_simp <;> first | with_reducible rfl | rw [if_neg (by omega)] | rw [if_pos (by omega)])
       (try simp only [PU])
       refine TK 12 (v := ?v46301) hHeld ?hy46301 ?_
       case hy46301 => (intro w hSw; (try dsimp only at hSw); go_simp <;> first | with_reducible rfl | rw [if_neg (by omega)] | rw [if_pos (by omega)])
       (try simp only [PU])
       refine TK 13 (v := ?v46302) hHeld ?hy46302 ?_
       case hy46302 => (intro w hSw; (try dsimp only at hSw); go_simp <;> first | with_reducible rfl | rw [if_neg (by omega)] | rw [if_pos (by omega)])
       (try simp only [PU])
       refine TK 14 (v := ?v46303) hHeld ?hy46303 ?_
       case hy46303 => (intro w hSw; (try dsimp only at hSw); go_simp <;> first | with_reducible rfl | rw [if_neg (by omega)] | rw [if_pos (by omega)])
       (try simp only [PU])
       refine TK 15 (v := ?v46304) hHeld ?hy46304 ?_
       case hy46304 => (intro w hSw; (try dsimp only at hSw); go_simp <;> first | with_reducible rfl | rw [if_neg (by omega)] | rw [if_pos (by omega)])
       (try simp only [PU])
       refine TK 16 (v := ?v46305) hHeld ?hy46305 ?_
       case hy46305 => (intro w hSw; (try dsimp only at hSw); go_simp <;> first | with_reducible rfl | rw [if_neg (by omega)] | rw [if_pos (by omega)])
       (try simp only [PU])
       refine TK 17 (v := ?v46306) hHeld ?hy46306 ?_
       case hy46306 => (intro w hSw; (try dsimp only at hSw); go_simp <;> first | with_reducible rfl | rw [if_neg (by omega)] | rw [if_pos (by omega)])
       (try simp only [PU])
       refine TK 18 (v := ?v46307) hHeld ?hy46307 ?_
       case hy46307 => (intro w hSw; (try dsimp only at hSw); go_simp <;> first | with_reducible rfl | rw [if_neg (by omega)] | rw [if_pos (by omega)])
       (try simp only [PU])
       refine TK 19 (v := ?v46308) hHeld ?hy46308 ?_
       case hy46308 => (intro w hSw; (try dsimp only at hSw); go_simp <;> first | with_reducible rfl | rw [if_neg (by omega)] | rw [if_pos (by omega)])
       (try simp only [PU])
       refine TK 20 (v := ?v46309) hHeld ?hy46309 ?_
       case hy46309 => (intro w hSw; (try dsimp only at hSw); go_simp <;> first | with_reducible rfl | rw [if_neg (by omega)] | rw [if_pos (by omega)])
       (try simp only [PU])
       refine TK 21 (v := ?v46310) hHeld ?hy46310 ?_
       case hy46310 => (intro w hSw; (try dsimp only at hSw); go_simp <;> first | with_reducible rfl | rw [if_neg (by omega)] | rw [if_pos (by omega)])
       (try simp only [PU])
       refine TK 22 (v := ?v46311) hHeld ?hy46311 ?_
       case hy46311 => (intro w hSw; (try dsimp only at hSw); go_simp <;> first | with_reducible rfl | rw [if_neg (by omega)] | rw [if_pos (by omega)])
       (try simp only [PU])
       refine TK 23 (v := ?v46312) hHeld ?hy46312 ?_
       case hy46312 => (intro w hSw; (try dsimp only at hSw); go_simp <;> first | with_reducible rfl | rw [if_neg (by omega)] | rw [if_pos (by omega)])
       (try simp only [PU])
       refine TK 24 (v := ?v46313) hHeld ?hy46313 ?_
       case hy46313 => (intro w hSw; (try dsimp only at hSw); go_simp <;> first | with_reducible rfl | rw [if_neg (by omega)] | rw [if_pos (by omega)])
       (try simp only [PU])
       refine TK 25 (v := ?v46314) hHeld ?hy46314 ?_
       case hy46314 => (intro w hSw; (try dsimp only at hSw); go_simp <;> first | with_reducible rfl | rw [if_neg (by omega)] | rw [if_pos (by omega)])
       (try simp only [PU])
       refine TK 26 (v := ?v46315) hHeld ?hy46315 ?_
       case hy46315 => (intro w hSw; (try dsimp only at hSw); go_simp <;> first | with_reducible rfl | rw [if_neg (by omega)] | rw [if_pos (by omega)])
       (try simp only [PU])
       refine TK 27 (v := ?v46316) hHeld ?hy46316 ?_
       case hy46316 => (intro w hSw; (try dsimp only at hSw); go_simp <;> first | with_reducible rfl | rw [if_neg (by omega)] | rw [if_pos (by omega)])
       (try simp only [PU])
       refine wpAnyH_done (by kernel_rfl) ?_ _
       clear hHeld
       go_wp2_with fail
       go_loopw [3] (fun u W => ∃ i : Nat, u = .int .i64 i ∧ i ≤ nl ∧ Hid (∀ t, t < i → fst[t]! < fst[t + 1]! ∧ idOk nodes[t]! ∧ (∀ j, t = j + 1 → nodes[j]! < nodes[t]!)) ∧ Hid (Ext w2 W)) (fun u _ => nl - (intOf u).toNat)
       case atStart => exact ⟨0, rfl, Nat.zero_le _, Lib.hid (fun t h => absurd h (by omega)), Lib.hid (by solve_by_elim [X0, X1, X2, X3])⟩
       case round =>
        obtain ⟨i, rfl, hi, HG, hE⟩ := hrel
        obtain ⟨a0, a1, a2, a3⟩ := (MKB.out _ hE.out).1
        by_cases hlt : i < nl
        ·obtain ⟨bn, on, rfl, hcn⟩ := HNV.out.2 (by rw [HNL.out]; omega)
         have hi1 : i + 1 < fl := by omega
         have hi0 : i < fl := by omega
         have wi : IntKind.i64.wrap ((i : Int) + 1) = ((i + 1 : Nat) : Int) := by rw [IntKind.wrap_i64]; omega
         have HCN := Lib.hid (fun t (ht : t < nl) => (by have h := (hcn t (by rw [HNL.out]; exact ht)).2; rw [Nat.mul_one, ← getElem!_pos nodes t (by rw [HNL.out]; exact ht)] at h; exact hE.out.cell h : wr.cell? ⟨bn, on + t, none⟩ = some (.int .i64 nodes[t]!)))
         have ea := hE.out.cell (HCF.out i hi0)
         have eb := hE.out.cell (HCF.out (i + 1) hi1)
         have en' := HCN.out i hlt
         have HN1 := Lib.hid (fun (h : ¬ fst[i]! < fst[i + 1]!) => HNO.out (fun hs => h (hs i hlt).1))
         have HN2 := Lib.hid (fun (h : ¬ idOk nodes[i]!) => HNO.out (fun hs => h (hs i hlt).2.1))
         have HN3 := Lib.hid (fun j (hj : i = j + 1) (h : ¬ nodes[j]! < nodes[i]!) => HNO.out (fun hs => h ((hs i hlt).2.2 j hj)))
         have HS := Lib.hid (fun (h1 : fst[i]! < fst[i + 1]!) (h2 : idOk nodes[i]!) (h3 : ∀ j, i = j + 1 → nodes[j]! < nodes[i]!) t (ht : t < i + 1) => (if e : t = i then (by rw [e]; exact ⟨h1, h2, h3⟩) else HG.out t (by omega) : fst[t]! < fst[t + 1]! ∧ idOk nodes[t]! ∧ (∀ j, t = j + 1 → nodes[j]! < nodes[t]!)))
         have HNJ := Lib.hid (fun j (hj : j < nl) => HCN.out j hj)
         clear HG HNO HYES hcn HNV HCN
         generalize fst[i]! = fa at *
         generalize fst[i + 1]! = fb at *
         generalize nodes[i]! = na at *
         have MK8 := Lib.hid (fun V (e : Ext wr V) => (⟨(MKB.out V (hE.out.trans e)).1, e.cell ea, e.cell eb, e.cell en'⟩ : (V.cell? ⟨q, 0, none⟩ = some (.slice (some ⟨bn, on, none⟩) nl k0) ∧ V.cell? ⟨q, 1, none⟩ = some (.slice (some ⟨b, o, none⟩) fl k1) ∧ V.cell? ⟨q, 2, none⟩ = some (.slice Cx tl k2) ∧ V.cell? ⟨q, 3, none⟩ = some (.slice D tl k3)) ∧ V.cell? ⟨b, o + i, none⟩ = some (.int .i64 fa) ∧ V.cell? ⟨b, o + (i + 1), none⟩ = some (.int .i64 fb) ∧ V.cell? ⟨bn, on + i, none⟩ = some (.int .i64 na)))
         have HID := Lib.hid (fun W (_ : Ext wr W) => r12_id na W)
         clear ea eb HCF
         by_cases hab : fa < fb
         ·have g8 : decide (fb ≤ fa) = false := decide_eq_false (by omega)
          by_cases hid : idOk na
          ·rw [idB_iff.2 hid] at HID
           by_cases hi00 : i = 0
           ·have HT := Lib.hid (HS.out hab hid (fun j hj => by omega))
            have g0 : decide (0 < (i : Int)) = false := decide_eq_false (by omega)
            have g1 : decide (0 < i) = false := decide_eq_false (by omega)
            clear HN1 HN2 HN3 HS hab hid hi00 HNJ en'
            go_upto_region 10 with (fail)
            refine wp_region_held_drew (S := (fun V => (V.cell? ⟨q, 0, none⟩ = some (.slice (some ⟨bn, on, none⟩) nl k0) ∧ V.cell? ⟨q, 1, none⟩ = some (.slice (some ⟨b, o, none⟩) fl k1) ∧ V.cell? ⟨q, 2, none⟩ = some (.slice Cx tl k2) ∧ V.cell? ⟨q, 3, none⟩ = some (.slice D tl k3)) ∧ V.cell? ⟨b, o + i, none⟩ = some (.int .i64 fa) ∧ V.cell? ⟨b, o + (i + 1), none⟩ = some (.int .i64 fb) ∧ V.cell? ⟨bn, on + i, none⟩ = some (.int .i64 na))) (by kernel_rfl) ?hs46168 (fun hHeld => ?go46168)
            case hs46168 => (exact MK8.out _ (by solve_by_elim [X0, X1, X2, X3]))
            refine TK 0 (v := ?v46169) hHeld ?hy46169 ?_
            case hy46169 => (intro w hSw; (try dsimp only at hSw); go_simp <;> first | with_reducible rfl | rw [if_neg (by omega)] | rw [if_pos (by omega)])
            (try simp only [PU])
            refine TK 1 (v := ?v46170) hHeld ?hy46170 ?_
            case hy46170 => (intro w hSw; (try dsimp only at hSw); go_simp <;> first | with_reducible rfl | rw [if_neg (by omega)] | rw [if_pos (by omega)])
            (try simp only [PU])
            refine TK 2 (v := ?v46171) hHeld ?hy46171 ?_
            case hy46171 => (intro w hSw; (try dsimp only at hSw); go_simp <;> first | with_reducible rfl | rw [if_neg (by omega)] | rw [if_pos (by omega)])
            (try simp only [PU])
            refine TK 3 (v := ?v46172) hHeld ?hy46172 ?_
            case hy46172 => (intro w hSw; (try dsimp only at hSw); go_simp <;> first | with_reducible rfl | rw [if_neg (by omega)] | rw [if_pos (by omega)])
            (try simp only [PU])
            refine TK 4 (v := ?v46173) hHeld ?hy46173 ?_
            case hy46173 => (intro w hSw; (try dsimp only at hSw); go_simp <;> first | with_reducible rfl | rw [if_neg (by omega)] | rw [if_pos (by omega)])
            (try simp only [PU])
            refine TK 5 (v := ?v46174) hHeld ?hy46174 ?_
            case hy46174 => (intro w hSw; (try dsimp only at hSw); go_simp <;> first | with_reducible rfl | rw [if_neg (by omega)] | rw [if_pos (by omega)])
            (try simp only [PU])
            refine TK 6 (v := ?v46175) hHeld ?hy46175 ?_
            case hy46175 => (intro w hSw; (try dsimp only at hSw); go_simp <;> first | with_reducible rfl | rw [if_neg (by omega)] | rw [if_pos (by omega)])
            (try simp only [PU])
            refine TK 7 (v := ?v46176) hHeld ?hy46176 ?_
            case hy46176 => (intro w hSw; (try dsimp only at hSw); go_simp <;> first | with_reducible rfl | rw [if_neg (by omega)] | rw [if_pos (by omega)])
            (try simp only [PU])
            refine TK 8 (v := ?v46177) hHeld ?hy46177 ?_
            case hy46177 => (intro w hSw; (try dsimp only at hSw); go_simp <;> first | with_reducible rfl | rw [if_neg (by omega)] | rw [if_pos (by omega)])
            (try simp only [PU])
            refine TK 9 (v := ?v46178) hHeld ?hy46178 ?_
            case hy46178 => (intro w hSw; (try dsimp only at hSw); go_simp <;> first | with_reducible rfl | rw [if_neg (by omega)] | rw [if_pos (by omega)])
            (try simp only [PU])
            refine TK 10 (v := ?v46179) hHeld ?hy46179 ?_
            case hy46179 => (intro w hSw; (try dsimp only at hSw); go_simp <;> first | with_reducible rfl | rw [if_neg (by omega)] | rw [if_pos (by omega)])
            (try simp only [PU])
            refine TK 11 (v := ?v46180) hHeld ?hy46180 ?_
            case hy46180 => (intro w hSw; (try dsimp only at hSw); go_simp <;> first | with_reducible rfl | rw [if_neg (by omega)] | rw [if_pos (by omega)])
            (try simp only [PU])
            refine TK 12 (v := ?v46181) hHeld ?hy46181 ?_
            case hy46181 => (intro w hSw; (try dsimp only at hSw); go_simp <;> first | with_reducible rfl | rw [if_neg (by omega)] | rw [if_pos (by omega)])
            (try simp only [PU])
            refine TK 13 (v := ?v46182) hHeld ?hy46182 ?_
            case hy46182 => (intro w hSw; (try dsimp only at hSw); go_simp <;> first | with_reducible rfl | rw [if_neg (by omega)] | rw [if_pos (by omega)])
            (try simp only [PU])
            refine TK 14 (v := ?v46183) hHeld ?hy46183 ?_
            case hy46183 => (intro w hSw; (try dsimp only at hSw); go_simp <;> first | with_reducible rfl | rw [if_neg (by omega)] | rw [if_pos (by omega)])
            (try simp only [PU])
            refine TK 15 (v := ?v46184) hHeld ?hy46184 ?_
            case hy46184 => (intro w hSw; (try dsimp only at hSw); go_simp <;> first | with_reducible rfl | rw [if_neg (by omega)] | rw [if_pos (by omega)])
            (try simp only [PU])
            refine TK 16 (v := ?v46185) hHeld ?hy46185 ?_
            case hy46185 => (intro w hSw; (try dsimp only at hSw); go_simp <;> first | with_reducible rfl | rw [if_neg (by omega)] | rw [if_pos (by omega)])
            (try simp only [PU])
            refine TK 17 (v := ?v46186) hHeld ?hy46186 ?_
            case hy46186 => (intro w hSw; (try dsimp only at hSw); go_simp <;> first | with_reducible rfl | rw [if_neg (by omega)] | rw [if_pos (by omega)])
            (try simp only [PU])
            refine wpAnyH_ready (rs := [18]) (by kernel_rfl) (by simp) ?_
            refine AllReadyH.cons (o := ⟨_, _, _, _, _, _⟩) rfl (fun K hK => ?step46187x0) ?more46187x0
            case more46187x0 => exact AllReadyH.nil
            go_simp
            (with_reducible refine (HID.out _ (by solve_by_elim [X0, X1, X2, X3])).mono ?_; rintro r v18 ⟨rfl, hy18⟩; replace hy18 : Ext wr v18 := Ext.trans (by solve_by_elim [X0, X1, X2, X3]) hy18)
            refine hK.out _ _ ?hS46187x0 (fun H46187 => ?_)
            case hS46187x0 => first | (exact MK8.out _ (by solve_by_elim [X0, X1, X2, X3])) | ((try dsimp only); (exact MK8.out _ (by solve_by_elim [X0, X1, X2, X3])))
            clear hK K
            clear hHeld
            (try simp only [PU])
            refine TK 19 (v := ?v46188) H46187 ?hy46188 ?_
            case hy46188 => (intro w hSw; (try dsimp only at hSw); go_simp <;> first | with_reducible rfl | rw [if_neg (by omega)] | rw [if_pos (by omega)])
            (try simp only [PU])
            refine TK 20 (v := ?v46189) H46187 ?hy46189 ?_
            case hy46189 => (intro w hSw; (try dsimp only at hSw); go_simp <;> first | with_reducible rfl | rw [if_neg (by omega)] | rw [if_pos (by omega)])
            (try simp only [PU])
            refine TK 21 (v := ?v46190) H46187 ?hy46190 ?_
            case hy46190 => (intro w hSw; (try dsimp only at hSw); go_simp <;> first | with_reducible rfl | rw [if_neg (by omega)] | rw [if_pos (by omega)])
            (try simp only [PU])
            refine TK 22 (v := ?v46191) H46187 ?hy46191 ?_
            case hy46191 => (intro w hSw; (try dsimp only at hSw); go_simp <;> first | with_reducible rfl | rw [if_neg (by omega)] | rw [if_pos (by omega)])
            (try simp only [PU])
            refine TK 23 (v := ?v46192) H46187 ?hy46192 ?_
            case hy46192 => (intro w hSw; (try dsimp only at hSw); go_simp <;> first | with_reducible rfl | rw [if_neg (by omega)] | rw [if_pos (by omega)])
            (try simp only [PU])
            refine TK 24 (v := ?v46193) H46187 ?hy46193 ?_
            case hy46193 => (intro w hSw; (try dsimp only at hSw); go_simp <;> first | with_reducible rfl | rw [if_neg (by omega)] | rw [if_pos (by omega)])
            (try simp only [PU])
            refine TN 25 H46187 ?_
            (try simp only [PU])
            refine TN 26 H46187 ?_
            (try simp only [PU])
            refine TN 27 H46187 ?_
            (try simp only [PU])
            refine TN 28 H46187 ?_
            (try simp only [PU])
            refine TN 29 H46187 ?_
            (try simp only [PU])
            refine TN 30 H46187 ?_
            (try simp only [PU])
            refine TN 31 H46187 ?_
            (try simp only [PU])
            refine TN 32 H46187 ?_
            (try simp only [PU])
            refine TN 33 H46187 ?_
            (try simp only [PU])
            refine TN 34 H46187 ?_
            (try simp only [PU])
            refine TN 35 H46187 ?_
            (try simp only [PU])
            refine TN 36 H46187 ?_
            (try simp only [PU])
            refine TK 37 (v := ?v46206) H46187 ?hy46206 ?_
            case hy46206 => (intro w hSw; (try dsimp only at hSw); go_simp <;> first | with_reducible rfl | rw [if_neg (by omega)] | rw [if_pos (by omega)])
            (try simp only [PU])
            refine TK 38 (v := ?v46207) H46187 ?hy46207 ?_
            case hy46207 => (intro w hSw; (try dsimp only at hSw); go_simp <;> first | with_reducible rfl | rw [if_neg (by omega)] | rw [if_pos (by omega)])
            (try simp only [PU])
            refine wpAnyH_done (by kernel_rfl) ?_ _
            clear H46187
            go_wp2_with fail
            go_roundw
            case rel => exact ⟨i + 1, by go_num, by omega, HT, Lib.hid (hE.out.trans (by solve_by_elim [X0, X1, X2, X3]))⟩
            case measure => simp [intOf]; omega
           ·obtain ⟨j, hj⟩ : ∃ j, i = j + 1 := ⟨i - 1, by omega⟩
            have g0 : decide (0 < (i : Int)) = true := decide_eq_true (by omega)
            have g1 : decide (0 < i) = true := decide_eq_true (by omega)
            have wj : IntKind.i64.wrap ((i : Int) - 1) = (j : Int) := by rw [IntKind.wrap_i64]; omega
            have hjl : j < nl := by omega
            have ej := HNJ.out j hjl
            have HN4 := Lib.hid (HN3.out j hj)
            have HS' := Lib.hid (fun (h : nodes[j]! < na) => HS.out hab hid (fun j' hj' => by rw [show j' = j by omega]; exact h))
            generalize nodes[j]! = nb at *
            have MK9 := Lib.hid (fun V (e : Ext wr V) => (⟨(MK8.out V e).1, (MK8.out V e).2.1, (MK8.out V e).2.2.1, (MK8.out V e).2.2.2, e.cell ej⟩ : (V.cell? ⟨q, 0, none⟩ = some (.slice (some ⟨bn, on, none⟩) nl k0) ∧ V.cell? ⟨q, 1, none⟩ = some (.slice (some ⟨b, o, none⟩) fl k1) ∧ V.cell? ⟨q, 2, none⟩ = some (.slice Cx tl k2) ∧ V.cell? ⟨q, 3, none⟩ = some (.slice D tl k3)) ∧ V.cell? ⟨b, o + i, none⟩ = some (.int .i64 fa) ∧ V.cell? ⟨b, o + (i + 1), none⟩ = some (.int .i64 fb) ∧ V.cell? ⟨bn, on + i, none⟩ = some (.int .i64 na) ∧ V.cell? ⟨bn, on + j, none⟩ = some (.int .i64 nb)))
            clear HN1 HN2 HN3 HS hab hid hi00 HNJ en' hj
            by_cases hnn : nb < na
            ·have HT := Lib.hid (HS'.out hnn)
             have g9 : decide (na ≤ nb) = false := decide_eq_false (by omega)
             clear HN4 HS' hnn
             go_upto_region 10 with (fail)
             refine wp_region_held_drew (S := (fun V => (V.cell? ⟨q, 0, none⟩ = some (.slice (some ⟨bn, on, none⟩) nl k0) ∧ V.cell? ⟨q, 1, none⟩ = some (.slice (some ⟨b, o, none⟩) fl k1) ∧ V.cell? ⟨q, 2, none⟩ = some (.slice Cx tl k2) ∧ V.cell? ⟨q, 3, none⟩ = some (.slice D tl k3)) ∧ V.cell? ⟨b, o + i, none⟩ = some (.int .i64 fa) ∧ V.cell? ⟨b, o + (i + 1), none⟩ = some (.int .i64 fb) ∧ V.cell? ⟨bn, on + i, none⟩ = some (.int .i64 na) ∧ V.cell? ⟨bn, on + j, none⟩ = some (.int .i64 nb))) (by kernel_rfl) ?hs46248 (fun hHeld => ?go46248)
             case hs46248 => (exact MK9.out _ (by solve_by_elim [X0, X1, X2, X3]))
             refine TK 0 (v := ?v46249) hHeld ?hy46249 ?_
             case hy46249 => (intro w hSw; (try dsimp only at hSw); go_simp <;> first | with_reducible rfl | rw [if_neg (by omega)] | rw [if_pos (by omega)])
             (try simp only [PU])
             refine TK 1 (v := ?v46250) hHeld ?hy46250 ?_
             case hy46250 => (intro w hSw; (try dsimp only at hSw); go_simp <;> first | with_reducible rfl | rw [if_neg (by omega)] | rw [if_pos (by omega)])
             (try simp only [PU])
             refine TK 2 (v := ?v46251) hHeld ?hy46251 ?_
             case hy46251 => (intro w hSw; (try dsimp only at hSw); go_simp <;> first | with_reducible rfl | rw [if_neg (by omega)] | rw [if_pos (by omega)])
             (try simp only [PU])
             refine TK 3 (v := ?v46252) hHeld ?hy46252 ?_
             case hy46252 => (intro w hSw; (try dsimp only at hSw); go_simp <;> first | with_reducible rfl | rw [if_neg (by omega)] | rw [if_pos (by omega)])
             (try simp only [PU])
             refine TK 4 (v := ?v46253) hHeld ?hy46253 ?_
             case hy46253 => (intro w hSw; (try dsimp only at hSw); go_simp <;> first | with_reducible rfl | rw [if_neg (by omega)] | rw [if_pos (by omega)])
             (try simp only [PU])
             refine TK 5 (v := ?v46254) hHeld ?hy46254 ?_
             case hy46254 => (intro w hSw; (try dsimp only at hSw); go_simp <;> first | with_reducible rfl | rw [if_neg (by omega)] | rw [if_pos (by omega)])
             (try simp only [PU])
             refine TK 6 (v := ?v46255) hHeld ?hy46255 ?_
             case hy46255 => (intro w hSw; (try dsimp only at hSw); go_simp <;> first | with_reducible rfl | rw [if_neg (by omega)] | rw [if_pos (by omega)])
             (try simp only [PU])
             refine TK 7 (v := ?v46256) hHeld ?hy46256 ?_
             case hy46256 => (intro w hSw; (try dsimp only at hSw); go_simp <;> first | with_reducible rfl | rw [if_neg (by omega)] | rw [if_pos (by omega)])
             (try simp only [PU])
             refine TK 8 (v := ?v46257) hHeld ?hy46257 ?_
             case hy46257 => (intro w hSw; (try dsimp only at hSw); go_simp <;> first | with_reducible rfl | rw [if_neg (by omega)] | rw [if_pos (by omega)])
             (try simp only [PU])
             refine TK 9 (v := ?v46258) hHeld ?hy46258 ?_
             case hy46258 => (intro w hSw; (try dsimp only at hSw); go_simp <;> first | with_reducible rfl | rw [if_neg (by omega)] | rw [if_pos (by omega)])
             (try simp only [PU])
             refine TK 10 (v := ?v46259) hHeld ?hy46259 ?_
             case hy46259 => (intro w hSw; (try dsimp only at hSw); go_simp <;> first | with_reducible rfl | rw [if_neg (by omega)] | rw [if_pos (by omega)])
             (try simp only [PU])
             refine TK 11 (v := ?v46260) hHeld ?hy46260 ?_
             case hy46260 => (intro w hSw; (try dsimp only at hSw); go_simp <;> first | with_reducible rfl | rw [if_neg (by omega)] | rw [if_pos (by omega)])
             (try simp only [PU])
             refine TK 12 (v := ?v46261) hHeld ?hy46261 ?_
             case hy46261 => (intro w hSw; (try dsimp only at hSw); go_simp <;> first | with_reducible rfl | rw [if_neg (by omega)] | rw [if_pos (by omega)])
             (try simp only [PU])
             refine TK 13 (v := ?v46262) hHeld ?hy46262 ?_
             case hy46262 => (intro w hSw; (try dsimp only at hSw); go_simp <;> first | with_reducible rfl | rw [if_neg (by omega)] | rw [if_pos (by omega)])
             (try simp only [PU])
             refine TK 14 (v := ?v46263) hHeld ?hy46263 ?_
             case hy46263 => (intro w hSw; (try dsimp only at hSw); go_simp <;> first | with_reducible rfl | rw [if_neg (by omega)] | rw [if_pos (by omega)])
             (try simp only [PU])
             refine TK 15 (v := ?v46264) hHeld ?hy46264 ?_
             case hy46264 => (intro w hSw; (try dsimp only at hSw); go_simp <;> first | with_reducible rfl | rw [if_neg (by omega)] | rw [if_pos (by omega)])
             (try simp only [PU])
             refine TK 16 (v := ?v46265) hHeld ?hy46265 ?_
             case hy46265 => (intro w hSw; (try dsimp only at hSw); go_simp <;> first | with_reducible rfl | rw [if_neg (by omega)] | rw [if_pos (by omega)])
             (try simp only [PU])
             refine TK 17 (v := ?v46266) hHeld ?hy46266 ?_
             case hy46266 => (intro w hSw; (try dsimp only at hSw); go_simp <;> first | with_reducible rfl | rw [if_neg (by omega)] | rw [if_pos (by omega)])
             (try simp only [PU])
             refine wpAnyH_ready (rs := [18]) (by kernel_rfl) (by simp) ?_
             refine AllReadyH.cons (o := ⟨_, _, _, _, _, _⟩) rfl (fun K hK => ?step46267x0) ?more46267x0
             case more46267x0 => exact AllReadyH.nil
             go_simp
             (with_reducible refine (HID.out _ (by solve_by_elim [X0, X1, X2, X3])).mono ?_; rintro r v18 ⟨rfl, hy18⟩; replace hy18 : Ext wr v18 := Ext.trans (by solve_by_elim [X0, X1, X2, X3]) hy18)
             refine hK.out _ _ ?hS46267x0 (fun H46267 => ?_)
             case hS46267x0 => first | (exact MK9.out _ (by solve_by_elim [X0, X1, X2, X3])) | ((try dsimp only); (exact MK9.out _ (by solve_by_elim [X0, X1, X2, X3])))
             clear hK K
             clear hHeld
             (try simp only [PU])
             refine TK 19 (v := ?v46268) H46267 ?hy46268 ?_
             case hy46268 => (intro w hSw; (try dsimp only at hSw); go_simp <;> first | with_reducible rfl | rw [if_neg (by omega)] | rw [if_pos (by omega)])
             (try simp only [PU])
             refine TK 20 (v := ?v46269) H46267 ?hy46269 ?_
             case hy46269 => (intro w hSw; (try dsimp only at hSw); go_simp <;> first | with_reducible rfl | rw [if_neg (by omega)] | rw [if_pos (by omega)])
             (try simp only [PU])
             refine TK 21 (v := ?v46270) H46267 ?hy46270 ?_
             case hy46270 => (intro w hSw; (try dsimp only at hSw); go_simp <;> first | with_reducible rfl | rw [if_neg (by omega)] | rw [if_pos (by omega)])
             (try simp only [PU])
             refine TK 22 (v := ?v46271) H46267 ?hy46271 ?_
             case hy46271 => (intro w hSw; (try dsimp only at hSw); go_simp <;> first | with_reducible rfl | rw [if_neg (by omega)] | rw [if_pos (by omega)])
             (try simp only [PU])
             refine TK 23 (v := ?v46272) H46267 ?hy46272 ?_
             case hy46272 => (intro w hSw; (try dsimp only at hSw); go_simp <;> first | with_reducible rfl | rw [if_neg (by omega)] | rw [if_pos (by omega)])
             (try simp only [PU])
             refine TK 24 (v := ?v46273) H46267 ?hy46273 ?_
             case hy46273 => (intro w hSw; (try dsimp only at hSw); go_simp <;> first | with_reducible rfl | rw [if_neg (by omega)] | rw [if_pos (by omega)])
             (try simp only [PU])
             refine TK 25 (v := ?v46274) H46267 ?hy46274 ?_
             case hy46274 => (intro w hSw; (try dsimp only at hSw); go_simp <;> first | with_reducible rfl | rw [if_neg (by omega)] | rw [if_pos (by omega)])
             (try simp only [PU])
             refine TK 26 (v := ?v46275) H46267 ?hy46275 ?_
             case hy46275 => (intro w hSw; (try dsimp only at hSw); go_simp <;> first | with_reducible rfl | rw [if_neg (by omega)] | rw [if_pos (by omega)])
             (try simp only [PU])
             refine TK 27 (v := ?v46276) H46267 ?hy46276 ?_
             case hy46276 => (intro w hSw; (try dsimp only at hSw); go_simp <;> first | with_reducible rfl | rw [if_neg (by omega)] | rw [if_pos (by omega)])
             (try simp only [PU])
             refine TK 28 (v := ?v46277) H46267 ?hy46277 ?_
             case hy46277 => (intro w hSw; (try dsimp only at hSw); go_simp <;> first | with_reducible rfl | rw [if_neg (by omega)] | rw [if_pos (by omega)])
             (try simp only [PU])
             refine TK 29 (v := ?v46278) H46267 ?hy46278 ?_
             case hy46278 => (intro w hSw; (try dsimp only at hSw); go_simp <;> first | with_reducible rfl | rw [if_neg (by omega)] | rw [if_pos (by omega)])
             (try simp only [PU])
             refine TK 30 (v := ?v46279) H46267 ?hy46279 ?_
             case hy46279 => (intro w hSw; (try dsimp only at hSw); go_simp <;> first | with_reducible rfl | rw [if_neg (by omega)] | rw [if_pos (by omega)])
             (try simp only [PU])
             refine TK 31 (v := ?v46280) H46267 ?hy46280 ?_
             case hy46280 => (intro w hSw; (try dsimp only at hSw); go_simp <;> first | with_reducible rfl | rw [if_neg (by omega)] | rw [if_pos (by omega)])
             (try simp only [PU])
             refine TK 32 (v := ?v46281) H46267 ?hy46281 ?_
             case hy46281 => (intro w hSw; (try dsimp only at hSw); go_simp <;> first | with_reducible rfl | rw [if_neg (by omega)] | rw [if_pos (by omega)])
             (try simp only [PU])
             refine TK 33 (v := ?v46282) H46267 ?hy46282 ?_
             case hy46282 => (intro w hSw; (try dsimp only at hSw); go_simp <;> first | with_reducible rfl | rw [if_neg (by omega)] | rw [if_pos (by omega)])
             (try simp only [PU])
             refine TK 34 (v := ?v46283) H46267 ?hy46283 ?_
             case hy46283 => (intro w hSw; (try dsimp only at hSw); go_simp <;> first | with_reducible rfl | rw [if_neg (by omega)] | rw [if_pos (by omega)])
             (try simp only [PU])
             refine TK 35 (v := ?v46284) H46267 ?hy46284 ?_
             case hy46284 => (intro w hSw; (try dsimp only at hSw); go_simp <;> first | with_reducible rfl | rw [if_neg (by omega)] | rw [if_pos (by omega)])
             (try simp only [PU])
             refine TK 36 (v := ?v46285) H46267 ?hy46285 ?_
             case hy46285 => (intro w hSw; (try dsimp only at hSw); go_simp <;> first | with_reducible rfl | rw [if_neg (by omega)] | rw [if_pos (by omega)])
             (try simp only [PU])
             refine TK 37 (v := ?v46286) H46267 ?hy46286 ?_
             case hy46286 => (intro w hSw; (try dsimp only at hSw); go_simp <;> first | with_reducible rfl | rw [if_neg (by omega)] | rw [if_pos (by omega)])
             (try simp only [PU])
             refine TK 38 (v := ?v46287) H46267 ?hy46287 ?_
             case hy46287 => (intro w hSw; (try dsimp only at hSw); go_simp <;> first | with_reducible rfl | rw [if_neg (by omega)] | rw [if_pos (by omega)])
             (try simp only [PU])
             refine wpAnyH_done (by kernel_rfl) ?_ _
             clear H46267
             go_wp2_with fail
             go_roundw
             case rel => exact ⟨i + 1, by go_num, by omega, HT, Lib.hid (hE.out.trans (by solve_by_elim [X0, X1, X2, X3]))⟩
             case measure => simp [intOf]; omega
            ·have HT := Lib.hid (HN4.out hnn)
             have g9 : decide (na ≤ nb) = true := decide_eq_true (by omega)
             clear HN4 HS' hnn
             go_upto_region 10 with (fail)
             refine wp_region_held_drew (S := (fun V => (V.cell? ⟨q, 0, none⟩ = some (.slice (some ⟨bn, on, none⟩) nl k0) ∧ V.cell? ⟨q, 1, none⟩ = some (.slice (some ⟨b, o, none⟩) fl k1) ∧ V.cell? ⟨q, 2, none⟩ = some (.slice Cx tl k2) ∧ V.cell? ⟨q, 3, none⟩ = some (.slice D tl k3)) ∧ V.cell? ⟨b, o + i, none⟩ = some (.int .i64 fa) ∧ V.cell? ⟨b, o + (i + 1), none⟩ = some (.int .i64 fb) ∧ V.cell? ⟨bn, on + i, none⟩ = some (.int .i64 na) ∧ V.cell? ⟨bn, on + j, none⟩ = some (.int .i64 nb))) (by kernel_rfl) ?hs46208 (fun hHeld => ?go46208)
             case hs46208 => (exact MK9.out _ (by solve_by_elim [X0, X1, X2, X3]))
             refine TK 0 (v := ?v46209) hHeld ?hy46209 ?_
             case hy46209 => (intro w hSw; (try dsimp only at hSw); go_simp <;> first | with_reducible rfl | rw [if_neg (by omega)] | rw [if_pos (by omega)])
             (try simp only [PU])
             refine TK 1 (v := ?v46210) hHeld ?hy46210 ?_
             case hy46210 => (intro w hSw; (try dsimp only at hSw); go_simp <;> first | with_reducible rfl | rw [if_neg (by omega)] | rw [if_pos (by omega)])
             (try simp only [PU])
             refine TK 2 (v := ?v46211) hHeld ?hy46211 ?_
             case hy46211 => (intro w hSw; (try dsimp only at hSw); go_simp <;> first | with_reducible rfl | rw [if_neg (by omega)] | rw [if_pos (by omega)])
             (try simp only [PU])
             refine TK 3 (v := ?v46212) hHeld ?hy46212 ?_
             case hy46212 => (intro w hSw; (try dsimp only at hSw); go_simp <;> first | with_reducible rfl | rw [if_neg (by omega)] | rw [if_pos (by omega)])
             (try simp only [PU])
             refine TK 4 (v := ?v46213) hHeld ?hy46213 ?_
             case hy46213 => (intro w hSw; (try dsimp only at hSw); go_simp <;> first | with_reducible rfl | rw [if_neg (by omega)] | rw [if_pos (by omega)])
             (try simp only [PU])
             refine TK 5 (v := ?v46214) hHeld ?hy46214 ?_
             case hy46214 => (intro w hSw; (try dsimp only at hSw); go_simp <;> first | with_reducible rfl | rw [if_neg (by omega)] | rw [if_pos (by omega)])
             (try simp only [PU])
             refine TK 6 (v := ?v46215) hHeld ?hy46215 ?_
             case hy46215 => (intro w hSw; (try dsimp only at hSw); go_simp <;> first | with_reducible rfl | rw [if_neg (by omega)] | rw [if_pos (by omega)])
             (try simp only [PU])
             refine TK 7 (v := ?v46216) hHeld ?hy46216 ?_
             case hy46216 => (intro w hSw; (try dsimp only at hSw); go_simp <;> first | with_reducible rfl | rw [if_neg (by omega)] | rw [if_pos (by omega)])
             (try simp only [PU])
             refine TK 8 (v := ?v46217) hHeld ?hy46217 ?_
             case hy46217 => (intro w hSw; (try dsimp only at hSw); go_simp <;> first | with_reducible rfl | rw [if_neg (by omega)] | rw [if_pos (by omega)])
             (try simp only [PU])
             refine TK 9 (v := ?v46218) hHeld ?hy46218 ?_
             case hy46218 => (intro w hSw; (try dsimp only at hSw); go_simp <;> first | with_reducible rfl | rw [if_neg (by omega)] | rw [if_pos (by omega)])
             (try simp only [PU])
             refine TK 10 (v := ?v46219) hHeld ?hy46219 ?_
             case hy46219 => (intro w hSw; (try dsimp only at hSw); go_simp <;> first | with_reducible rfl | rw [if_neg (by omega)] | rw [if_pos (by omega)])
             (try simp only [PU])
             refine TK 11 (v := ?v46220) hHeld ?hy46220 ?_
             case hy46220 => (intro w hSw; (try dsimp only at hSw); go_simp <;> first | with_reducible rfl | rw [if_neg (by omega)] | rw [if_pos (by omega)])
             (try simp only [PU])
             refine TK 12 (v := ?v46221) hHeld ?hy46221 ?_
             case hy46221 => (intro w hSw; (try dsimp only at hSw); go_simp <;> first | with_reducible rfl | rw [if_neg (by omega)] | rw [if_pos (by omega)])
             (try simp only [PU])
             refine TK 13 (v := ?v46222) hHeld ?hy46222 ?_
             case hy46222 => (intro w hSw; (try dsimp only at hSw); go_simp <;> first | with_reducible rfl | rw [if_neg (by omega)] | rw [if_pos (by omega)])
             (try simp only [PU])
             refine TK 14 (v := ?v46223) hHeld ?hy46223 ?_
             case hy46223 => (intro w hSw; (try dsimp only at hSw); go_simp <;> first | with_reducible rfl | rw [if_neg (by omega)] | rw [if_pos (by omega)])
             (try simp only [PU])
             refine TK 15 (v := ?v46224) hHeld ?hy46224 ?_
             case hy46224 => (intro w hSw; (try dsimp only at hSw); go_simp <;> first | with_reducible rfl | rw [if_neg (by omega)] | rw [if_pos (by omega)])
             (try simp only [PU])
             refine TK 16 (v := ?v46225) hHeld ?hy46225 ?_
             case hy46225 => (intro w hSw; (try dsimp only at hSw); go_simp <;> first | with_reducible rfl | rw [if_neg (by omega)] | rw [if_pos (by omega)])
             (try simp only [PU])
             refine TK 17 (v := ?v46226) hHeld ?hy46226 ?_
             case hy46226 => (intro w hSw; (try dsimp only at hSw); go_simp <;> first | with_reducible rfl | rw [if_neg (by omega)] | rw [if_pos (by omega)])
             (try simp only [PU])
             refine wpAnyH_ready (rs := [18]) (by kernel_rfl) (by simp) ?_
             refine AllReadyH.cons (o := ⟨_, _, _, _, _, _⟩) rfl (fun K hK => ?step46227x0) ?more46227x0
             case more46227x0 => exact AllReadyH.nil
             go_simp
             (with_reducible refine (HID.out _ (by solve_by_elim [X0, X1, X2, X3])).mono ?_; rintro r v18 ⟨rfl, hy18⟩; replace hy18 : Ext wr v18 := Ext.trans (by solve_by_elim [X0, X1, X2, X3]) hy18)
             refine hK.out _ _ ?hS46227x0 (fun H46227 => ?_)
             case hS46227x0 => first | (exact MK9.out _ (by solve_by_elim [X0, X1, X2, X3])) | ((try dsimp only); (exact MK9.out _ (by solve_by_elim [X0, X1, X2, X3])))
             clear hK K
             clear hHeld
             (try simp only [PU])
             refine TK 19 (v := ?v46228) H46227 ?hy46228 ?_
             case hy46228 => (intro w hSw; (try dsimp only at hSw); go_simp <;> first | with_reducible rfl | rw [if_neg (by omega)] | rw [if_pos (by omega)])
             (try simp only [PU])
             refine TK 20 (v := ?v46229) H46227 ?hy46229 ?_
             case hy46229 => (intro w hSw; (try dsimp only at hSw); go_simp <;> first | with_reducible rfl | rw [if_neg (by omega)] | rw [if_pos (by omega)])
             (try simp only [PU])
             refine TK 21 (v := ?v46230) H46227 ?hy46230 ?_
             case hy46230 => (intro w hSw; (try dsimp only at hSw); go_simp <;> first | with_reducible rfl | rw [if_neg (by omega)] | rw [if_pos (by omega)])
             (try simp only [PU])
             refine TK 22 (v := ?v46231) H46227 ?hy46231 ?_
             case hy46231 => (intro w hSw; (try dsimp only at hSw); go_simp <;> first | with_reducible rfl | rw [if_neg (by omega)] | rw [if_pos (by omega)])
             (try simp only [PU])
             refine TK 23 (v := ?v46232) H46227 ?hy46232 ?_
             case hy46232 => (intro w hSw; (try dsimp only at hSw); go_simp <;> first | with_reducible rfl | rw [if_neg (by omega)] | rw [if_pos (by omega)])
             (try simp only [PU])
             refine TK 24 (v := ?v46233) H46227 ?hy46233 ?_
             case hy46233 => (intro w hSw; (try dsimp only at hSw); go_simp <;> first | with_reducible rfl | rw [if_neg (by omega)] | rw [if_pos (by omega)])
             (try simp only [PU])
             refine TK 25 (v := ?v46234) H46227 ?hy46234 ?_
             case hy46234 => (intro w hSw; (try dsimp only at hSw); go_simp <;> first | with_reducible rfl | rw [if_neg (by omega)] | rw [if_pos (by omega)])
             (try simp only [PU])
             refine TK 26 (v := ?v46235) H46227 ?hy46235 ?_
             case hy46235 => (intro w hSw; (try dsimp only at hSw); go_simp <;> first | with_reducible rfl | rw [if_neg (by omega)] | rw [if_pos (by omega)])
             (try simp only [PU])
             refine TK 27 (v := ?v46236) H46227 ?hy46236 ?_
             case hy46236 => (intro w hSw; (try dsimp only at hSw); go_simp <;> first | with_reducible rfl | rw [if_neg (by omega)] | rw [if_pos (by omega)])
             (try simp only [PU])
             refine TK 28 (v := ?v46237) H46227 ?hy46237 ?_
             case hy46237 => (intro w hSw; (try dsimp only at hSw); go_simp <;> first | with_reducible rfl | rw [if_neg (by omega)] | rw [if_pos (by omega)])
             (try simp only [PU])
             refine TK 29 (v := ?v46238) H46227 ?hy46238 ?_
             case hy46238 => (intro w hSw; (try dsimp only at hSw); go_simp <;> first | with_reducible rfl | rw [if_neg (by omega)] | rw [if_pos (by omega)])
             (try simp only [PU])
             refine TK 30 (v := ?v46239) H46227 ?hy46239 ?_
             case hy46239 => (intro w hSw; (try dsimp only at hSw); go_simp <;> first | with_reducible rfl | rw [if_neg (by omega)] | rw [if_pos (by omega)])
             (try simp only [PU])
             refine TK 31 (v := ?v46240) H46227 ?hy46240 ?_
             case hy46240 => (intro w hSw; (try dsimp only at hSw); go_simp <;> first | with_reducible rfl | rw [if_neg (by omega)] | rw [if_pos (by omega)])
             (try simp only [PU])
             refine TK 32 (v := ?v46241) H46227 ?hy46241 ?_
             case hy46241 => (intro w hSw; (try dsimp only at hSw); go_simp <;> first | with_reducible rfl | rw [if_neg (by omega)] | rw [if_pos (by omega)])
             (try simp only [PU])
             refine TK 33 (v := ?v46242) H46227 ?hy46242 ?_
             case hy46242 => (intro w hSw; (try dsimp only at hSw); go_simp <;> first | with_reducible rfl | rw [if_neg (by omega)] | rw [if_pos (by omega)])
             (try simp only [PU])
             refine TK 34 (v := ?v46243) H46227 ?hy46243 ?_
             case hy46243 => (intro w hSw; (try dsimp only at hSw); go_simp <;> first | with_reducible rfl | rw [if_neg (by omega)] | rw [if_pos (by omega)])
             (try simp only [PU])
             refine TK 35 (v := ?v46244) H46227 ?hy46244 ?_
             case hy46244 => (intro w hSw; (try dsimp only at hSw); go_simp <;> first | with_reducible rfl | rw [if_neg (by omega)] | rw [if_pos (by omega)])
             (try simp only [PU])
             refine TK 36 (v := ?v46245) H46227 ?hy46245 ?_
             case hy46245 => (intro w hSw; (try dsimp only at hSw); go_simp <;> first | with_reducible rfl | rw [if_neg (by omega)] | rw [if_pos (by omega)])
             (try simp only [PU])
             refine TK 37 (v := ?v46246) H46227 ?hy46246 ?_
             case hy46246 => (intro w hSw; (try dsimp only at hSw); go_simp <;> first | with_reducible rfl | rw [if_neg (by omega)] | rw [if_pos (by omega)])
             (try simp only [PU])
             refine TK 38 (v := ?v46247) H46227 ?hy46247 ?_
             case hy46247 => (intro w hSw; (try dsimp only at hSw); go_simp <;> first | with_reducible rfl | rw [if_neg (by omega)] | rw [if_pos (by omega)])
             (try simp only [PU])
             refine wpAnyH_done (by kernel_rfl) ?_ _
             clear H46227
             go_wp2_with fail
             go_ret
             exact ⟨ret_bool HT.out.symm, HX.out.trans (hE.out.trans (by solve_by_elim [X0, X1, X2, X3]))⟩
          ·have HT := Lib.hid (HN2.out hid)
           rw [show idB na = false from by rw [← Bool.not_eq_true, idB_iff]; exact hid] at HID
           clear HN1 HN2 HN3 HS hab hid HNJ en'
           go_upto_region 10 with (fail)
           refine wp_region_held_drew (S := (fun V => (V.cell? ⟨q, 0, none⟩ = some (.slice (some ⟨bn, on, none⟩) nl k0) ∧ V.cell? ⟨q, 1, none⟩ = some (.slice (some ⟨b, o, none⟩) fl k1) ∧ V.cell? ⟨q, 2, none⟩ = some (.slice Cx tl k2) ∧ V.cell? ⟨q, 3, none⟩ = some (.slice D tl k3)) ∧ V.cell? ⟨b, o + i, none⟩ = some (.int .i64 fa) ∧ V.cell? ⟨b, o + (i + 1), none⟩ = some (.int .i64 fb) ∧ V.cell? ⟨bn, on + i, none⟩ = some (.int .i64 na))) (by kernel_rfl) ?hs46128 (fun hHeld => ?go46128)
           case hs46128 => (exact MK8.out _ (by solve_by_elim [X0, X1, X2, X3]))
           refine TK 0 (v := ?v46129) hHeld ?hy46129 ?_
           case hy46129 => (intro w hSw; (try dsimp only at hSw); go_simp <;> first | with_reducible rfl | rw [if_neg (by omega)] | rw [if_pos (by omega)])
           (try simp only [PU])
           refine TK 1 (v := ?v46130) hHeld ?hy46130 ?_
           case hy46130 => (intro w hSw; (try dsimp only at hSw); go_simp <;> first | with_reducible rfl | rw [if_neg (by omega)] | rw [if_pos (by omega)])
           (try simp only [PU])
           refine TK 2 (v := ?v46131) hHeld ?hy46131 ?_
           case hy46131 => (intro w hSw; (try dsimp only at hSw); go_simp <;> first | with_reducible rfl | rw [if_neg (by omega)] | rw [if_pos (by omega)])
           (try simp only [PU])
           refine TK 3 (v := ?v46132) hHeld ?hy46132 ?_
           case hy46132 => (intro w hSw; (try dsimp only at hSw); go_simp <;> first | with_reducible rfl | rw [if_neg (by omega)] | rw [if_pos (by omega)])
           (try simp only [PU])
           refine TK 4 (v := ?v46133) hHeld ?hy46133 ?_
           case hy46133 => (intro w hSw; (try dsimp only at hSw); go_simp <;> first | with_reducible rfl | rw [if_neg (by omega)] | rw [if_pos (by omega)])
           (try simp only [PU])
           refine TK 5 (v := ?v46134) hHeld ?hy46134 ?_
           case hy46134 => (intro w hSw; (try dsimp only at hSw); go_simp <;> first | with_reducible rfl | rw [if_neg (by omega)] | rw [if_pos (by omega)])
           (try simp only [PU])
           refine TK 6 (v := ?v46135) hHeld ?hy46135 ?_
           case hy46135 => (intro w hSw; (try dsimp only at hSw); go_simp <;> first | with_reducible rfl | rw [if_neg (by omega)] | rw [if_pos (by omega)])
           (try simp only [PU])
           refine TK 7 (v := ?v46136) hHeld ?hy46136 ?_
           case hy46136 => (intro w hSw; (try dsimp only at hSw); go_simp <;> first | with_reducible rfl | rw [if_neg (by omega)] | rw [if_pos (by omega)])
           (try simp only [PU])
           refine TK 8 (v := ?v46137) hHeld ?hy46137 ?_
           case hy46137 => (intro w hSw; (try dsimp only at hSw); go_simp <;> first | with_reducible rfl | rw [if_neg (by omega)] | rw [if_pos (by omega)])
           (try simp only [PU])
           refine TK 9 (v := ?v46138) hHeld ?hy46138 ?_
           case hy46138 => (intro w hSw; (try dsimp only at hSw); go_simp <;> first | with_reducible rfl | rw [if_neg (by omega)] | rw [if_pos (by omega)])
           (try simp only [PU])
           refine TK 10 (v := ?v46139) hHeld ?hy46139 ?_
           case hy46139 => (intro w hSw; (try dsimp only at hSw); go_simp <;> first | with_reducible rfl | rw [if_neg (by omega)] | rw [if_pos (by omega)])
           (try simp only [PU])
           refine TK 11 (v := ?v46140) hHeld ?hy46140 ?_
           case hy46140 => (intro w hSw; (try dsimp only at hSw); go_simp <;> first | with_reducible rfl | rw [if_neg (by omega)] | rw [if_pos (by omega)])
           (try simp only [PU])
           refine TK 12 (v := ?v46141) hHeld ?hy46141 ?_
           case hy46141 => (intro w hSw; (try dsimp only at hSw); go_simp <;> first | with_reducible rfl | rw [if_neg (by omega)] | rw [if_pos (by omega)])
           (try simp only [PU])
           refine TK 13 (v := ?v46142) hHeld ?hy46142 ?_
           case hy46142 => (intro w hSw; (try dsimp only at hSw); go_simp <;> first | with_reducible rfl | rw [if_neg (by omega)] | rw [if_pos (by omega)])
           (try simp only [PU])
           refine TK 14 (v := ?v46143) hHeld ?hy46143 ?_
           case hy46143 => (intro w hSw; (try dsimp only at hSw); go_simp <;> first | with_reducible rfl | rw [if_neg (by omega)] | rw [if_pos (by omega)])
           (try simp only [PU])
           refine TK 15 (v := ?v46144) hHeld ?hy46144 ?_
           case hy46144 => (intro w hSw; (try dsimp only at hSw); go_simp <;> first | with_reducible rfl | rw [if_neg (by omega)] | rw [if_pos (by omega)])
           (try simp only [PU])
           refine TK 16 (v := ?v46145) hHeld ?hy46145 ?_
           case hy46145 => (intro w hSw; (try dsimp only at hSw); go_simp <;> first | with_reducible rfl | rw [if_neg (by omega)] | rw [if_pos (by omega)])
           (try simp only [PU])
           refine TK 17 (v := ?v46146) hHeld ?hy46146 ?_
           case hy46146 => (intro w hSw; (try dsimp only at hSw); go_simp <;> first | with_reducible rfl | rw [if_neg (by omega)] | rw [if_pos (by omega)])
           (try simp only [PU])
           refine wpAnyH_ready (rs := [18]) (by kernel_rfl) (by simp) ?_
           refine AllReadyH.cons (o := ⟨_, _, _, _, _, _⟩) rfl (fun K hK => ?step46147x0) ?more46147x0
           case more46147x0 => exact AllReadyH.nil
           go_simp
           (with_reducible refine (HID.out _ (by solve_by_elim [X0, X1, X2, X3])).mono ?_; rintro r v18 ⟨rfl, hy18⟩; replace hy18 : Ext wr v18 := Ext.trans (by solve_by_elim [X0, X1, X2, X3]) hy18)
           refine hK.out _ _ ?hS46147x0 (fun H46147 => ?_)
           case hS46147x0 => first | (exact MK8.out _ (by solve_by_elim [X0, X1, X2, X3])) | ((try dsimp only); (exact MK8.out _ (by solve_by_elim [X0, X1, X2, X3])))
           clear hK K
           clear hHeld
           (try simp only [PU])
           refine TK 19 (v := ?v46148) H46147 ?hy46148 ?_
           case hy46148 => (intro w hSw; (try dsimp only at hSw); go_simp <;> first | with_reducible rfl | rw [if_neg (by omega)] | rw [if_pos (by omega)])
           (try simp only [PU])
           refine TK 20 (v := ?v46149) H46147 ?hy46149 ?_
           case hy46149 => (intro w hSw; (try dsimp only at hSw); go_simp <;> first | with_reducible rfl | rw [if_neg (by omega)] | rw [if_pos (by omega)])
           (try simp only [PU])
           refine TK 21 (v := ?v46150) H46147 ?hy46150 ?_
           case hy46150 => (intro w hSw; (try dsimp only at hSw); go_simp <;> first | with_reducible rfl | rw [if_neg (by omega)] | rw [if_pos (by omega)])
           (try simp only [PU])
           refine TN 22 H46147 ?_
           (try simp only [PU])
           refine TN 23 H46147 ?_
           (try simp only [PU])
           refine TN 24 H46147 ?_
           (try simp only [PU])
           refine TN 25 H46147 ?_
           (try simp only [PU])
           refine TN 26 H46147 ?_
           (try simp only [PU])
           refine TN 27 H46147 ?_
           (try simp only [PU])
           refine TN 28 H46147 ?_
           (try simp only [PU])
           refine TN 29 H46147 ?_
           (try simp only [PU])
           refine TN 30 H46147 ?_
           (try simp only [PU])
           refine TN 31 H46147 ?_
           (try simp only [PU])
           refine TN 32 H46147 ?_
           (try simp only [PU])
           refine TN 33 H46147 ?_
           (try simp only [PU])
           refine TN 34 H46147 ?_
           (try simp only [PU])
           refine TN 35 H46147 ?_
           (try simp only [PU])
           refine TN 36 H46147 ?_
           (try simp only [PU])
           refine TN 37 H46147 ?_
           (try simp only [PU])
           refine TK 38 (v := ?v46167) H46147 ?hy46167 ?_
           case hy46167 => (intro w hSw; (try dsimp only at hSw); go_simp <;> first | with_reducible rfl | rw [if_neg (by omega)] | rw [if_pos (by omega)])
           (try simp only [PU])
           refine wpAnyH_done (by kernel_rfl) ?_ _
           clear H46147
           go_wp2_with fail
           go_ret
           exact ⟨ret_bool HT.out.symm, HX.out.trans (hE.out.trans (by solve_by_elim [X0, X1, X2, X3]))⟩
         ·have HT := Lib.hid (HN1.out hab)
          have g8 : decide (fb ≤ fa) = true := decide_eq_true (by omega)
          clear HN1 HN2 HN3 HS hab HNJ en' HID
          go_upto_region 10 with (fail)
          refine wp_region_held_drew (S := (fun V => (V.cell? ⟨q, 0, none⟩ = some (.slice (some ⟨bn, on, none⟩) nl k0) ∧ V.cell? ⟨q, 1, none⟩ = some (.slice (some ⟨b, o, none⟩) fl k1) ∧ V.cell? ⟨q, 2, none⟩ = some (.slice Cx tl k2) ∧ V.cell? ⟨q, 3, none⟩ = some (.slice D tl k3)) ∧ V.cell? ⟨b, o + i, none⟩ = some (.int .i64 fa) ∧ V.cell? ⟨b, o + (i + 1), none⟩ = some (.int .i64 fb) ∧ V.cell? ⟨bn, on + i, none⟩ = some (.int .i64 na))) (by kernel_rfl) ?hs46088 (fun hHeld => ?go46088)
          case hs46088 => (exact MK8.out _ (by solve_by_elim [X0, X1, X2, X3]))
          refine TK 0 (v := ?v46089) hHeld ?hy46089 ?_
          case hy46089 => (intro w hSw; (try dsimp only at hSw); go_simp <;> first | with_reducible rfl | rw [if_neg (by omega)] | rw [if_pos (by omega)])
          (try simp only [PU])
          refine TK 1 (v := ?v46090) hHeld ?hy46090 ?_
          case hy46090 => (intro w hSw; (try dsimp only at hSw); go_simp <;> first | with_reducible rfl | rw [if_neg (by omega)] | rw [if_pos (by omega)])
          (try simp only [PU])
          refine TK 2 (v := ?v46091) hHeld ?hy46091 ?_
          case hy46091 => (intro w hSw; (try dsimp only at hSw); go_simp <;> first | with_reducible rfl | rw [if_neg (by omega)] | rw [if_pos (by omega)])
          (try simp only [PU])
          refine TK 3 (v := ?v46092) hHeld ?hy46092 ?_
          case hy46092 => (intro w hSw; (try dsimp only at hSw); go_simp <;> first | with_reducible rfl | rw [if_neg (by omega)] | rw [if_pos (by omega)])
          (try simp only [PU])
          refine TK 4 (v := ?v46093) hHeld ?hy46093 ?_
          case hy46093 => (intro w hSw; (try dsimp only at hSw); go_simp <;> first | with_reducible rfl | rw [if_neg (by omega)] | rw [if_pos (by omega)])
          (try simp only [PU])
          refine TK 5 (v := ?v46094) hHeld ?hy46094 ?_
          case hy46094 => (intro w hSw; (try dsimp only at hSw); go_simp <;> first | with_reducible rfl | rw [if_neg (by omega)] | rw [if_pos (by omega)])
          (try simp only [PU])
          refine TK 6 (v := ?v46095) hHeld ?hy46095 ?_
          case hy46095 => (intro w hSw; (try dsimp only at hSw); go_simp <;> first | with_reducible rfl | rw [if_neg (by omega)] | rw [if_pos (by omega)])
          (try simp only [PU])
          refine TK 7 (v := ?v46096) hHeld ?hy46096 ?_
          case hy46096 => (intro w hSw; (try dsimp only at hSw); go_simp <;> first | with_reducible rfl | rw [if_neg (by omega)] | rw [if_pos (by omega)])
          (try simp only [PU])
          refine TK 8 (v := ?v46097) hHeld ?hy46097 ?_
          case hy46097 => (intro w hSw; (try dsimp only at hSw); go_simp <;> first | with_reducible rfl | rw [if_neg (by omega)] | rw [if_pos (by omega)])
          (try simp only [PU])
          refine TK 9 (v := ?v46098) hHeld ?hy46098 ?_
          case hy46098 => (intro w hSw; (try dsimp only at hSw); go_simp <;> first | with_reducible rfl | rw [if_neg (by omega)] | rw [if_pos (by omega)])
          (try simp only [PU])
          refine TK 10 (v := ?v46099) hHeld ?hy46099 ?_
          case hy46099 => (intro w hSw; (try dsimp only at hSw); go_simp <;> first | with_reducible rfl | rw [if_neg (by omega)] | rw [if_pos (by omega)])
          (try simp only [PU])
          refine TK 11 (v := ?v46100) hHeld ?hy46100 ?_
          case hy46100 => (intro w hSw; (try dsimp only at hSw); go_simp <;> first | with_reducible rfl | rw [if_neg (by omega)] | rw [if_pos (by omega)])
          (try simp only [PU])
          refine TK 12 (v := ?v46101) hHeld ?hy46101 ?_
          case hy46101 => (intro w hSw; (try dsimp only at hSw); go_simp <;> first | with_reducible rfl | rw [if_neg (by omega)] | rw [if_pos (by omega)])
          (try simp only [PU])
          refine TN 13 hHeld ?_
          (try simp only [PU])
          refine TN 14 hHeld ?_
          (try simp only [PU])
          refine TN 15 hHeld ?_
          (try simp only [PU])
          refine TN 16 hHeld ?_
          (try simp only [PU])
          refine TN 17 hHeld ?_
          (try simp only [PU])
          refine TN 18 hHeld ?_
          (try simp only [PU])
          refine TN 19 hHeld ?_
          (try simp only [PU])
          refine TK 20 (v := ?v46109) hHeld ?hy46109 ?_
          case hy46109 => (intro w hSw; (try dsimp only at hSw); go_simp <;> first | with_reducible rfl | rw [if_neg (by omega)] | rw [if_pos (by omega)])
          (try simp only [PU])
          refine TK 21 (v := ?v46110) hHeld ?hy46110 ?_
          case hy46110 => (intro w hSw; (try dsimp only at hSw); go_simp <;> first | with_reducible rfl | rw [if_neg (by omega)] | rw [if_pos (by omega)])
          (try simp only [PU])
          refine TN 22 hHeld ?_
          (try simp only [PU])
          refine TN 23 hHeld ?_
          (try simp only [PU])
          refine TN 24 hHeld ?_
          (try simp only [PU])
          refine TN 25 hHeld ?_
          (try simp only [PU])
          refine TN 26 hHeld ?_
          (try simp only [PU])
          refine TN 27 hHeld ?_
          (try simp only [PU])
          refine TN 28 hHeld ?_
          (try simp only [PU])
          refine TN 29 hHeld ?_
          (try simp only [PU])
          refine TN 30 hHeld ?_
          (try simp only [PU])
          refine TN 31 hHeld ?_
          (try simp only [PU])
          refine TN 32 hHeld ?_
          (try simp only [PU])
          refine TN 33 hHeld ?_
          (try simp only [PU])
          refine TN 34 hHeld ?_
          (try simp only [PU])
          refine TN 35 hHeld ?_
          (try simp only [PU])
          refine TN 36 hHeld ?_
          (try simp only [PU])
          refine TN 37 hHeld ?_
          (try simp only [PU])
          refine TK 38 (v := ?v46127) hHeld ?hy46127 ?_
          case hy46127 => (intro w hSw; (try dsimp only at hSw); go_simp <;> first | with_reducible rfl | rw [if_neg (by omega)] | rw [if_pos (by omega)])
          (try simp only [PU])
          refine wpAnyH_done (by kernel_rfl) ?_ _
          clear hHeld
          go_wp2_with fail
          go_ret
          exact ⟨ret_bool HT.out.symm, HX.out.trans (hE.out.trans (by solve_by_elim [X0, X1, X2, X3]))⟩
        ·have HT := Lib.hid (HYES.out (fun t ht => HG.out t (by omega)))
         clear HG HNO HYES HCF HNV
         go_wp2_with fail
         go_ret
         exact ⟨ret_bool HT.out.symm, HX.out.trans hE.out⟩
      ·have gf : (fn != (tl : Int)) = true := by simp [h4]
       have HT := Lib.hid (HN.out (fun hs => h4 (HP.out.1 hs).1.2.2.2))
       clear h1 h2 h4 HY HN HP e0 en HCF hf0 hfn MK HNV
       go_upto_region 5 with (fail)
       refine wp_region_held_drew (S := (fun V => (V.cell? ⟨q, 0, none⟩ = some (.slice A nl k0) ∧ V.cell? ⟨q, 1, none⟩ = some (.slice (some ⟨b, o, none⟩) fl k1) ∧ V.cell? ⟨q, 2, none⟩ = some (.slice Cx tl k2) ∧ V.cell? ⟨q, 3, none⟩ = some (.slice D tl k3)) ∧ V.cell? ⟨b, o, none⟩ = some (.int .i64 f0) ∧ V.cell? ⟨b, o + nl, none⟩ = some (.int .i64 fn))) (by kernel_rfl) ?hs46059 (fun hHeld => ?go46059)
       case hs46059 => (exact MKB.out _ (by solve_by_elim [X0, X1, X2, X3]))
       refine TK 0 (v := ?v46060) hHeld ?hy46060 ?_
       case hy46060 => (intro w hSw; (try dsimp only at hSw); go_simp <;> first | with_reducible rfl | rw [if_neg (by omega)] | rw [if_pos (by omega)])
       (try simp only [PU])
       refine TK 1 (v := ?v46061) hHeld ?hy46061 ?_
       case hy46061 => (intro w hSw; (try dsimp only at hSw); go_simp <;> first | with_reducible rfl | rw [if_neg (by omega)] | rw [if_pos (by omega)])
       (try simp only [PU])
       refine TK 2 (v := ?v46062) hHeld ?hy46062 ?_
       case hy46062 => (intro w hSw; (try dsimp only at hSw); go_simp <;> first | with_reducible rfl | rw [if_neg (by omega)] | rw [if_pos (by omega)])
       (try simp only [PU])
       refine TK 3 (v := ?v46063) hHeld ?hy46063 ?_
       case hy46063 => (intro w hSw; (try dsimp only at hSw); go_simp <;> first | with_reducible rfl | rw [if_neg (by omega)] | rw [if_pos (by omega)])
       (try simp only [PU])
       refine TK 4 (v := ?v46064) hHeld ?hy46064 ?_
       case hy46064 => (intro w hSw; (try dsimp only at hSw); go_simp <;> first | with_reducible rfl | rw [if_neg (by omega)] | rw [if_pos (by omega)])
       (try simp only [PU])
       refine TK 5 (v := ?v46065) hHeld ?hy46065 ?_
       case hy46065 => (intro w hSw; (try dsimp only at hSw); go_simp <;> first | with_reducible rfl | rw [if_neg (by omega)] | rw [if_pos (by omega)])
       (try simp only [PU])
       refine TK 6 (v := ?v46066) hHeld ?hy46066 ?_
       case hy46066 => (intro w hSw; (try dsimp only at hSw); go_simp <;> first | with_reducible rfl | rw [if_neg (by omega)] | rw [if_pos (by omega)])
       (try simp only [PU])
       refine TK 7 (v := ?v46067) hHeld ?hy46067 ?_
       case hy46067 => (intro w hSw; (try dsimp only at hSw); go_simp <;> first | with_reducible rfl | rw [if_neg (by omega)] | rw [if_pos (by omega)])
       (try simp only [PU])
       refine TK 8 (v := ?v46068) hHeld ?hy46068 ?_
       case hy46068 => (intro w hSw; (try dsimp only at hSw); go_simp <;> first | with_reducible rfl | rw [if_neg (by omega)] | rw [if_pos (by omega)])
       (try simp only [PU])
       refine TK 9 (v := ?v46069) hHeld ?hy46069 ?_
       case hy46069 => (intro w hSw; (try dsimp only at hSw); go_simp <;> first | with_reducible rfl | rw [if_neg (by omega)] | rw [if_pos (by omega)])
       (try simp only [PU])
       refine TK 10 (v := ?v46070) hHeld ?hy46070 ?_
       case hy46070 => (intro w hSw; (try dsimp only at hSw); go_simp <;> first | with_reducible rfl | rw [if_neg (by omega)] | rw [if_pos (by omega)])
       (try simp only [PU])
       refine TK 11 (v := ?v46071) hHeld ?hy46071 ?_
       case hy46071 => (intro w hSw; (try dsimp only at hSw); go_simp <;> first | with_reducible rfl | rw [if_neg (by omega)] | rw [if_pos (by omega)])
       (try simp only [PU])
       refine TK 12 (v := ?v46072) hHeld ?hy46072 ?_
       case hy46072 => (intro w hSw; (try dsimp only at hSw); go_simp <;> first | with_reducible rfl | rw [if_neg (by omega)] | rw [if_pos (by omega)])
       (try simp only [PU])
       refine TK 13 (v := ?v46073) hHeld ?hy46073 ?_
       case hy46073 => (intro w hSw; (try dsimp only at hSw); go_simp <;> first | with_reducible rfl | rw [if_neg (by omega)] | rw [if_pos (by omega)])
       (try simp only [PU])
       refine TK 14 (v := ?v46074) hHeld ?hy46074 ?_
       case hy46074 => (intro w hSw; (try dsimp only at hSw); go_simp <;> first | with_reducible rfl | rw [if_neg (by omega)] | rw [if_pos (by omega)])
       (try simp only [PU])
       refine TK 15 (v := ?v46075) hHeld ?hy46075 ?_
       case hy46075 => (intro w hSw; (try dsimp only at hSw); go_simp <;> first | with_reducible rfl | rw [if_neg (by omega)] | rw [if_pos (by omega)])
       (try simp only [PU])
       refine TK 16 (v := ?v46076) hHeld ?hy46076 ?_
       case hy46076 => (intro w hSw; (try dsimp only at hSw); go_simp <;> first | with_reducible rfl | rw [if_neg (by omega)] | rw [if_pos (by omega)])
       (try simp only [PU])
       refine TK 17 (v := ?v46077) hHeld ?hy46077 ?_
       case hy46077 => (intro w hSw; (try dsimp only at hSw); go_simp <;> first | with_reducible rfl | rw [if_neg (by omega)] | rw [if_pos (by omega)])
       (try simp only [PU])
       refine TK 18 (v := ?v46078) hHeld ?hy46078 ?_
       case hy46078 => (intro w hSw; (try dsimp only at hSw); go_simp <;> first | with_reducible rfl | rw [if_neg (by omega)] | rw [if_pos (by omega)])
       (try simp only [PU])
       refine TK 19 (v := ?v46079) hHeld ?hy46079 ?_
       case hy46079 => (intro w hSw; (try dsimp only at hSw); go_simp <;> first | with_reducible rfl | rw [if_neg (by omega)] | rw [if_pos (by omega)])
       (try simp only [PU])
       refine TK 20 (v := ?v46080) hHeld ?hy46080 ?_
       case hy46080 => (intro w hSw; (try dsimp only at hSw); go_simp <;> first | with_reducible rfl | rw [if_neg (by omega)] | rw [if_pos (by omega)])
       (try simp only [PU])
       refine TK 21 (v := ?v46081) hHeld ?hy46081 ?_
       case hy46081 => (intro w hSw; (try dsimp only at hSw); go_simp <;> first | with_reducible rfl | rw [if_neg (by omega)] | rw [if_pos (by omega)])
       (try simp only [PU])
       refine TK 22 (v := ?v46082) hHeld ?hy46082 ?_
       case hy46082 => (intro w hSw; (try dsimp only at hSw); go_simp <;> first | with_reducible rfl | rw [if_neg (by omega)] | rw [if_pos (by omega)])
       (try simp only [PU])
       refine TK 23 (v := ?v46083) hHeld ?hy46083 ?_
       case hy46083 => (intro w hSw; (try dsimp only at hSw); go_simp <;> first | with_reducible rfl | rw [if_neg (by omega)] | rw [if_pos (by omega)])
       (try simp only [PU])
       refine TK 24 (v := ?v46084) hHeld ?hy46084 ?_
       case hy46084 => (intro w hSw; (try dsimp only at hSw); go_simp <;> first | with_reducible rfl | rw [if_neg (by omega)] | rw [if_pos (by omega)])
       (try simp only [PU])
       refine TK 25 (v := ?v46085) hHeld ?hy46085 ?_
       case hy46085 => (intro w hSw; (try dsimp only at hSw); go_simp <;> first | with_reducible rfl | rw [if_neg (by omega)] | rw [if_pos (by omega)])
       (try simp only [PU])
       refine TK 26 (v := ?v46086) hHeld ?hy46086 ?_
       case hy46086 => (intro w hSw; (try dsimp only at hSw); go_simp <;> first | with_reducible rfl | rw [if_neg (by omega)] | rw [if_pos (by omega)])
       (try simp only [PU])
       refine TK 27 (v := ?v46087) hHeld ?hy46087 ?_
       case hy46087 => (intro w hSw; (try dsimp only at hSw); go_simp <;> first | with_reducible rfl | rw [if_neg (by omega)] | rw [if_pos (by omega)])
       (try simp only [PU])
       refine wpAnyH_done (by kernel_rfl) ?_ _
       clear hHeld
       go_wp2_with fail
       go_ret
       exact ⟨ret_bool HT.out.symm, HX.out.trans (by solve_by_elim [X0, X1, X2, X3])⟩
     ·have gz : (f0 != 0) = true := by simp [h2]
      have HT := Lib.hid (HN.out (fun hs => h2 (HP.out.1 hs).1.2.1))
      clear h1 h2 HY HN HP e0 en HCF hf0 hfn MK HNV
      go_upto_region 5 with (fail)
      refine wp_region_held_drew (S := (fun V => (V.cell? ⟨q, 0, none⟩ = some (.slice A nl k0) ∧ V.cell? ⟨q, 1, none⟩ = some (.slice (some ⟨b, o, none⟩) fl k1) ∧ V.cell? ⟨q, 2, none⟩ = some (.slice Cx tl k2) ∧ V.cell? ⟨q, 3, none⟩ = some (.slice D tl k3)) ∧ V.cell? ⟨b, o, none⟩ = some (.int .i64 f0) ∧ V.cell? ⟨b, o + nl, none⟩ = some (.int .i64 fn))) (by kernel_rfl) ?hs46030 (fun hHeld => ?go46030)
      case hs46030 => (exact MKB.out _ (by solve_by_elim [X0, X1, X2, X3]))
      refine TK 0 (v := ?v46031) hHeld ?hy46031 ?_
      case hy46031 => (intro w hSw; (try dsimp only at hSw); go_simp <;> first | with_reducible rfl | rw [if_neg (by omega)] | rw [if_pos (by omega)])
      (try simp only [PU])
      refine TK 1 (v := ?v46032) hHeld ?hy46032 ?_
      case hy46032 => (intro w hSw; (try dsimp only at hSw); go_simp <;> first | with_reducible rfl | rw [if_neg (by omega)] | rw [if_pos (by omega)])
      (try simp only [PU])
      refine TK 2 (v := ?v46033) hHeld ?hy46033 ?_
      case hy46033 => (intro w hSw; (try dsimp only at hSw); go_simp <;> first | with_reducible rfl | rw [if_neg (by omega)] | rw [if_pos (by omega)])
      (try simp only [PU])
      refine TK 3 (v := ?v46034) hHeld ?hy46034 ?_
      case hy46034 => (intro w hSw; (try dsimp only at hSw); go_simp <;> first | with_reducible rfl | rw [if_neg (by omega)] | rw [if_pos (by omega)])
      (try simp only [PU])
      refine TK 4 (v := ?v46035) hHeld ?hy46035 ?_
      case hy46035 => (intro w hSw; (try dsimp only at hSw); go_simp <;> first | with_reducible rfl | rw [if_neg (by omega)] | rw [if_pos (by omega)])
      (try simp only [PU])
      refine TK 5 (v := ?v46036) hHeld ?hy46036 ?_
      case hy46036 => (intro w hSw; (try dsimp only at hSw); go_simp <;> first | with_reducible rfl | rw [if_neg (by omega)] | rw [if_pos (by omega)])
      (try simp only [PU])
      refine TK 6 (v := ?v46037) hHeld ?hy46037 ?_
      case hy46037 => (intro w hSw; (try dsimp only at hSw); go_simp <;> first | with_reducible rfl | rw [if_neg (by omega)] | rw [if_pos (by omega)])
      (try simp only [PU])
      refine TK 7 (v := ?v46038) hHeld ?hy46038 ?_
      case hy46038 => (intro w hSw; (try dsimp only at hSw); go_simp <;> first | with_reducible rfl | rw [if_neg (by omega)] | rw [if_pos (by omega)])
      (try simp only [PU])
      refine TK 8 (v := ?v46039) hHeld ?hy46039 ?_
      case hy46039 => (intro w hSw; (try dsimp only at hSw); go_simp <;> first | with_reducible rfl | rw [if_neg (by omega)] | rw [if_pos (by omega)])
      (try simp only [PU])
      refine TK 9 (v := ?v46040) hHeld ?hy46040 ?_
      case hy46040 => (intro w hSw; (try dsimp only at hSw); go_simp <;> first | with_reducible rfl | rw [if_neg (by omega)] | rw [if_pos (by omega)])
      (try simp only [PU])
      refine TK 10 (v := ?v46041) hHeld ?hy46041 ?_
      case hy46041 => (intro w hSw; (try dsimp only at hSw); go_simp <;> first | with_reducible rfl | rw [if_neg (by omega)] | rw [if_pos (by omega)])
      (try simp only [PU])
      refine TK 11 (v := ?v46042) hHeld ?hy46042 ?_
      case hy46042 => (intro w hSw; (try dsimp only at hSw); go_simp <;> first | with_reducible rfl | rw [if_neg (by omega)] | rw [if_pos (by omega)])
      (try simp only [PU])
      refine TK 12 (v := ?v46043) hHeld ?hy46043 ?_
      case hy46043 => (intro w hSw; (try dsimp only at hSw); go_simp <;> first | with_reducible rfl | rw [if_neg (by omega)] | rw [if_pos (by omega)])
      (try simp only [PU])
      refine TK 13 (v := ?v46044) hHeld ?hy46044 ?_
      case hy46044 => (intro w hSw; (try dsimp only at hSw); go_simp <;> first | with_reducible rfl | rw [if_neg (by omega)] | rw [if_pos (by omega)])
      (try simp only [PU])
      refine TK 14 (v := ?v46045) hHeld ?hy46045 ?_
      case hy46045 => (intro w hSw; (try dsimp only at hSw); go_simp <;> first | with_reducible rfl | rw [if_neg (by omega)] | rw [if_pos (by omega)])
      (try simp only [PU])
      refine TK 15 (v := ?v46046) hHeld ?hy46046 ?_
      case hy46046 => (intro w hSw; (try dsimp only at hSw); go_simp <;> first | with_reducible rfl | rw [if_neg (by omega)] | rw [if_pos (by omega)])
      (try simp only [PU])
      refine TN 16 hHeld ?_
      (try simp only [PU])
      refine TN 17 hHeld ?_
      (try simp only [PU])
      refine TN 18 hHeld ?_
      (try simp only [PU])
      refine TN 19 hHeld ?_
      (try simp only [PU])
      refine TN 20 hHeld ?_
      (try simp only [PU])
      refine TN 21 hHeld ?_
      (try simp only [PU])
      refine TN 22 hHeld ?_
      (try simp only [PU])
      refine TN 23 hHeld ?_
      (try simp only [PU])
      refine TN 24 hHeld ?_
      (try simp only [PU])
      refine TN 25 hHeld ?_
      (try simp only [PU])
      refine TN 26 hHeld ?_
      (try simp only [PU])
      refine TK 27 (v := ?v46058) hHeld ?hy46058 ?_
      case hy46058 => (intro w hSw; (try dsimp only at hSw); go_simp <;> first | with_reducible rfl | rw [if_neg (by omega)] | rw [if_pos (by omega)])
      (try simp only [PU])
      refine wpAnyH_done (by kernel_rfl) ?_ _
      clear hHeld
      go_wp2_with fail
      go_ret
      exact ⟨ret_bool HT.out.symm, HX.out.trans (by solve_by_elim [X0, X1, X2, X3])⟩
    ·have gl : ((fl : Int) != ((nl + 1 : Nat) : Int)) = true := by simp; omega
     have gl' : ((fl : Int) != (nl : Int) + 1) = true := by simp; omega
     have HT := Lib.hid (HN.out (fun hs => h1 (HP.out.1 hs).1.1))
     clear h1 HY HN HP HF HFL HNV
     go_upto_region 5 with (fail)
     refine wp_region_held_drew (S := (fun V => (V.cell? ⟨q, 0, none⟩ = some (.slice A nl k0) ∧ V.cell? ⟨q, 1, none⟩ = some (.slice B fl k1) ∧ V.cell? ⟨q, 2, none⟩ = some (.slice Cx tl k2) ∧ V.cell? ⟨q, 3, none⟩ = some (.slice D tl k3)))) (by kernel_rfl) ?hs46001 (fun hHeld => ?go46001)
     case hs46001 => (exact MK.out _ (by solve_by_elim [X0, X1, X2, X3]))
     refine TK 0 (v := ?v46002) hHeld ?hy46002 ?_
     case hy46002 => (intro w hSw; (try dsimp only at hSw); go_simp <;> first | with_reducible rfl | rw [if_neg (by omega)] | rw [if_pos (by omega)])
     (try simp only [PU])
     refine TK 1 (v := ?v46003) hHeld ?hy46003 ?_
     case hy46003 => (intro w hSw; (try dsimp only at hSw); go_simp <;> first | with_reducible rfl | rw [if_neg (by omega)] | rw [if_pos (by omega)])
     (try simp only [PU])
     refine TK 2 (v := ?v46004) hHeld ?hy46004 ?_
     case hy46004 => (intro w hSw; (try dsimp only at hSw); go_simp <;> first | with_reducible rfl | rw [if_neg (by omega)] | rw [if_pos (by omega)])
     (try simp only [PU])
     refine TK 3 (v := ?v46005) hHeld ?hy46005 ?_
     case hy46005 => (intro w hSw; (try dsimp only at hSw); go_simp <;> first | with_reducible rfl | rw [if_neg (by omega)] | rw [if_pos (by omega)])
     (try simp only [PU])
     refine TK 4 (v := ?v46006) hHeld ?hy46006 ?_
     case hy46006 => (intro w hSw; (try dsimp only at hSw); go_simp <;> first | with_reducible rfl | rw [if_neg (by omega)] | rw [if_pos (by omega)])
     (try simp only [PU])
     refine TK 5 (v := ?v46007) hHeld ?hy46007 ?_
     case hy46007 => (intro w hSw; (try dsimp only at hSw); go_simp <;> first | with_reducible rfl | rw [if_neg (by omega)] | rw [if_pos (by omega)])
     (try simp only [PU])
     refine TK 6 (v := ?v46008) hHeld ?hy46008 ?_
     case hy46008 => (intro w hSw; (try dsimp only at hSw); go_simp <;> first | with_reducible rfl | rw [if_neg (by omega)] | rw [if_pos (by omega)])
     (try simp only [PU])
     refine TK 7 (v := ?v46009) hHeld ?hy46009 ?_
     case hy46009 => (intro w hSw; (try dsimp only at hSw); go_simp <;> first | with_reducible rfl | rw [if_neg (by omega)] | rw [if_pos (by omega)])
     (try simp only [PU])
     refine TK 8 (v := ?v46010) hHeld ?hy46010 ?_
     case hy46010 => (intro w hSw; (try dsimp only at hSw); go_simp <;> first | with_reducible rfl | rw [if_neg (by omega)] | rw [if_pos (by omega)])
     (try simp only [PU])
     refine TN 9 hHeld ?_
     (try simp only [PU])
     refine TN 10 hHeld ?_
     (try simp only [PU])
     refine TN 11 hHeld ?_
     (try simp only [PU])
     refine TN 12 hHeld ?_
     (try simp only [PU])
     refine TN 13 hHeld ?_
     (try simp only [PU])
     refine TK 14 (v := ?v46016) hHeld ?hy46016 ?_
     case hy46016 => (intro w hSw; (try dsimp only at hSw); go_simp <;> first | with_reducible rfl | rw [if_neg (by omega)] | rw [if_pos (by omega)])
     (try simp only [PU])
     refine TK 15 (v := ?v46017) hHeld ?hy46017 ?_
     case hy46017 => (intro w hSw; (try dsimp only at hSw); go_simp <;> first | with_reducible rfl | rw [if_neg (by omega)] | rw [if_pos (by omega)])
     (try simp only [PU])
     refine TN 16 hHeld ?_
     (try simp only [PU])
     refine TN 17 hHeld ?_
     (try simp only [PU])
     refine TN 18 hHeld ?_
     (try simp only [PU])
     refine TN 19 hHeld ?_
     (try simp only [PU])
     refine TN 20 hHeld ?_
     (try simp only [PU])
     refine TN 21 hHeld ?_
     (try simp only [PU])
     refine TN 22 hHeld ?_
     (try simp only [PU])
     refine TN 23 hHeld ?_
     (try simp only [PU])
     refine TN 24 hHeld ?_
     (try simp only [PU])
     refine TN 25 hHeld ?_
     (try simp only [PU])
     refine TN 26 hHeld ?_
     (try simp only [PU])
     refine TK 27 (v := ?v46029) hHeld ?hy46029 ?_
     case hy46029 => (intro w hSw; (try dsimp only at hSw); go_simp <;> first | with_reducible rfl | rw [if_neg (by omega)] | rw [if_pos (by omega)])
     (try simp only [PU])
     refine wpAnyH_done (by kernel_rfl) ?_ _
     clear hHeld
     go_wp2_with fail
     go_ret
     exact ⟨ret_bool HT.out.symm, HX.out.trans (by solve_by_elim [X0, X1, X2, X3])⟩
 ·have gt : ((tl : Int) != (el : Int)) = true := by simp; omega
  have HT := Lib.hid (HN.out (fun hs => ht (HSM.out hs)))
  clear ht HSM HSF HSN HY HN HF HNV hx
  go_wp2_with fail
  go_ret
  exact ⟨ret_bool HT.out.symm, HX.out⟩
end Go.Proofs.YtnheioehadldmaaGreat
