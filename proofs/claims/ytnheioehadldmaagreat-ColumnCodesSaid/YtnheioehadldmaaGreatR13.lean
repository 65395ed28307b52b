/- PARTS OF THE WALKS, joined: CoL, CoM, CoN. -/
import Derived.Test.YtnheioehadldmaaGreatR12
/- THE WALK over the reference's Of. -/
namespace Go.Proofs.YtnheioehadldmaaGreat
open Go.RowKit
theorem ColAt.none (w : World) (ok : Nat → Prop) : ColAt w ok Option.none Option.none Option.none Option.none noCol := ⟨SliceR.nil _ _ _, SliceR.nil _ _ _, SliceR.nil _ _ _, SliceR.nil _ _ _⟩
theorem Nums.put {W : World} {ok : Nat → Prop} {A : Option Addr} {l : List Int} (h : Nums W ok A l) {q : Nat} (hq : ¬ ok q) (j : Nat) (u : Value) : Nums (W.setCell ⟨q, j, none⟩ u) ok A l := SliceR.mono h (fun b _ _ _ hx => ⟨hx.1, (World.cell?_setCell_far _ _ _ _ (fun e => hq (by have : q = b := e; rw [this]; exact hx.1))).trans hx.2⟩)
theorem ColAt.put {W : World} {ok : Nat → Prop} {A B C D : Option Addr} {c : Col} (h : ColAt W ok A B C D c) {q : Nat} (hq : ¬ ok q) (j : Nat) (u : Value) : ColAt (W.setCell ⟨q, j, Option.none⟩ u) ok A B C D c := ⟨h.n.put hq j u, h.f.put hq j u, h.t.put hq j u, h.e.put hq j u⟩
theorem ColAt.to {W : World} {ok ok' : Nat → Prop} {A B C D : Option Addr} {c : Col} (h : ColAt W ok A B C D c) (ho : ∀ b, ok b → ok' b) : ColAt W ok' A B C D c := ⟨SliceR.mono h.n (fun _ _ _ _ hx => ⟨ho _ hx.1, hx.2⟩), SliceR.mono h.f (fun _ _ _ _ hx => ⟨ho _ hx.1, hx.2⟩), SliceR.mono h.t (fun _ _ _ _ hx => ⟨ho _ hx.1, hx.2⟩), SliceR.mono h.e (fun _ _ _ _ hx => ⟨ho _ hx.1, hx.2⟩)⟩
theorem ofR_bad {l : List Sh} {k : Nat} (hk : k < l.length) (h : okS l[k]! = false) : ofR l = (1, noCol) := by
 unfold ofR
 rw [if_neg (fun e => by have := List.all_eq_true.1 e l[k]! (by rw [getElem!_pos l k hk]; exact List.getElem_mem hk); rw [h] at this; cases this)]
end Go.Proofs.YtnheioehadldmaaGreat

/- THE WALK over column.shape. -/
namespace Go.Proofs.YtnheioehadldmaaGreat
open Go.RowKit
/-- do the lists of a column fit together -/
def shapeP (c : Col) : Prop := (c.nodes = [] ∧ c.first = [] ∧ c.tos = [] ∧ c.edges = []) ∨ ShapeC c
noncomputable def shapeB (c : Col) : Bool := @decide (shapeP c) (Classical.propDecidable _)
theorem shapeB_iff {c : Col} : shapeB c = true ↔ shapeP c := @decide_eq_true_iff _ (Classical.propDecidable _)
theorem shapeB_no {c : Col} (h : ¬ shapeP c) : shapeB c = false := by rw [← Bool.not_eq_true, shapeB_iff]; exact h
theorem shape_full {c : Col} (h : c.nodes.length ≠ 0) : shapeP c ↔ c.first.length = c.nodes.length + 1 ∧ c.first[0]! = 0 ∧ c.tos.length = c.edges.length ∧ c.first[c.nodes.length]! = (c.tos.length : Int) ∧ ∀ i, i < c.nodes.length → c.first[i]! < c.first[i + 1]! := by
 constructor
 ·rintro (⟨h1, -⟩ | h1)
  ·exact absurd (by rw [h1]; rfl) h
  ·exact ⟨h1.len, h1.zero, h1.same, h1.last, h1.rise⟩
 ·rintro ⟨h1, h2, h3, h4, h5⟩
  exact .inr ⟨h1, h2, h3, h4, h5⟩
theorem shape_none {c : Col} (h : c.nodes.length = 0) : shapeP c ↔ c.tos.length = 0 ∧ c.edges.length = 0 ∧ (c.first.length = 0 ∨ (c.first.length = 1 ∧ c.first[0]! = 0)) := by
 constructor
 ·rintro (⟨h1, h2, h3, h4⟩ | h1)
  ·rw [h2, h3, h4]; exact ⟨rfl, rfl, .inl rfl⟩
  ·have e1 := h1.last
   rw [h, h1.zero] at e1
   have e2 := h1.len
   have e3 := h1.same
   exact ⟨by omega, by omega, .inr ⟨by omega, h1.zero⟩⟩
 ·rintro ⟨h1, h2, h3 | ⟨h3, h4⟩⟩
  ·exact .inl ⟨List.length_eq_zero_iff.1 h, List.length_eq_zero_iff.1 h3, List.length_eq_zero_iff.1 h1, List.length_eq_zero_iff.1 h2⟩
  ·exact .inr ⟨by omega, h4, by omega, by rw [h, h4, h1]; rfl, fun i hi => absurd hi (by omega)⟩
set_option maxRecDepth 100000 in
set_option maxHeartbeats 3200000 in
theorem co_shape (c : Col) (ok : Nat → Prop) (A B Cx D : Option Addr) (k0 k1 k2 k3 : Nat) (w : World) (hv : ColAt w ok A B Cx D c) :
  Calls Tryz.prog 43 #[agC c A B Cx D k0 k1 k2 k3] w fun e w' => e = .returned (.bool (shapeB c)) ∧ Ext w w' := by
 obtain ⟨q, w1, hq, hw1, ⟨a0, a1, a2, a3⟩, hx⟩ := box_col w c A B Cx D k0 k1 k2 k3 29
 have HW := Lib.hid hw1
 have HQ := Lib.hid hq
 have HX := Lib.hid hx
 have HF := Lib.hid (hv.f.ext hx)
 have hnl := hv.n.len
 have htl := hv.t.len
 have hel := hv.e.len
 have hfl := hv.f.len
 have HSF := Lib.hid (fun h => shape_full (c := c) h)
 have HSN := Lib.hid (fun h => shape_none (c := c) h)
 have HY := Lib.hid (fun (h : shapeP c) => shapeB_iff.2 h)
 have HN := Lib.hid (fun (h : ¬ shapeP c) => shapeB_no h)
 generalize shapeB c = T at *
 generalize shapeP c = SP at *
 obtain ⟨nodes, fst, tos, edges⟩ := c
 unfold agC
 dsimp only at *
 generalize hnl' : nodes.length = nl at *
 generalize hfl' : fst.length = fl at *
 generalize htl' : tos.length = tl at *
 generalize hel' : edges.length = el at *
 have MK := Lib.hid (fun V (e : Ext w1 V) => (⟨e.cell a0, e.cell a1, e.cell a2, e.cell a3⟩ : (V.cell? ⟨q, 0, none⟩ = some (.slice A nl k0) ∧ V.cell? ⟨q, 1, none⟩ = some (.slice B fl k1) ∧ V.cell? ⟨q, 2, none⟩ = some (.slice Cx tl k2) ∧ V.cell? ⟨q, 3, none⟩ = some (.slice D el k3))))
 have HFL := Lib.hid hfl'
 clear hw1 hq hx hv hnl' htl' hel' hfl'
 go_enter Tryz.func43, Tryz.ntmps43
 go_upto_region 1 with (fail)
 rw [← HW.out, ← HQ.out]
 clear HW HQ
 by_cases hn0 : nl = 0
 ·have HP := Lib.hid (HSN.out hn0)
  have gn : decide (nl = 0) = true := decide_eq_true hn0
  have gn' : ((nl : Int) == 0) = true := by simp [hn0]
  clear HSN HSF
  by_cases h1 : tl = 0
  ·have g1 : ((tl : Int) == 0) = true := by rw [h1]; rfl
   have g1' : decide (tl = 0) = true := decide_eq_true h1
   have g1'' : (tl == 0) = true := beq_iff_eq.2 h1
   by_cases h2 : el = 0
   ·have g2 : ((el : Int) == 0) = true := by rw [h2]; rfl
    have g2' : decide (el = 0) = true := decide_eq_true h2
    have g2'' : (el == 0) = true := beq_iff_eq.2 h2
    by_cases h3 : fl = 0
    ·have g3 : ((fl : Int) == 0) = true := by rw [h3]; rfl
     have g3' : decide (fl = 0) = true := decide_eq_true h3
     have g3'' : (fl == 0) = true := beq_iff_eq.2 h3
     have HT := Lib.hid (HY.out (HP.out.2 ⟨h1, h2, .inl h3⟩))
     obtain ⟨a0, a1, a2, a3⟩ := MK.out _ (Ext.refl _)
     clear h1 h2 h3 HY HN HP hn0
     go_wp2_with fail
     go_ret
     exact ⟨ret_bool HT.out.symm, HX.out⟩
    ·have g3 : ((fl : Int) == 0) = false := beq_eq_false_iff_ne.2 (by omega)
     have g3' : decide (fl = 0) = false := decide_eq_false h3
     have g3'' : (fl == 0) = false := beq_eq_false_iff_ne.2 h3
     by_cases h4 : fl = 1
     ·have g4 : ((fl : Int) == 1) = true := by rw [h4]; rfl
      have g4' : decide (fl = 1) = true := decide_eq_true h4
      have g4'' : (fl == 1) = true := beq_iff_eq.2 h4
      obtain ⟨b, o, rfl, hc⟩ := HF.out.2 (by rw [HFL.out]; omega)
      have e0 := (hc 0 (by rw [HFL.out]; omega)).2
      rw [← getElem!_pos fst 0 (by rw [HFL.out]; omega), Nat.zero_mul, Nat.add_zero] at e0
      have hlt0 : 0 < fl := by omega
      clear hc HF HFL
      generalize fst[0]! = f0 at *
      by_cases h5 : f0 = 0
      ·have g5 : (f0 == 0) = true := beq_iff_eq.2 h5
       have g5' : decide (f0 = 0) = true := decide_eq_true h5
       have HT := Lib.hid (HY.out (HP.out.2 ⟨h1, h2, .inr ⟨h4, h5⟩⟩))
       obtain ⟨a0, a1, a2, a3⟩ := MK.out _ (Ext.refl _)
       clear h1 h2 h3 h4 h5 HY HN HP hn0
       go_wp2_with fail
       go_ret
       exact ⟨ret_bool HT.out.symm, HX.out⟩
      ·have g5 : (f0 == 0) = false := beq_eq_false_iff_ne.2 h5
       have g5' : decide (f0 = 0) = false := decide_eq_false h5
       have HT := Lib.hid (HN.out (fun hs => h5 ((HP.out.1 hs).2.2.elim (fun e => absurd e h3) (fun e => e.2))))
       obtain ⟨a0, a1, a2, a3⟩ := MK.out _ (Ext.refl _)
       clear h1 h2 h3 h4 h5 HY HN HP hn0
       go_wp2_with fail
       go_ret
       exact ⟨ret_bool HT.out.symm, HX.out⟩
     ·have g4 : ((fl : Int) == 1) = false := beq_eq_false_iff_ne.2 (by omega)
      have g4' : decide (fl = 1) = false := decide_eq_false h4
      have g4'' : (fl == 1) = false := beq_eq_false_iff_ne.2 h4
      have HT := Lib.hid (HN.out (fun hs => (HP.out.1 hs).2.2.elim h3 (fun e => h4 e.1)))
      obtain ⟨a0, a1, a2, a3⟩ := MK.out _ (Ext.refl _)
      clear h1 h2 h3 h4 HY HN HP hn0
      go_wp2_with fail
      go_ret
      exact ⟨ret_bool HT.out.symm, HX.out⟩
   ·have g2 : ((el : Int) == 0) = false := beq_eq_false_iff_ne.2 (by omega)
    have g2' : decide (el = 0) = false := decide_eq_false h2
    have g2'' : (el == 0) = false := beq_eq_false_iff_ne.2 h2
    have HT := Lib.hid (HN.out (fun hs => h2 (HP.out.1 hs).2.1))
    obtain ⟨a0, a1, a2, a3⟩ := MK.out _ (Ext.refl _)
    clear h1 h2 HY HN HP hn0
    go_wp2_with fail
    go_ret
    exact ⟨ret_bool HT.out.symm, HX.out⟩
  ·have g1 : ((tl : Int) == 0) = false := beq_eq_false_iff_ne.2 (by omega)
   have g1' : decide (tl = 0) = false := decide_eq_false h1
   have g1'' : (tl == 0) = false := beq_eq_false_iff_ne.2 h1
   have HT := Lib.hid (HN.out (fun hs => h1 (HP.out.1 hs).1))
   obtain ⟨a0, a1, a2, a3⟩ := MK.out _ (Ext.refl _)
   clear h1 HY HN HP hn0
   go_wp2_with fail
   go_ret
   exact ⟨ret_bool HT.out.symm, HX.out⟩
 ·have HP := Lib.hid (HSF.out hn0)
  have gn : decide (nl = 0) = false := decide_eq_false hn0
  have gn' : ((nl : Int) == 0) = false := by simp; omega
  have wn : IntKind.i64.wrap ((nl : Int) + 1) = ((nl + 1 : Nat) : Int) := by rw [IntKind.wrap_i64]; omega
  have hpos : 0 < nl := by omega
  clear HSN HSF hn0
  by_cases h1 : fl = nl + 1
  ·obtain ⟨b, o, rfl, hc⟩ := HF.out.2 (by rw [HFL.out]; omega)
   have HCF := Lib.hid (fun t (ht : t < fl) => (by have h := (hc t (by rw [HFL.out]; exact ht)).2; rw [Nat.mul_one, ← getElem!_pos fst t (by rw [HFL.out]; exact ht)] at h; exact h : w1.cell? ⟨b, o + t, none⟩ = some (.int .i64 fst[t]!)))
   have e0 := HCF.out 0 (by omega)
   rw [Nat.add_zero] at e0
   have en := HCF.out nl (by omega)
   have gl : ((fl : Int) != ((nl + 1 : Nat) : Int)) = false := by simp; omega
   have gl' : ((fl : Int) != (nl : Int) + 1) = false := by simp; omega
   have hlt0 : 0 < fl := by omega
   have hltn : nl < fl := by omega
   clear hc HF HFL
   generalize hf0 : fst[0]! = f0 at *
   generalize hfn : fst[nl]! = fn at *
   have MKB := Lib.hid (fun V (e : Ext w1 V) => (⟨MK.out V e, e.cell e0, e.cell en⟩ : (V.cell? ⟨q, 0, none⟩ = some (.slice A nl k0) ∧ V.cell? ⟨q, 1, none⟩ = some (.slice (some ⟨b, o, none⟩) fl k1) ∧ V.cell? ⟨q, 2, none⟩ = some (.slice Cx tl k2) ∧ V.cell? ⟨q, 3, none⟩ = some (.slice D el k3)) ∧ V.cell? ⟨b, o, none⟩ = some (.int .i64 f0) ∧ V.cell? ⟨b, o + nl, none⟩ = some (.int .i64 fn)))
   by_cases h2 : f0 = 0
   ·have gz : (f0 != 0) = false := by simp [h2]
    by_cases h3 : tl = el
    ·have gt : ((tl : Int) != (el : Int)) = false := by simp [h3]
     by_cases h4 : fn = (tl : Int)
     ·have gf : (fn != (tl : Int)) = false := by simp [h4]
      have HYES := Lib.hid (fun (h : ∀ t, t < nl → fst[t]! < fst[t + 1]!) => HY.out (HP.out.2 ⟨h1, h2, h3, h4, h⟩))
      have HNO := Lib.hid (fun (h : ¬ ∀ t, t < nl → fst[t]! < fst[t + 1]!) => HN.out (fun hs => h (HP.out.1 hs).2.2.2.2))
      clear h1 h2 h3 h4 HY HN HP e0 en hf0 hfn MK
      go_upto_region 3 with (fail)
      refine wp_region_held_drew (S := (fun V => (V.cell? ⟨q, 0, none⟩ = some (.slice A nl k0) ∧ V.cell? ⟨q, 1, none⟩ = some (.slice (some ⟨b, o, none⟩) fl k1) ∧ V.cell? ⟨q, 2, none⟩ = some (.slice Cx tl k2) ∧ V.cell? ⟨q, 3, none⟩ = some (.slice D el k3)) ∧ V.cell? ⟨b, o, none⟩ = some (.int .i64 f0) ∧ V.cell? ⟨b, o + nl, none⟩ = some (.int .i64 fn))) (by kernel_rfl) ?hs40179 (fun hHeld => ?go40179)
      case hs40179 => (exact MKB.out _ (by solve_by_elim [X0, X1, X2, X3]))
      refine TK 0 (v := ?v40180) hHeld ?hy40180 ?_
      case hy40180 => (intro w hSw; (try dsimp only at hSw); go_simp <;> first | with_reducible rfl | rw [if_neg (by omega)] | rw [if_pos (by omega)])
      (try simp only [PU])
      refine TK 1 (v := ?v40181) hHeld ?hy40181 ?_
      case hy40181 => (intro w hSw; (try dsimp only at hSw); go_simp <;> first | with_reducible rfl | rw [if_neg (by omega)] | rw [if_pos (by omega)])
      (try simp only [PU])
      refine TK 2 (v := ?v40182) hHeld ?hy40182 ?_
      case hy40182 => (intro w hSw; (try dsimp only at hSw); go_simp <;> first | with_reducible rfl | rw [if_neg (by omega)] | rw [if_pos (by omega)])
      (try simp only [PU])
      refine TK 3 (v := ?v40183) hHeld ?hy40183 ?_
      case hy40183 => (intro w hSw; (try dsimp only at hSw); go_simp <;> first | with_reducible rfl | rw [if_neg (by omega)] | rw [if_pos (by omega)])
      (try simp only [PU])
      refine TK 4 (v := ?v40184) hHeld ?hy40184 ?_
      case hy40184 => (intro w hSw; (try dsimp only at hSw); go_simp <;> first | with_reducible rfl | rw [if_neg (by omega)] | rw [if_pos (by omega)])
      (try simp only [PU])
      refine TK 5 (v := ?v40185) hHeld ?hy40185 ?_
      case hy40185 => (intro w hSw; (try dsimp only at hSw); go_simp <;> first | with_reducible rfl | rw [if_neg (by omega)] | rw [if_pos (by omega)])
      (try simp only [PU])
      refine TK 6 (v := ?v40186) hHeld ?hy40186 ?_
      case hy40186 => (intro w hSw; (try dsimp only at hSw); go_simp <;> first | with_reducible rfl | rw [if_neg (by omega)] | rw [if_pos (by omega)])
      (try simp only [PU])
      refine TK 7 (v := ?v40187) hHeld ?hy40187 ?_
      case hy40187 => (intro w hSw; (try dsimp only at hSw); go_simp <;> first | with_reducible rfl | rw [if_neg (by omega)] | rw [if_pos (by omega)])
      (try simp only [PU])
      refine TK 8 (v := ?v40188) hHeld ?hy40188 ?_
      case hy40188 => (intro w hSw; (try dsimp only at hSw); go_simp <;> first | with_reducible rfl | rw [if_neg (by omega)] | rw [if_pos (by omega)])
      (try simp only [PU])
      refine TK 9 (v := ?v40189) hHeld ?hy40189 ?_
      case hy40189 => (intro w hSw; (try dsimp only at hSw); go_simp <;> first | with_reducible rfl | rw [if_neg (by omega)] | rw [if_pos (by omega)])
      (try simp only [PU])
      refine TK 10 (v := ?v40190) hHeld ?hy40190 ?_
      case hy40190 => (intro w hSw; (try dsimp only at hSw); go_simp <;> first | with_reducible rfl | rw [if_neg (by omega)] | rw [if_pos (by omega)])
      (try simp only [PU])
      refine TK 11 (v := ?v40191) hHeld ?hy40191 ?_
      case hy40191 => (intro w hSw; (try dsimp only at hSw); go_simp <;> first | with_reducible rfl | rw [if_neg (by omega)] | rw [if_pos (by omega)])
      (try simp only [PU])
      refine TK 12 (v := ?v40192) hHeld ?hy40192 ?_
      case hy40192 => (intro w hSw; (try dsimp only at hSw); go_simp <;> first | with_reducible rfl | rw [if_neg (by omega)] | rw [if_pos (by omega)])
      (try simp only [PU])
      refine TK 13 (v := ?v40193) hHeld ?hy40193 ?_
      case hy40193 => (intro w hSw; (try dsimp only at hSw); go_simp <;> first | with_reducible rfl | rw [if_neg (by omega)] | rw [if_pos (by omega)])
      (try simp only [PU])
      refine TK 14 (v := ?v40194) hHeld ?hy40194 ?_
      case hy40194 => (intro w hSw; (try dsimp only at hSw); go_simp <;> first | with_reducible rfl | rw [if_neg (by omega)] | rw [if_pos (by omega)])
      (try simp only [PU])
      refine TK 15 (v := ?v40195) hHeld ?hy40195 ?_
      case hy40195 => (intro w hSw; (try dsimp only at hSw); go_simp <;> first | with_reducible rfl | rw [if_neg (by omega)] | rw [if_pos (by omega)])
      (try simp only [PU])
      refine TK 16 (v := ?v40196) hHeld ?hy40196 ?_
      case hy40196 => (intro w hSw; (try dsimp only at hSw); go_simp <;> first | with_reducible rfl | rw [if_neg (by omega)] | rw [if_pos (by omega)])
      (try simp only [PU])
      refine TK 17 (v := ?v40197) hHeld ?hy40197 ?_
      case hy40197 => (intro w hSw; (try dsimp only at hSw); go_simp <;> first | with_reducible rfl | rw [if_neg (by omega)] | rw [if_pos (by omega)])
      (try simp only [PU])
      refine TK 18 (v := ?v40198) hHeld ?hy40198 ?_
      case hy40198 => (intro w hSw; (try dsimp only at hSw); go_simp <;> first | with_reducible rfl | rw [if_neg (by omega)] | rw [if_pos (by omega)])
      (try simp only [PU])
      refine TK 19 (v := ?v40199) hHeld ?hy40199 ?_
      case hy40199 => (intro w hSw; (try dsimp only at hSw); go_simp <;> first | with_reducible rfl | rw [if_neg (by omega)] | rw [if_pos (by omega)])
      (try simp only [PU])
      refine TK 20 (v := ?v40200) hHeld ?hy40200 ?_
      case hy40200 => (intro w hSw; (try dsimp only at hSw); go_simp <;> first | with_reducible rfl | rw [if_neg (by omega)] | rw [if_pos (by omega)])
      (try simp only [PU])
      refine TK 21 (v := ?v40201) hHeld ?hy40201 ?_
      case hy40201 => (intro w hSw; (try dsimp only at hSw); go_simp <;> first | with_reducible rfl | rw [if_neg (by omega)] | rw [if_pos (by omega)])
      (try simp only [PU])
      refine TK 22 (v := ?v40202) hHeld ?hy40202 ?_
      case hy40202 => (intro w hSw; (try dsimp only at hSw); go_simp <;> first | with_reducible rfl | rw [if_neg (by omega)] | rw [if_pos (by omega)])
      (try simp only [PU])
      refine TK 23 (v := ?v40203) hHeld ?hy40203 ?_
      case hy40203 => (intro w hSw; (try dsimp only at hSw); go_simp <;> first | with_reducible rfl | rw [if_neg (by omega)] | rw [if_pos (by omega)])
      (try simp only [PU])
      refine TK 24 (v := ?v40204) hHeld ?hy40204 ?_
      case hy40204 => (intro w hSw; (try dsimp only at hSw); go_simp <;> first | with_reducible rfl | rw [if_neg (by omega)] | rw [if_pos (by omega)])
      (try simp only [PU])
      refine TK 25 (v := ?v40205) hHeld ?hy40205 ?_
      case hy40205 => (intro w hSw; (try dsimp only at hSw); go_simp <;> first | with_reducible rfl | rw [if_neg (by omega)] | rw [if_pos (by omega)])
      (try simp only [PU])
      refine TK 26 (v := ?v40206) hHeld ?hy40206 ?_
      case hy40206 => (intro w hSw; (try dsimp only at hSw); go_simp <;> first | with_reducible rfl | rw [if_neg (by omega)] | rw [if_pos (by omega)])
      (try simp only [PU])
      refine TK 27 (v := ?v40207) hHeld ?hy40207 ?_
      case hy40207 => (intro w hSw; (try dsimp only at hSw); go_simp <;> first | with_reducible rfl | rw [if_neg (by omega)] | rw [if_pos (by omega)])
      (try simp only [PU])
      refine TK 28 (v := ?v40208) hHeld ?hy40208 ?_
      case hy40208 => (intro w hSw; (try dsimp only at hSw); go_simp <;> first | with_reducible rfl | rw [if_neg (by omega)] | rw [if_pos (by omega)])
      (try simp only [PU])
      refine TK 29 (v := ?v40209) hHeld ?hy40209 ?_
      case hy40209 => (intro w hSw; (try dsimp only at hSw); go_simp <;> first | with_reducible rfl | rw [if_neg (by omega)] | rw [if_pos (by omega)])
      (try simp only [PU])
      refine TK 30 (v := ?v40210) hHeld ?hy40210 ?_
      case hy40210 => (intro w hSw; (try dsimp only at hSw); go_simp <;> first | with_reducible rfl | rw [if_neg (by omega)] | rw [if_pos (by omega)])
      (try simp only [PU])
      refine TK 31 (v := ?v40211) hHeld ?hy40211 ?_
      case hy40211 => (intro w hSw; (try dsimp only at hSw); go_simp <;> first | with_reducible rfl | rw [if_neg (by omega)] | rw [if_pos (by omega)])
      (try simp only [PU])
      refine TK 32 (v := ?v40212) hHeld ?hy40212 ?_
      case hy40212 => (intro w hSw; (try dsimp only at hSw); go_simp <;> first | with_reducible rfl | rw [if_neg (by omega)] | rw [if_pos (by omega)])
      (try simp only [PU])
      refine TK 33 (v := ?v40213) hHeld ?hy40213 ?_
      case hy40213 => (intro w hSw; (try dsimp only at hSw); go_simp <;> first | with_reducible rfl | rw [if_neg (by omega)] | rw [if_pos (by omega)])
      (try simp only [PU])
      refine TK 34 (v := ?v40214) hHeld ?hy40214 ?_
      case hy40214 => (intro w hSw; (try dsimp only at hSw); go_simp <;> first | with_reducible rfl | rw [if_neg (by omega)] | rw [if_pos (by omega)])
      (try simp only [PU])
      refine TK 35 (v := ?v40215) hHeld ?hy40215 ?_
      case hy40215 => (intro w hSw; (try dsimp only at hSw); go_simp <;> first | with_reducible rfl | rw [if_neg (by omega)] | rw [if_pos (by omega)])
      (try simp only [PU])
      refine TK 36 (v := ?v40216) hHeld ?hy40216 ?_
      case hy40216 => (intro w hSw; (try dsimp only at hSw); go_simp <;> first | with_reducible rfl | rw [if_neg (by omega)] | rw [if_pos (by omega)])
      (try simp only [PU])
      refine wpAnyH_done (by kernel_rfl) ?_ _
      clear hHeld
      go_wp2_with fail
      go_loopw [77] (fun u W => ∃ i : Nat, u = .int .i64 i ∧ i ≤ nl ∧ Hid (∀ t, t < i → fst[t]! < fst[t + 1]!) ∧ Hid (Ext w1 W)) (fun u _ => nl - (intOf u).toNat)
      case atStart => exact ⟨0, rfl, Nat.zero_le _, Lib.hid (fun t h => absurd h (by omega)), Lib.hid (by solve_by_elim [X0, X1, X2, X3])⟩
      case round =>
       obtain ⟨i, rfl, hi, HG, hE⟩ := hrel
       by_cases hlt : i < nl
       ·have hi1 : i + 1 < fl := by omega
        have hi0 : i < fl := by omega
        have wi : IntKind.i64.wrap ((i : Int) + 1) = ((i + 1 : Nat) : Int) := by rw [IntKind.wrap_i64]; omega
        have ea := hE.out.cell (HCF.out i hi0)
        have eb := hE.out.cell (HCF.out (i + 1) hi1)
        have HN := Lib.hid (fun (h : ¬ fst[i]! < fst[i + 1]!) => HNO.out (fun hs => h (hs i hlt)))
        have HS := Lib.hid (fun (h : fst[i]! < fst[i + 1]!) t (ht : t < i + 1) => (if e : t = i then (by rw [e]; exact h) else HG.out t (by omega) : fst[t]! < fst[t + 1]!))
        clear HG HNO HYES
        generalize fst[i]! = fa at *
        generalize fst[i + 1]! = fb at *
        have MK8 := Lib.hid (fun V (e : Ext wr V) => (⟨(MKB.out V (hE.out.trans e)).1, e.cell ea, e.cell eb⟩ : (V.cell? ⟨q, 0, none⟩ = some (.slice A nl k0) ∧ V.cell? ⟨q, 1, none⟩ = some (.slice (some ⟨b, o, none⟩) fl k1) ∧ V.cell? ⟨q, 2, none⟩ = some (.slice Cx tl k2) ∧ V.cell? ⟨q, 3, none⟩ = some (.slice D el k3)) ∧ V.cell? ⟨b, o + i, none⟩ = some (.int .i64 fa) ∧ V.cell? ⟨b, o + (i + 1), none⟩ = some (.int .i64 fb)))
        clear ea eb HCF
        by_cases hab : fa < fb
        ·have HT := Lib.hid (HS.out hab)
         have g8 : decide (fb ≤ fa) = false := decide_eq_false (by omega)
         clear HN HS hab
         go_upto_region 8 with (fail)
         refine wp_region_held_drew (S := (fun V => (V.cell? ⟨q, 0, none⟩ = some (.slice A nl k0) ∧ V.cell? ⟨q, 1, none⟩ = some (.slice (some ⟨b, o, none⟩) fl k1) ∧ V.cell? ⟨q, 2, none⟩ = some (.slice Cx tl k2) ∧ V.cell? ⟨q, 3, none⟩ = some (.slice D el k3)) ∧ V.cell? ⟨b, o + i, none⟩ = some (.int .i64 fa) ∧ V.cell? ⟨b, o + (i + 1), none⟩ = some (.int .i64 fb))) (by kernel_rfl) ?hs40153 (fun hHeld => ?go40153)
         case hs40153 => (exact MK8.out _ (by solve_by_elim [X0, X1, X2, X3]))
         refine TK 0 (v := ?v40154) hHeld ?hy40154 ?_
         case hy40154 => (intro w hSw; (try dsimp only at hSw); go_simp <;> first | with_reducible rfl | rw [if_neg (by omega)] | rw [if_pos (by omega)])
         (try simp only [PU])
         refine TK 1 (v := ?v40155) hHeld ?hy40155 ?_
         case hy40155 => (intro w hSw; (try dsimp only at hSw); go_simp <;> first | with_reducible rfl | rw [if_neg (by omega)] | rw [if_pos (by omega)])
         (try simp only [PU])
         refine TK 2 (v := ?v40156) hHeld ?hy40156 ?_
         case hy40156 => (intro w hSw; (try dsimp only at hSw); go_simp <;> first | with_reducible rfl | rw [if_neg (by omega)] | rw [if_pos (by omega)])
         (try simp only [PU])
         refine TK 3 (v := ?v40157) hHeld ?hy40157 ?_
         case hy40157 => (intro w hSw; (try dsimp only at hSw); go_simp <;> first | with_reducible rfl | rw [if_neg (by omega)] | rw [if_pos (by omega)])
         (try simp only [PU])
         refine TK 4 (v := ?v40158) hHeld ?hy40158 ?_
         case hy40158 => (intro w hSw; (try dsimp only at hSw); go_simp <;> first | with_reducible rfl | rw [if_neg (by omega)] | rw [if_pos (by omega)])
         (try simp only [PU])
         refine TK 5 (v := ?v40159) hHeld ?hy40159 ?_
         case hy40159 => (intro w hSw; (try dsimp only at hSw); go_simp <;> first | with_reducible rfl | rw [if_neg (by omega)] | rw [if_pos (by omega)])
         (try simp only [PU])
         refine TK 6 (v := ?v40160) hHeld ?hy40160 ?_
         case hy40160 => (intro w hSw; (try dsimp only at hSw); go_simp <;> first | with_reducible rfl | rw [if_neg (by omega)] | rw [if_pos (by omega)])
         (try simp only [PU])
         refine TK 7 (v := ?v40161) hHeld ?hy40161 ?_
         case hy40161 => (intro w hSw; (try dsimp only at hSw); go_simp <;> first | with_reducible rfl | rw [if_neg (by omega)] | rw [if_pos (by omega)])
         (try simp only [PU])
         refine TK 8 (v := ?v40162) hHeld ?hy40162 ?_
         case hy40162 => (intro w hSw; (try dsimp only at hSw); go_simp <;> first | with_reducible rfl | rw [if_neg (by omega)] | rw [if_pos (by omega)])
         (try simp only [PU])
         refine TK 9 (v := ?v40163) hHeld ?hy40163 ?_
         case hy40163 => (intro w hSw; (try dsimp only at hSw); go_simp <;> first | with_reducible rfl | rw [if_neg (by omega)] | rw [if_pos (by omega)])
         (try simp only [PU])
         refine TK 10 (v := ?v40164) hHeld ?hy40164 ?_
         case hy40164 => (intro w hSw; (try dsimp only at hSw); go_simp <;> first | with_reducible rfl | rw [if_neg (by omega)] | rw [if_pos (by omega)])
         (try simp only [PU])
         refine TK 11 (v := ?v40165) hHeld ?hy40165 ?_
         case hy40165 => (intro w hSw; (try dsimp only at hSw); go_simp <;> first | with_reducible rfl | rw [if_neg (by omega)] | rw [if_pos (by omega)])
         (try simp only [PU])
         refine wpAnyH_done (by kernel_rfl) ?_ _
         clear hHeld
         go_wp2_with fail
         go_roundw
         case rel => exact ⟨i + 1, by go_num, by omega, HT, Lib.hid (hE.out.trans (by solve_by_elim [X0, X1, X2, X3]))⟩
         case measure => simp [intOf]; omega
        ·have HT := Lib.hid (HN.out hab)
         have g8 : decide (fb ≤ fa) = true := decide_eq_true (by omega)
         clear HN HS hab
         go_upto_region 8 with (fail)
         refine wp_region_held_drew (S := (fun V => (V.cell? ⟨q, 0, none⟩ = some (.slice A nl k0) ∧ V.cell? ⟨q, 1, none⟩ = some (.slice (some ⟨b, o, none⟩) fl k1) ∧ V.cell? ⟨q, 2, none⟩ = some (.slice Cx tl k2) ∧ V.cell? ⟨q, 3, none⟩ = some (.slice D el k3)) ∧ V.cell? ⟨b, o + i, none⟩ = some (.int .i64 fa) ∧ V.cell? ⟨b, o + (i + 1), none⟩ = some (.int .i64 fb))) (by kernel_rfl) ?hs40166 (fun hHeld => ?go40166)
         case hs40166 => (exact MK8.out _ (by solve_by_elim [X0, X1, X2, X3]))
         refine TK 0 (v := ?v40167) hHeld ?hy40167 ?_
         case hy40167 => (intro w hSw; (try dsimp only at hSw); go_simp <;> first | with_reducible rfl | rw [if_neg (by omega)] | rw [if_pos (by omega)])
         (try simp only [PU])
         refine TK 1 (v := ?v40168) hHeld ?hy40168 ?_
         case hy40168 => (intro w hSw; (try dsimp only at hSw); go_simp <;> first | with_reducible rfl | rw [if_neg (by omega)] | rw [if_pos (by omega)])
         (try simp only [PU])
         refine TK 2 (v := ?v40169) hHeld ?hy40169 ?_
         case hy40169 => (intro w hSw; (try dsimp only at hSw); go_simp <;> first | with_reducible rfl | rw [if_neg (by omega)] | rw [if_pos (by omega)])
         (try simp only [PU])
         refine TK 3 (v := ?v40170) hHeld ?hy40170 ?_
         case hy40170 => (intro w hSw; (try dsimp only at hSw); go_simp <;> first | with_reducible rfl | rw [if_neg (by omega)] | rw [if_pos (by omega)])
         (try simp only [PU])
         refine TK 4 (v := ?v40171) hHeld ?hy40171 ?_
         case hy40171 => (intro w hSw; (try dsimp only at hSw); go_simp <;> first | with_reducible rfl | rw [if_neg (by omega)] | rw [if_pos (by omega)])
         (try simp only [PU])
         refine TK 5 (v := ?v40172) hHeld ?hy40172 ?_
         case hy40172 => (intro w hSw; (try dsimp only at hSw); go_simp <;> first | with_reducible rfl | rw [if_neg (by omega)] | rw [if_pos (by omega)])
         (try simp only [PU])
         refine TK 6 (v := ?v40173) hHeld ?hy40173 ?_
         case hy40173 => (intro w hSw; (try dsimp only at hSw); go_simp <;> first | with_reducible rfl | rw [if_neg (by omega)] | rw [if_pos (by omega)])
         (try simp only [PU])
         refine TK 7 (v := ?v40174) hHeld ?hy40174 ?_
         case hy40174 => (intro w hSw; (try dsimp only at hSw); go_simp <;> first | with_reducible rfl | rw [if_neg (by omega)] | rw [if_pos (by omega)])
         (try simp only [PU])
         refine TK 8 (v := ?v40175) hHeld ?hy40175 ?_
         case hy40175 => (intro w hSw; (try dsimp only at hSw); go_simp <;> first | with_reducible rfl | rw [if_neg (by omega)] | rw [if_pos (by omega)])
         (try simp only [PU])
         refine TK 9 (v := ?v40176) hHeld ?hy40176 ?_
         case hy40176 => (intro w hSw; (try dsimp only at hSw); go_simp <;> first | with_reducible rfl | rw [if_neg (by omega)] | rw [if_pos (by omega)])
         (try simp only [PU])
         refine TK 10 (v := ?v40177) hHeld ?hy40177 ?_
         case hy40177 => (intro w hSw; (try dsimp only at hSw); go_simp <;> first | with_reducible rfl | rw [if_neg (by omega)] | rw [if_pos (by omega)])
         (try simp only [PU])
         refine TK 11 (v := ?v40178) hHeld ?hy40178 ?_
         case hy40178 => (intro w hSw; (try dsimp only at hSw); go_simp <;> first | with_reducible rfl | rw [if_neg (by omega)] | rw [if_pos (by omega)])
         (try simp only [PU])
         refine wpAnyH_done (by kernel_rfl) ?_ _
         clear hHeld
         go_wp2_with fail
         go_ret
         exact ⟨ret_bool HT.out.symm, HX.out.trans (hE.out.trans (by solve_by_elim [X0, X1, X2, X3]))⟩
       ·have HT := Lib.hid (HYES.out (fun t ht => HG.out t (by omega)))
        clear HG HNO HYES HCF
        go_wp2_with fail
        go_ret
        exact ⟨ret_bool HT.out.symm, HX.out.trans hE.out⟩
     ·have gf : (fn != (tl : Int)) = true := by simp [h4]
      have HT := Lib.hid (HN.out (fun hs => h4 (HP.out.1 hs).2.2.2.1))
      clear h1 h2 h3 h4 HY HN HP e0 en HCF hf0 hfn MK
      go_upto_region 3 with (fail)
      refine wp_region_held_drew (S := (fun V => (V.cell? ⟨q, 0, none⟩ = some (.slice A nl k0) ∧ V.cell? ⟨q, 1, none⟩ = some (.slice (some ⟨b, o, none⟩) fl k1) ∧ V.cell? ⟨q, 2, none⟩ = some (.slice Cx tl k2) ∧ V.cell? ⟨q, 3, none⟩ = some (.slice D el k3)) ∧ V.cell? ⟨b, o, none⟩ = some (.int .i64 f0) ∧ V.cell? ⟨b, o + nl, none⟩ = some (.int .i64 fn))) (by kernel_rfl) ?hs40115 (fun hHeld => ?go40115)
      case hs40115 => (exact MKB.out _ (by solve_by_elim [X0, X1, X2, X3]))
      refine TK 0 (v := ?v40116) hHeld ?hy40116 ?_
      case hy40116 => (intro w hSw; (try dsimp only at hSw); go_simp <;> first | with_reducible rfl | rw [if_neg (by omega)] | rw [if_pos (by omega)])
      (try simp only [PU])
      refine TK 1 (v := ?v40117) hHeld ?hy40117 ?_
      case hy40117 => (intro w hSw; (try dsimp only at hSw); go_simp <;> first | with_reducible rfl | rw [if_neg (by omega)] | rw [if_pos (by omega)])
      (try simp only [PU])
      refine TK 2 (v := ?v40118) hHeld ?hy40118 ?_
      case hy40118 => (intro w hSw; (try dsimp only at hSw); go_simp <;> first | with_reducible rfl | rw [if_neg (by omega)] | rw [if_pos (by omega)])
      (try simp only [PU])
      refine TK 3 (v := ?v40119) hHeld ?hy40119 ?_
      case hy40119 => (intro w hSw; (try dsimp only at hSw); go_simp <;> first | with_reducible rfl | rw [if_neg (by omega)] | rw [if_pos (by omega)])
      (try simp only [PU])
      refine TK 4 (v := ?v40120) hHeld ?hy40120 ?_
      case hy40120 => (intro w hSw; (try dsimp only at hSw); go_simp <;> first | with_reducible rfl | rw [if_neg (by omega)] | rw [if_pos (by omega)])
      (try simp only [PU])
      refine TK 5 (v := ?v40121) hHeld ?hy40121 ?_
      case hy40121 => (intro w hSw; (try dsimp only at hSw); go_simp <;> first | with_reducible rfl | rw [if_neg (by omega)] | rw [if_pos (by omega)])
      (try simp only [PU])
      refine TK 6 (v := ?v40122) hHeld ?hy40122 ?_
      case hy40122 => (intro w hSw; (try dsimp only at hSw); go_simp <;> first | with_reducible rfl | rw [if_neg (by omega)] | rw [if_pos (by omega)])
      (try simp only [PU])
      refine TK 7 (v := ?v40123) hHeld ?hy40123 ?_
      case hy40123 => (intro w hSw; (try dsimp only at hSw); go_simp <;> first | with_reducible rfl | rw [if_neg (by omega)] | rw [if_pos (by omega)])
      (try simp only [PU])
      refine TK 8 (v := ?v40124) hHeld ?hy40124 ?_
      case hy40124 => (intro w hSw; (try dsimp only at hSw); go_simp <;> first | with_reducible rfl | rw [if_neg (by omega)] | rw [if_pos (by omega)])
      (try simp only [PU])
      refine TK 9 (v := ?v40125) hHeld ?hy40125 ?_
      case hy40125 => (intro w hSw; (try dsimp only at hSw); go_simp <;> first | with_reducible rfl | rw [if_neg (by omega)] | rw [if_pos (by omega)])
      (try simp only [PU])
      refine TK 10 (v := ?v40126) hHeld ?hy40126 ?_
      case hy40126 => (intro w hSw; (try dsimp only at hSw); go_simp <;> first | with_reducible rfl | rw [if_neg (by omega)] | rw [if_pos (by omega)])
      (try simp only [PU])
      refine TK 11 (v := ?v40127) hHeld ?hy40127 ?_
      case hy40127 => (intro w hSw; (try dsimp only at hSw); go_simp <;> first | with_reducible rfl | rw [if_neg (by omega)] | rw [if_pos (by omega)])
      (try simp only [PU])
      refine TK 12 (v := ?v40128) hHeld ?hy40128 ?_
      case hy40128 => (intro w hSw; (try dsimp only at hSw); go_simp <;> first | with_reducible rfl | rw [if_neg (by omega)] | rw [if_pos (by omega)])
      (try simp only [PU])
      refine TK 13 (v := ?v40129) hHeld ?hy40129 ?_
      case hy40129 => (intro w hSw; (try dsimp only at hSw); go_simp <;> first | with_reducible rfl | rw [if_neg (by omega)] | rw [if_pos (by omega)])
      (try simp only [PU])
      refine TK 14 (v := ?v40130) hHeld ?hy40130 ?_
      case hy40130 => (intro w hSw; (try dsimp only at hSw); go_simp <;> first | with_reducible rfl | rw [if_neg (by omega)] | rw [if_pos (by omega)])
      (try simp only [PU])
      refine TK 15 (v := ?v40131) hHeld ?hy40131 ?_
      case hy40131 => (intro w hSw; (try dsimp only at hSw); go_simp <;> first | with_reducible rfl | rw [if_neg (by omega)] | rw [if_pos (by omega)])
      (try simp only [PU])
      refine TK 16 (v := ?v40132) hHeld ?hy40132 ?_
      case hy40132 => (intro w hSw; (try dsimp only at hSw); go_simp <;> first | with_reducible rfl | rw [if_neg (by omega)] | rw [if_pos (by omega)])
      (try simp only [PU])
      refine TK 17 (v := ?v40133) hHeld ?hy40133 ?_
      case hy40133 => (intro w hSw; (try dsimp only at hSw); go_simp <;> first | with_reducible rfl | rw [if_neg (by omega)] | rw [if_pos (by omega)])
      (try simp only [PU])
      refine TK 18 (v := ?v40134) hHeld ?hy40134 ?_
      case hy40134 => (intro w hSw; (try dsimp only at hSw); go_simp <;> first | with_reducible rfl | rw [if_neg (by omega)] | rw [if_pos (by omega)])
      (try simp only [PU])
      refine TK 19 (v := ?v40135) hHeld ?hy40135 ?_
      case hy40135 => (intro w hSw; (try dsimp only at hSw); go_simp <;> first | with_reducible rfl | rw [if_neg (by omega)] | rw [if_pos (by omega)])
      (try simp only [PU])
      refine TK 20 (v := ?v40136) hHeld ?hy40136 ?_
      case hy40136 => (intro w hSw; (try dsimp only at hSw); go_simp <;> first | with_reducible rfl | rw [if_neg (by omega)] | rw [if_pos (by omega)])
      (try simp only [PU])
      refine TK 21 (v := ?v40137) hHeld ?hy40137 ?_
      case hy40137 => (intro w hSw; (try dsimp only at hSw); go_simp <;> first | with_reducible rfl | rw [if_neg (by omega)] | rw [if_pos (by omega)])
      (try simp only [PU])
      refine TK 22 (v := ?v40138) hHeld ?hy40138 ?_
      case hy40138 => (intro w hSw; (try dsimp only at hSw); go_simp <;> first | with_reducible rfl | rw [if_neg (by omega)] | rw [if_pos (by omega)])
      (try simp only [PU])
      refine TK 23 (v := ?v40139) hHeld ?hy40139 ?_
      case hy40139 => (intro w hSw; (try dsimp only at hSw); go_simp <;> first | with_reducible rfl | rw [if_neg (by omega)] | rw [if_pos (by omega)])
      (try simp only [PU])
      refine TK 24 (v := ?v40140) hHeld ?hy40140 ?_
      case hy40140 => (intro w hSw; (try dsimp only at hSw); go_simp <;> first | with_reducible rfl | rw [if_neg (by omega)] | rw [if_pos (by omega)])
      (try simp only [PU])
      refine TK 25 (v := ?v40141) hHeld ?hy40141 ?_
      case hy40141 => (intro w hSw; (try dsimp only at hSw); go_simp <;> first | with_reducible rfl | rw [if_neg (by omega)] | rw [if_pos (by omega)])
      (try simp only [PU])
      refine TK 26 (v := ?v40142) hHeld ?hy40142 ?_
      case hy40142 => (intro w hSw; (try dsimp only at hSw); go_simp <;> first | with_reducible rfl | rw [if_neg (by omega)] | rw [if_pos (by omega)])
      (try simp only [PU])
      refine TK 27 (v := ?v40143) hHeld ?hy40143 ?_
      case hy40143 => (intro w hSw; (try dsimp only at hSw); go_simp <;> first | with_reducible rfl | rw [if_neg (by omega)] | rw [if_pos (by omega)])
      (try simp only [PU])
      refine TK 28 (v := ?v40144) hHeld ?hy40144 ?_
      case hy40144 => (intro w hSw; (try dsimp only at hSw); go_simp <;> first | with_reducible rfl | rw [if_neg (by omega)] | rw [if_pos (by omega)])
      (try simp only [PU])
      refine TK 29 (v := ?v40145) hHeld ?hy40145 ?_
      case hy40145 => (intro w hSw; (try dsimp only at hSw); go_simp <;> first | with_reducible rfl | rw [if_neg (by omega)] | rw [if_pos (by omega)])
      (try simp only [PU])
      refine TK 30 (v := ?v40146) hHeld ?hy40146 ?_
      case hy40146 => (intro w hSw; (try dsimp only at hSw); go_simp <;> first | with_reducible rfl | rw [if_neg (by omega)] | rw [if_pos (by omega)])
      (try simp only [PU])
      refine TK 31 (v := ?v40147) hHeld ?hy40147 ?_
      case hy40147 => (intro w hSw; (try dsimp only at hSw); go_simp <;> first | with_reducible rfl | rw [if_neg (by omega)] | rw [if_pos (by omega)])
      (try simp only [PU])
      refine TK 32 (v := ?v40148) hHeld ?hy40148 ?_
      case hy40148 => (intro w hSw; (try dsimp only at hSw); go_simp <;> first | with_reducible rfl | rw [if_neg (by omega)] | rw [if_pos (by omega)])
      (try simp only [PU])
      refine TK 33 (v := ?v40149) hHeld ?hy40149 ?_
      case hy40149 => (intro w hSw; (try dsimp only at hSw); go_simp <;> first | with_reducible rfl | rw [if_neg (by omega)] | rw [if_pos (by omega)])
      (try simp only [PU])
      refine TK 34 (v := ?v40150) hHeld ?hy40150 ?_
      case hy40150 => (intro w hSw; (try dsimp only at hSw); go_simp <;> first | with_reducible rfl | rw [if_neg (by omega)] | rw [if_pos (by omega)])
      (try simp only [PU])
      refine TK 35 (v := ?v40151) hHeld ?hy40151 ?_
      case hy40151 => (intro w hSw; (try dsimp only at hSw); go_simp <;> first | with_reducible rfl | rw [if_neg (by omega)] | rw [if_pos (by omega)])
      (try simp only [PU])
      refine TK 36 (v := ?v40152) hHeld ?hy40152 ?_
      case hy40152 => (intro w hSw; (try dsimp only at hSw); go_simp <;> first | with_reducible rfl | rw [if_neg (by omega)] | rw [if_pos (by omega)])
      (try simp only [PU])
      refine wpAnyH_done (by kernel_rfl) ?_ _
      clear hHeld
      go_wp2_with fail
      go_ret
      exact ⟨ret_bool HT.out.symm, HX.out.trans (by solve_by_elim [X0, X1, X2, X3])⟩
    ·have gt : ((tl : Int) != (el : Int)) = true := by simp; omega
     have HT := Lib.hid (HN.out (fun hs => h3 (HP.out.1 hs).2.2.1))
     clear h1 h2 h3 HY HN HP e0 en HCF hf0 hfn MK
     go_upto_region 3 with (fail)
     refine wp_region_held_drew (S := (fun V => (V.cell? ⟨q, 0, none⟩ = some (.slice A nl k0) ∧ V.cell? ⟨q, 1, none⟩ = some (.slice (some ⟨b, o, none⟩) fl k1) ∧ V.cell? ⟨q, 2, none⟩ = some (.slice Cx tl k2) ∧ V.cell? ⟨q, 3, none⟩ = some (.slice D el k3)) ∧ V.cell? ⟨b, o, none⟩ = some (.int .i64 f0) ∧ V.cell? ⟨b, o + nl, none⟩ = some (.int .i64 fn))) (by kernel_rfl) ?hs40077 (fun hHeld => ?go40077)
     case hs40077 => (exact MKB.out _ (by solve_by_elim [X0, X1, X2, X3]))
     refine TK 0 (v := ?v40078) hHeld ?hy40078 ?_
     case hy40078 => (intro w hSw; (try dsimp only at hSw); go_simp <;> first | with_reducible rfl | rw [if_neg (by omega)] | rw [if_pos (by omega)])
     (try simp only [PU])
     refine TK 1 (v := ?v40079) hHeld ?hy40079 ?_
     case hy40079 => (intro w hSw; (try dsimp only at hSw); go_simp <;> first | with_reducible rfl | rw [if_neg (by omega)] | rw [if_pos (by omega)])
     (try simp only [PU])
     refine TK 2 (v := ?v40080) hHeld ?hy40080 ?_
     case hy40080 => (intro w hSw; (try dsimp only at hSw); go_simp <;> first | with_reducible rfl | rw [if_neg (by omega)] | rw [if_pos (by omega)])
     (try simp only [PU])
     refine TK 3 (v := ?v40081) hHeld ?hy40081 ?_
     case hy40081 => (intro w hSw; (try dsimp only at hSw); go_simp <;> first | with_reducible rfl | rw [if_neg (by omega)] | rw [if_pos (by omega)])
     (try simp only [PU])
     refine TK 4 (v := ?v40082) hHeld ?hy40082 ?_
     case hy40082 => (intro w hSw; (try dsimp only at hSw); go_simp <;> first | with_reducible rfl | rw [if_neg (by omega)] | rw [if_pos (by omega)])
     (try simp only [PU])
     refine TK 5 (v := ?v40083) hHeld ?hy40083 ?_
     case hy40083 => (intro w hSw; (try dsimp only at hSw); go_simp <;> first | with_reducible rfl | rw [if_neg (by omega)] | rw [if_pos (by omega)])
     (try simp only [PU])
     refine TK 6 (v := ?v40084) hHeld ?hy40084 ?_
     case hy40084 => (intro w hSw; (try dsimp only at hSw); go_simp <;> first | with_reducible rfl | rw [if_neg (by omega)] | rw [if_pos (by omega)])
     (try simp only [PU])
     refine TK 7 (v := ?v40085) hHeld ?hy40085 ?_
     case hy40085 => (intro w hSw; (try dsimp only at hSw); go_simp <;> first | with_reducible rfl | rw [if_neg (by omega)] | rw [if_pos (by omega)])
     (try simp only [PU])
     refine TK 8 (v := ?v40086) hHeld ?hy40086 ?_
     case hy40086 => (intro w hSw; (try dsimp only at hSw); go_simp <;> first | with_reducible rfl | rw [if_neg (by omega)] | rw [if_pos (by omega)])
     (try simp only [PU])
     refine TK 9 (v := ?v40087) hHeld ?hy40087 ?_
     case hy40087 => (intro w hSw; (try dsimp only at hSw); go_simp <;> first | with_reducible rfl | rw [if_neg (by omega)] | rw [if_pos (by omega)])
     (try simp only [PU])
     refine TK 10 (v := ?v40088) hHeld ?hy40088 ?_
     case hy40088 => (intro w hSw; (try dsimp only at hSw); go_simp <;> first | with_reducible rfl | rw [if_neg (by omega)] | rw [if_pos (by omega)])
     (try simp only [PU])
     refine TK 11 (v := ?v40089) hHeld ?hy40089 ?_
     case hy40089 => (intro w hSw; (try dsimp only at hSw); go_simp <;> first | with_reducible rfl | rw [if_neg (by omega)] | rw [if_pos (by omega)])
     (try simp only [PU])
     refine TK 12 (v := ?v40090) hHeld ?hy40090 ?_
     case hy40090 => (intro w hSw; (try dsimp only at hSw); go_simp <;> first | with_reducible rfl | rw [if_neg (by omega)] | rw [if_pos (by omega)])
     (try simp only [PU])
     refine TK 13 (v := ?v40091) hHeld ?hy40091 ?_
     case hy40091 => (intro w hSw; (try dsimp only at hSw); go_simp <;> first | with_reducible rfl | rw [if_neg (by omega)] | rw [if_pos (by omega)])
     (try simp only [PU])
     refine TK 14 (v := ?v40092) hHeld ?hy40092 ?_
     case hy40092 => (intro w hSw; (try dsimp only at hSw); go_simp <;> first | with_reducible rfl | rw [if_neg (by omega)] | rw [if_pos (by omega)])
     (try simp only [PU])
     refine TK 15 (v := ?v40093) hHeld ?hy40093 ?_
     case hy40093 => (intro w hSw; (try dsimp only at hSw); go_simp <;> first | with_reducible rfl | rw [if_neg (by omega)] | rw [if_pos (by omega)])
     (try simp only [PU])
     refine TK 16 (v := ?v40094) hHeld ?hy40094 ?_
     case hy40094 => (intro w hSw; (try dsimp only at hSw); go_simp <;> first | with_reducible rfl | rw [if_neg (by omega)] | rw [if_pos (by omega)])
     (try simp only [PU])
     refine TK 17 (v := ?v40095) hHeld ?hy40095 ?_
     case hy40095 => (intro w hSw; (try dsimp only at hSw); go_simp <;> first | with_reducible rfl | rw [if_neg (by omega)] | rw [if_pos (by omega)])
     (try simp only [PU])
     refine TK 18 (v := ?v40096) hHeld ?hy40096 ?_
     case hy40096 => (intro w hSw; (try dsimp only at hSw); go_simp <;> first | with_reducible rfl | rw [if_neg (by omega)] | rw [if_pos (by omega)])
     (try simp only [PU])
     refine TK 19 (v := ?v40097) hHeld ?hy40097 ?_
     case hy40097 => (intro w hSw; (try dsimp only at hSw); go_simp <;> first | with_reducible rfl | rw [if_neg (by omega)] | rw [if_pos (by omega)])
     (try simp only [PU])
     refine TK 20 (v := ?v40098) hHeld ?hy40098 ?_
     case hy40098 => (intro w hSw; (try dsimp only at hSw); go_simp <;> first | with_reducible rfl | rw [if_neg (by omega)] | rw [if_pos (by omega)])
     (try simp only [PU])
     refine TK 21 (v := ?v40099) hHeld ?hy40099 ?_
     case hy40099 => (intro w hSw; (try dsimp only at hSw); go_simp <;> first | with_reducible rfl | rw [if_neg (by omega)] | rw [if_pos (by omega)])
     (try simp only [PU])
     refine TK 22 (v := ?v40100) hHeld ?hy40100 ?_
     case hy40100 => (intro w hSw; (try dsimp only at hSw); go_simp <;> first | with_reducible rfl | rw [if_neg (by omega)] | rw [if_pos (by omega)])
     (try simp only [PU])
     refine TK 23 (v := ?v40101) hHeld ?hy40101 ?_
     case hy40101 => (intro w hSw; (try dsimp only at hSw); go_simp <;> first | with_reducible rfl | rw [if_neg (by omega)] | rw [if_pos (by omega)])
     (try simp only [PU])
     refine TK 24 (v := ?v40102) hHeld ?hy40102 ?_
     case hy40102 => (intro w hSw; (try dsimp only at hSw); go_simp <;> first | with_reducible rfl | rw [if_neg (by omega)] | rw [if_pos (by omega)])
     (try simp only [PU])
     refine TN 25 hHeld ?_
     (try simp only [PU])
     refine TN 26 hHeld ?_
     (try simp only [PU])
     refine TN 27 hHeld ?_
     (try simp only [PU])
     refine TN 28 hHeld ?_
     (try simp only [PU])
     refine TN 29 hHeld ?_
     (try simp only [PU])
     refine TN 30 hHeld ?_
     (try simp only [PU])
     refine TN 31 hHeld ?_
     (try simp only [PU])
     refine TN 32 hHeld ?_
     (try simp only [PU])
     refine TN 33 hHeld ?_
     (try simp only [PU])
     refine TN 34 hHeld ?_
     (try simp only [PU])
     refine TN 35 hHeld ?_
     (try simp only [PU])
     refine TK 36 (v := ?v40114) hHeld ?hy40114 ?_
     case hy40114 => (intro w hSw; (try dsimp only at hSw); go_simp <;> first | with_reducible rfl | rw [if_neg (by omega)] | rw [if_pos (by omega)])
     (try simp only [PU])
     refine wpAnyH_done (by kernel_rfl) ?_ _
     clear hHeld
     go_wp2_with fail
     go_ret
     exact ⟨ret_bool HT.out.symm, HX.out.trans (by solve_by_elim [X0, X1, X2, X3])⟩
   ·have gz : (f0 != 0) = true := by simp [h2]
    have HT := Lib.hid (HN.out (fun hs => h2 (HP.out.1 hs).2.1))
    clear h1 h2 HY HN HP e0 en HCF hf0 hfn MK
    go_upto_region 3 with (fail)
    refine wp_region_held_drew (S := (fun V => (V.cell? ⟨q, 0, none⟩ = some (.slice A nl k0) ∧ V.cell? ⟨q, 1, none⟩ = some (.slice (some ⟨b, o, none⟩) fl k1) ∧ V.cell? ⟨q, 2, none⟩ = some (.slice Cx tl k2) ∧ V.cell? ⟨q, 3, none⟩ = some (.slice D el k3)) ∧ V.cell? ⟨b, o, none⟩ = some (.int .i64 f0) ∧ V.cell? ⟨b, o + nl, none⟩ = some (.int .i64 fn))) (by kernel_rfl) ?hs40039 (fun hHeld => ?go40039)
    case hs40039 => (exact MKB.out _ (by solve_by_elim [X0, X1, X2, X3]))
    refine TK 0 (v := ?v40040) hHeld ?hy40040 ?_
    case hy40040 => (intro w hSw; (try dsimp only at hSw); go_simp <;> first | with_reducible rfl | rw [if_neg (by omega)] | rw [if_pos (by omega)])
    (try simp only [PU])
    refine TK 1 (v := ?v40041) hHeld ?hy40041 ?_
    case hy40041 => (intro w hSw; (try dsimp only at hSw); go_simp <;> first | with_reducible rfl | rw [if_neg (by omega)] | rw [if_pos (by omega)])
    (try simp only [PU])
    refine TK 2 (v := ?v40042) hHeld ?hy40042 ?_
    case hy40042 => (intro w hSw; (try dsimp only at hSw); go_simp <;> first | with_reducible rfl | rw [if_neg (by omega)] | rw [if_pos (by omega)])
    (try simp only [PU])
    refine TK 3 (v := ?v40043) hHeld ?hy40043 ?_
    case hy40043 => (intro w hSw; (try dsimp only at hSw); go_simp <;> first | with_reducible rfl | rw [if_neg (by omega)] | rw [if_pos (by omega)])
    (try simp only [PU])
    refine TK 4 (v := ?v40044) hHeld ?hy40044 ?_
    case hy40044 => (intro w hSw; (try dsimp only at hSw); go_simp <;> first | with_reducible rfl | rw [if_neg (by omega)] | rw [if_pos (by omega)])
    (try simp only [PU])
    refine TK 5 (v := ?v40045) hHeld ?hy40045 ?_
    case hy40045 => (intro w hSw; (try dsimp only at hSw); go_simp <;> first | with_reducible rfl | rw [if_neg (by omega)] | rw [if_pos (by omega)])
    (try simp only [PU])
    refine TK 6 (v := ?v40046) hHeld ?hy40046 ?_
    case hy40046 => (intro w hSw; (try dsimp only at hSw); go_simp <;> first | with_reducible rfl | rw [if_neg (by omega)] | rw [if_pos (by omega)])
    (try simp only [PU])
    refine TK 7 (v := ?v40047) hHeld ?hy40047 ?_
    case hy40047 => (intro w hSw; (try dsimp only at hSw); go_simp <;> first | with_reducible rfl | rw [if_neg (by omega)] | rw [if_pos (by omega)])
    (try simp only [PU])
    refine TK 8 (v := ?v40048) hHeld ?hy40048 ?_
    case hy40048 => (intro w hSw; (try dsimp only at hSw); go_simp <;> first | with_reducible rfl | rw [if_neg (by omega)] | rw [if_pos (by omega)])
    (try simp only [PU])
    refine TK 9 (v := ?v40049) hHeld ?hy40049 ?_
    case hy40049 => (intro w hSw; (try dsimp only at hSw); go_simp <;> first | with_reducible rfl | rw [if_neg (by omega)] | rw [if_pos (by omega)])
    (try simp only [PU])
    refine TK 10 (v := ?v40050) hHeld ?hy40050 ?_
    case hy40050 => (intro w hSw; (try dsimp only at hSw); go_simp <;> first | with_reducible rfl | rw [if_neg (by omega)] | rw [if_pos (by omega)])
    (try simp only [PU])
    refine TK 11 (v := ?v40051) hHeld ?hy40051 ?_
    case hy40051 => (intro w hSw; (try dsimp only at hSw); go_simp <;> first | with_reducible rfl | rw [if_neg (by omega)] | rw [if_pos (by omega)])
    (try simp only [PU])
    refine TK 12 (v := ?v40052) hHeld ?hy40052 ?_
    case hy40052 => (intro w hSw; (try dsimp only at hSw); go_simp <;> first | with_reducible rfl | rw [if_neg (by omega)] | rw [if_pos (by omega)])
    (try simp only [PU])
    refine TK 13 (v := ?v40053) hHeld ?hy40053 ?_
    case hy40053 => (intro w hSw; (try dsimp only at hSw); go_simp <;> first | with_reducible rfl | rw [if_neg (by omega)] | rw [if_pos (by omega)])
    (try simp only [PU])
    refine TK 14 (v := ?v40054) hHeld ?hy40054 ?_
    case hy40054 => (intro w hSw; (try dsimp only at hSw); go_simp <;> first | with_reducible rfl | rw [if_neg (by omega)] | rw [if_pos (by omega)])
    (try simp only [PU])
    refine TK 15 (v := ?v40055) hHeld ?hy40055 ?_
    case hy40055 => (intro w hSw; (try dsimp only at hSw); go_simp <;> first | with_reducible rfl | rw [if_neg (by omega)] | rw [if_pos (by omega)])
    (try simp only [PU])
    refine TN 16 hHeld ?_
    (try simp only [PU])
    refine TN 17 hHeld ?_
    (try simp only [PU])
    refine TN 18 hHeld ?_
    (try simp only [PU])
    refine TN 19 hHeld ?_
    (try simp only [PU])
    refine TN 20 hHeld ?_
    (try simp only [PU])
    refine TN 21 hHeld ?_
    (try simp only [PU])
    refine TN 22 hHeld ?_
    (try simp only [PU])
    refine TK 23 (v := ?v40063) hHeld ?hy40063 ?_
    case hy40063 => (intro w hSw; (try dsimp only at hSw); go_simp <;> first | with_reducible rfl | rw [if_neg (by omega)] | rw [if_pos (by omega)])
    (try simp only [PU])
    refine TK 24 (v := ?v40064) hHeld ?hy40064 ?_
    case hy40064 => (intro w hSw; (try dsimp only at hSw); go_simp <;> first | with_reducible rfl | rw [if_neg (by omega)] | rw [if_pos (by omega)])
    (try simp only [PU])
    refine TN 25 hHeld ?_
    (try simp only [PU])
    refine TN 26 hHeld ?_
    (try simp only [PU])
    refine TN 27 hHeld ?_
    (try simp only [PU])
    refine TN 28 hHeld ?_
    (try simp only [PU])
    refine TN 29 hHeld ?_
    (try simp only [PU])
    refine TN 30 hHeld ?_
    (try simp only [PU])
    refine TN 31 hHeld ?_
    (try simp only [PU])
    refine TN 32 hHeld ?_
    (try simp only [PU])
    refine TN 33 hHeld ?_
    (try simp only [PU])
    refine TN 34 hHeld ?_
    (try simp only [PU])
    refine TN 35 hHeld ?_
    (try simp only [PU])
    refine TK 36 (v := ?v40076) hHeld ?hy40076 ?_
    case hy40076 => (intro w hSw; (try dsimp only at hSw); go_simp <;> first | with_reducible rfl | rw [if_neg (by omega)] | rw [if_pos (by omega)])
    (try simp only [PU])
    refine wpAnyH_done (by kernel_rfl) ?_ _
    clear hHeld
    go_wp2_with fail
    go_ret
    exact ⟨ret_bool HT.out.symm, HX.out.trans (by solve_by_elim [X0, X1, X2, X3])⟩
  ·have gl : ((fl : Int) != ((nl + 1 : Nat) : Int)) = true := by simp; omega
   have gl' : ((fl : Int) != (nl : Int) + 1) = true := by simp; omega
   have HT := Lib.hid (HN.out (fun hs => h1 (HP.out.1 hs).1))
   clear h1 HY HN HP HF HFL
   go_upto_region 3 with (fail)
   refine wp_region_held_drew (S := (fun V => (V.cell? ⟨q, 0, none⟩ = some (.slice A nl k0) ∧ V.cell? ⟨q, 1, none⟩ = some (.slice B fl k1) ∧ V.cell? ⟨q, 2, none⟩ = some (.slice Cx tl k2) ∧ V.cell? ⟨q, 3, none⟩ = some (.slice D el k3)))) (by kernel_rfl) ?hs40001 (fun hHeld => ?go40001)
   case hs40001 => (exact MK.out _ (by solve_by_elim [X0, X1, X2, X3]))
   refine TK 0 (v := ?v40002) hHeld ?hy40002 ?_
   case hy40002 => (intro w hSw; (try dsimp only at hSw); go_simp <;> first | with_reducible rfl | rw [if_neg (by omega)] | rw [if_pos (by omega)])
   (try simp only [PU])
   refine TK 1 (v := ?v40003) hHeld ?hy40003 ?_
   case hy40003 => (intro w hSw; (try dsimp only at hSw); go_simp <;> first | with_reducible rfl | rw [if_neg (by omega)] | rw [if_pos (by omega)])
   (try simp only [PU])
   refine TK 2 (v := ?v40004) hHeld ?hy40004 ?_
   case hy40004 => (intro w hSw; (try dsimp only at hSw); go_simp <;> first | with_reducible rfl | rw [if_neg (by omega)] | rw [if_pos (by omega)])
   (try simp only [PU])
   refine TK 3 (v := ?v40005) hHeld ?hy40005 ?_
   case hy40005 => (intro w hSw; (try dsimp only at hSw); go_simp <;> first | with_reducible rfl | rw [if_neg (by omega)] | rw [if_pos (by omega)])
   (try simp only [PU])
   refine TK 4 (v := ?v40006) hHeld ?hy40006 ?_
   case hy40006 => (intro w hSw; (try dsimp only at hSw); go_simp <;> first | with_reducible rfl | rw [if_neg (by omega)] | rw [if_pos (by omega)])
   (try simp only [PU])
   refine TK 5 (v := ?v40007) hHeld ?hy40007 ?_
   case hy40007 => (intro w hSw; (try dsimp only at hSw); go_simp <;> first | with_reducible rfl | rw [if_neg (by omega)] | rw [if_pos (by omega)])
   (try simp only [PU])
   refine TK 6 (v := ?v40008) hHeld ?hy40008 ?_
   case hy40008 => (intro w hSw; (try dsimp only at hSw); go_simp <;> first | with_reducible rfl | rw [if_neg (by omega)] | rw [if_pos (by omega)])
   (try simp only [PU])
   refine TK 7 (v := ?v40009) hHeld ?hy40009 ?_
   case hy40009 => (intro w hSw; (try dsimp only at hSw); go_simp <;> first | with_reducible rfl | rw [if_neg (by omega)] | rw [if_pos (by omega)])
   (try simp only [PU])
   refine TK 8 (v := ?v40010) hHeld ?hy40010 ?_
   case hy40010 => (intro w hSw; (try dsimp only at hSw); go_simp <;> first | with_reducible rfl | rw [if_neg (by omega)] | rw [if_pos (by omega)])
   (try simp only [PU])
   refine TN 9 hHeld ?_
   (try simp only [PU])
   refine TN 10 hHeld ?_
   (try simp only [PU])
   refine TN 11 hHeld ?_
   (try simp only [PU])
   refine TN 12 hHeld ?_
   (try simp only [PU])
   refine TN 13 hHeld ?_
   (try simp only [PU])
   refine TK 14 (v := ?v40016) hHeld ?hy40016 ?_
   case hy40016 => (intro w hSw; (try dsimp only at hSw); go_simp <;> first | with_reducible rfl | rw [if_neg (by omega)] | rw [if_pos (by omega)])
   (try simp only [PU])
   refine TK 15 (v := ?v40017) hHeld ?hy40017 ?_
   case hy40017 => (intro w hSw; (try dsimp only at hSw); go_simp <;> first | with_reducible rfl | rw [if_neg (by omega)] | rw [if_pos (by omega)])
   (try simp only [PU])
   refine TN 16 hHeld ?_
   (try simp only [PU])
   refine TN 17 hHeld ?_
   (try simp only [PU])
   refine TN 18 hHeld ?_
   (try simp only [PU])
   refine TN 19 hHeld ?_
   (try simp only [PU])
   refine TN 20 hHeld ?_
   (try simp only [PU])
   refine TN 21 hHeld ?_
   (try simp only [PU])
   refine TN 22 hHeld ?_
   (try simp only [PU])
   refine TK 23 (v := ?v40025) hHeld ?hy40025 ?_
   case hy40025 => (intro w hSw; (try dsimp only at hSw); go_simp <;> first | with_reducible rfl | rw [if_neg (by omega)] | rw [if_pos (by omega)])
   (try simp only [PU])
   refine TK 24 (v := ?v40026) hHeld ?hy40026 ?_
   case hy40026 => (intro w hSw; (try dsimp only at hSw); go_simp <;> first | with_reducible rfl | rw [if_neg (by omega)] | rw [if_pos (by omega)])
   (try simp only [PU])
   refine TN 25 hHeld ?_
   (try simp only [PU])
   refine TN 26 hHeld ?_
   (try simp only [PU])
   refine TN 27 hHeld ?_
   (try simp only [PU])
   refine TN 28 hHeld ?_
   (try simp only [PU])
   refine TN 29 hHeld ?_
   (try simp only [PU])
   refine TN 30 hHeld ?_
   (try simp only [PU])
   refine TN 31 hHeld ?_
   (try simp only [PU])
   refine TN 32 hHeld ?_
   (try simp only [PU])
   refine TN 33 hHeld ?_
   (try simp only [PU])
   refine TN 34 hHeld ?_
   (try simp only [PU])
   refine TN 35 hHeld ?_
   (try simp only [PU])
   refine TK 36 (v := ?v40038) hHeld ?hy40038 ?_
   case hy40038 => (intro w hSw; (try dsimp only at hSw); go_simp <;> first | with_reducible rfl | rw [if_neg (by omega)] | rw [if_pos (by omega)])
   (try simp only [PU])
   refine wpAnyH_done (by kernel_rfl) ?_ _
   clear hHeld
   go_wp2_with fail
   go_ret
   exact ⟨ret_bool HT.out.symm, HX.out.trans (by solve_by_elim [X0, X1, X2, X3])⟩
end Go.Proofs.YtnheioehadldmaaGreat

/- THE WALKS over column.unpack and the reference's flat. -/
namespace Go.Proofs.YtnheioehadldmaaGreat
open Go.RowKit
theorem adj_cell {W : World} {g : Nat} {x y z : Int} (h0 : W.cell? ⟨g, 0, none⟩ = some (.int .i64 x)) (h1 : W.cell? ⟨g, 1, none⟩ = some (.int .i64 y)) (h2 : W.cell? ⟨g, 2, none⟩ = some (.int .i64 z)) : ∀ j u, (KA.enc (⟨x, y, z⟩ : Sh))[j]? = some u → W.cell? ((⟨g, 0, none⟩ : Addr).add j) = some u := fun j u hu => by
 rw [Addr.add_mid, Nat.zero_add]
 match j, hu with
 | 0, hu => rw [h0]; exact hu
 | 1, hu => rw [h1]; exact hu
 | 2, hu => rw [h2]; exact hu
 | j + 3, hu => cases hu
set_option maxRecDepth 100000 in
set_option maxHeartbeats 3200000 in
theorem co_unpack (c : Col) (ok : Nat → Prop) (A B Cx D : Option Addr) (k0 k1 k2 k3 : Nat) (w : World) (hv : ColAt w ok A B Cx D c) (hs : shapeP c) (hm : c.tos.length ≤ 8000000) :
  Calls Tryz.prog 44 #[agC c A B Cx D k0 k1 k2 k3] w fun e w' => ∃ A' c', e = .returned (.slice A' (flatC c).length c') ∧ (flatC c).length ≤ c' ∧ Shares w' (fun b => w.heap.size ≤ b) A' (flatC c) ∧ Ext w w' := by
 obtain ⟨q, w1, hq, hw1, ⟨a0, a1, a2, a3⟩, hx⟩ := box_col w c A B Cx D k0 k1 k2 k3 29
 have HW := Lib.hid hw1
 have HQ := Lib.hid hq
 have HX := Lib.hid hx
 have hnl := hv.n.len
 have HV := Lib.hid (hv.ext hx)
 obtain ⟨R, hR⟩ : ∃ R, R = flatC c := ⟨_, rfl⟩
 rw [← hR]
 have HR := Lib.hid hR
 clear hw1 hq hv hx hR
 unfold agC
 go_enter Tryz.func44, Tryz.ntmps44
 go_upto_region 1 with (fail)
 rw [← HW.out, ← HQ.out]
 clear HW HQ
 by_cases hn0 : c.nodes.length = 0
 ·have hz : R = [] := by
   rw [HR.out]; unfold flatC; rw [hn0]; rfl
  subst hz
  clear HV HR
  generalize c.nodes.length = nl at *
  subst hn0
  go_wp2_with fail
  go_loopw [3, 10] (fun v u W => ∃ (_ : Nat), v = .slice none 0 0 ∧ u = .int .i64 0 ∧ Hid (Ext w1 W)) (fun _ _ _ => 0)
  case atStart => exact ⟨0, rfl, rfl, Lib.hid (by solve_by_elim [X0, X1, X2, X3])⟩
  case round =>
   obtain ⟨-, rfl, rfl, hE⟩ := hrel
   replace a0 := hE.out.cell a0
   go_wp2_with fail
   go_ret
   exact ⟨none, 0, rfl, Nat.le_refl _, SliceR.nil _ _ _, HX.out.trans hE.out⟩
 ·have hS : ShapeC c := by
   rcases hs with ⟨h1, -⟩ | h1
   ·exact absurd (by rw [h1]; rfl) hn0
   ·exact h1
  have hfl : c.nodes.length + 1 ≤ c.first.length := by have := hS.len; omega
  have hel : c.tos.length ≤ c.edges.length := by have := hS.same; omega
  have hlast := hS.lt (i := 0) (j := c.nodes.length) (by omega) (Nat.le_refl _)
  rw [hS.zero, hS.last] at hlast
  obtain ⟨bn, on, rfl, hcn⟩ := HV.out.n.2 (by omega)
  obtain ⟨bf, of, rfl, hcf⟩ := HV.out.f.2 (by omega)
  obtain ⟨bt, ot, rfl, hct⟩ := HV.out.t.2 (by omega)
  obtain ⟨be, oe, rfl, hce⟩ := HV.out.e.2 (by omega)
  have HN := Lib.hid (fun t (ht : t < c.nodes.length) W (e : Ext w1 W) => (by have h := (hcn t ht).2; rw [Nat.mul_one, ← getElem!_pos _ t ht] at h; exact e.cell h : W.cell? ⟨bn, on + t, none⟩ = some (.int .i64 c.nodes[t]!)))
  have HF := Lib.hid (fun t (ht : t < c.first.length) W (e : Ext w1 W) => (by have h := (hcf t ht).2; rw [Nat.mul_one, ← getElem!_pos _ t ht] at h; exact e.cell h : W.cell? ⟨bf, of + t, none⟩ = some (.int .i64 c.first[t]!)))
  have HT := Lib.hid (fun t (ht : t < c.tos.length) W (e : Ext w1 W) => (by have h := (hct t ht).2; rw [Nat.mul_one, ← getElem!_pos _ t ht] at h; exact e.cell h : W.cell? ⟨bt, ot + t, none⟩ = some (.int .i64 c.tos[t]!)))
  have HEE := Lib.hid (fun t (ht : t < c.edges.length) W (e : Ext w1 W) => (by have h := (hce t ht).2; rw [Nat.mul_one, ← getElem!_pos _ t ht] at h; exact e.cell h : W.cell? ⟨be, oe + t, none⟩ = some (.int .i64 c.edges[t]!)))
  have MKQ := Lib.hid (fun V (e : Ext w1 V) => (⟨e.cell a0, e.cell a1, e.cell a2, e.cell a3⟩ : (V.cell? ⟨q, 0, none⟩ = some (.slice (some ⟨bn, on, none⟩) c.nodes.length k0) ∧ V.cell? ⟨q, 1, none⟩ = some (.slice (some ⟨bf, of, none⟩) c.first.length k1) ∧ V.cell? ⟨q, 2, none⟩ = some (.slice (some ⟨bt, ot, none⟩) c.tos.length k2) ∧ V.cell? ⟨q, 3, none⟩ = some (.slice (some ⟨be, oe, none⟩) c.edges.length k3))))
  have HS := Lib.hid hS
  clear hcn hcf hct hce HV hn0 hlast
  go_wp2_with fail
  go_loopw [3, 10] (fun v3 u W => ∃ (vO : Value) (i : Nat), vO = v3 ∧ u = .int .i64 i ∧ i ≤ c.nodes.length ∧ Hid (OA W w1.heap.size vO (flatK c i)) ∧ Hid (Ext w1 W)) (fun _ u _ => c.nodes.length - (intOf u).toNat)
  case atStart => exact ⟨_, 0, rfl, rfl, Nat.zero_le _, Lib.hid (OwnG.nil _ _ _ _ _), Lib.hid (by solve_by_elim [X0, X1, X2, X3])⟩
  case round =>
   obtain ⟨vO, i, rfl, rfl, hi, HO, hE⟩ := hrel
   obtain ⟨a0, a1, a2, a3⟩ := MKQ.out wr hE.out
   by_cases hlt : i < c.nodes.length
   ·obtain ⟨nv, hnv⟩ : ∃ nv, nv = c.nodes[i]! := ⟨_, rfl⟩
    have HCN := Lib.hid (HN.out i hlt)
    rw [← hnv] at HCN
    have n0 := HCN.out wr hE.out
    have f0 := HF.out i (by omega) wr hE.out
    have hi1 : i + 1 < c.first.length := by omega
    have hi0 : i < c.first.length := by omega
    obtain ⟨x, hx⟩ : ∃ x : Nat, x = c.first[i]!.toNat := ⟨_, rfl⟩
    obtain ⟨y, hy⟩ : ∃ y : Nat, y = c.first[i + 1]!.toNat := ⟨_, rfl⟩
    have ex : c.first[i]! = (x : Int) := by have := HS.out.nn (i := i) (by omega); omega
    have ey : c.first[i + 1]! = (y : Int) := by have := HS.out.nn (i := i + 1) (by omega); omega
    have hxy : x ≤ y := by have := HS.out.rise i hlt; omega
    have hyt : y ≤ c.tos.length := by have := HS.out.le (i := i + 1) (by omega); omega
    have hlx := flatK_len HS.out hi
    have wi : IntKind.i64.wrap ((i : Int) + 1) = ((i + 1 : Nat) : Int) := by rw [IntKind.wrap_i64]; omega
    have HFN := Lib.hid (fun W (e : Ext w1 W) => (by have h := HF.out (i + 1) hi1 W e; rw [ey] at h; exact h : W.cell? ⟨bf, of + (i + 1), none⟩ = some (.int .i64 (y : Int))))
    have HSC := Lib.hid (flatK_succ c i)
    rw [← hy] at HSC
    have HRS := Lib.hid (fun k (hk : x ≤ k) => ((rowK_snoc (c := c) (i := i) (k := k) (by omega)).trans (by rw [hnv]; rfl) : rowK c i (k + 1) = rowK c i k ++ [(⟨nv, c.tos[k]!, c.edges[k]!⟩ : Sh)]))
    have HR0 := Lib.hid (by rw [hx]; exact rowK_start c i : rowK c i x = [])
    have HRL := Lib.hid (fun k => (by unfold rowK; rw [List.length_map, List.length_range', ← hx] : (rowK c i k).length = k - x))
    rw [← hx] at hlx
    have HLX := Lib.hid hlx
    clear hlx
    rw [ex] at f0
    have HE0 := hE
    have HO0 := Lib.hid (by rw [HR0.out, List.append_nil]; exact HO.out : OA wr w1.heap.size vO (flatK c i ++ rowK c i x))
    clear hx hy ex ey HO hE HR0 hnv
    go_wp2_with fail
    go_loopw [3, 6] (fun v3 u W => ∃ (vO : Value) (k : Nat), vO = v3 ∧ u = .int .i64 k ∧ x ≤ k ∧ k ≤ y ∧ Hid (OA W w1.heap.size vO (flatK c i ++ rowK c i k)) ∧ Hid (Ext w1 W)) (fun _ u _ => y - (intOf u).toNat)
    case atStart => exact ⟨_, x, rfl, rfl, Nat.le_refl _, hxy, HO0, HE0⟩
    case round =>
     clear HO0 HE0 a0 a1 a2 a3 n0 f0
     obtain ⟨vO, k, rfl, rfl, hxk, hky, HO, hE⟩ := hrel
     obtain ⟨a0, a1, a2, a3⟩ := MKQ.out wr hE.out
     have f1 := HFN.out wr hE.out
     by_cases hky' : k < y
     ·have hkt : k < c.tos.length := by omega
      have hke : k < c.edges.length := by omega
      have HCT := Lib.hid (HT.out k hkt)
      have HCE := Lib.hid (HEE.out k hke)
      have hl8 : (flatK c i ++ rowK c i k).length + 1 ≤ 8388608 := by rw [List.length_append, HLX.out, HRL.out]; omega
      have HSN := Lib.hid (by rw [HRS.out k hxk, List.append_assoc] : flatK c i ++ rowK c i (k + 1) = flatK c i ++ rowK c i k ++ [(⟨nv, c.tos[k]!, c.edges[k]!⟩ : Sh)])
      generalize c.tos[k]! = tv at *
      generalize c.edges[k]! = ev at *
      have MK := Lib.hid (fun V (e : Ext wr V) => (⟨MKQ.out V (hE.out.trans e), HCT.out V (hE.out.trans e), HCE.out V (hE.out.trans e)⟩ : (V.cell? ⟨q, 0, none⟩ = some (.slice (some ⟨bn, on, none⟩) c.nodes.length k0) ∧ V.cell? ⟨q, 1, none⟩ = some (.slice (some ⟨bf, of, none⟩) c.first.length k1) ∧ V.cell? ⟨q, 2, none⟩ = some (.slice (some ⟨bt, ot, none⟩) c.tos.length k2) ∧ V.cell? ⟨q, 3, none⟩ = some (.slice (some ⟨be, oe, none⟩) c.edges.length k3)) ∧ V.cell? ⟨bt, ot + k, none⟩ = some (.int .i64 tv) ∧ V.cell? ⟨be, oe + k, none⟩ = some (.int .i64 ev)))
      go_upto_region 8 with (fail)
      refine wp_region_held_drew (S := (fun V => (V.cell? ⟨q, 0, none⟩ = some (.slice (some ⟨bn, on, none⟩) c.nodes.length k0) ∧ V.cell? ⟨q, 1, none⟩ = some (.slice (some ⟨bf, of, none⟩) c.first.length k1) ∧ V.cell? ⟨q, 2, none⟩ = some (.slice (some ⟨bt, ot, none⟩) c.tos.length k2) ∧ V.cell? ⟨q, 3, none⟩ = some (.slice (some ⟨be, oe, none⟩) c.edges.length k3)) ∧ V.cell? ⟨bt, ot + k, none⟩ = some (.int .i64 tv) ∧ V.cell? ⟨be, oe + k, none⟩ = some (.int .i64 ev))) (by kernel_rfl) ?hs44001 (fun hHeld => ?go44001)
      case hs44001 => (first | exact MK.out _ (by solve_by_elim [X0, X1, X2, X3]) | exact MK6.out _ (by solve_by_elim [X0, X1, X2, X3]))
      refine TK 0 (v := ?v44002) hHeld ?hy44002 ?_
      case hy44002 => (intro w hSw; (try dsimp only at hSw); go_simp <;> first | with_reducible rfl | rw [if_neg (by omega)] | rw [if_pos (by omega)])
      (try simp only [PU])
      refine TK 1 (v := ?v44003) hHeld ?hy44003 ?_
      case hy44003 => (intro w hSw; (try dsimp only at hSw); go_simp <;> first | with_reducible rfl | rw [if_neg (by omega)] | rw [if_pos (by omega)])
      (try simp only [PU])
      refine TK 2 (v := ?v44004) hHeld ?hy44004 ?_
      case hy44004 => (intro w hSw; (try dsimp only at hSw); go_simp <;> first | with_reducible rfl | rw [if_neg (by omega)] | rw [if_pos (by omega)])
      (try simp only [PU])
      refine TK 3 (v := ?v44005) hHeld ?hy44005 ?_
      case hy44005 => (intro w hSw; (try dsimp only at hSw); go_simp <;> first | with_reducible rfl | rw [if_neg (by omega)] | rw [if_pos (by omega)])
      (try simp only [PU])
      refine TK 4 (v := ?v44006) hHeld ?hy44006 ?_
      case hy44006 => (intro w hSw; (try dsimp only at hSw); go_simp <;> first | with_reducible rfl | rw [if_neg (by omega)] | rw [if_pos (by omega)])
      (try simp only [PU])
      refine TK 5 (v := ?v44007) hHeld ?hy44007 ?_
      case hy44007 => (intro w hSw; (try dsimp only at hSw); go_simp <;> first | with_reducible rfl | rw [if_neg (by omega)] | rw [if_pos (by omega)])
      (try simp only [PU])
      refine TK 6 (v := ?v44008) hHeld ?hy44008 ?_
      case hy44008 => (intro w hSw; (try dsimp only at hSw); go_simp <;> first | with_reducible rfl | rw [if_neg (by omega)] | rw [if_pos (by omega)])
      (try simp only [PU])
      refine TK 7 (v := ?v44009) hHeld ?hy44009 ?_
      case hy44009 => (intro w hSw; (try dsimp only at hSw); go_simp <;> first | with_reducible rfl | rw [if_neg (by omega)] | rw [if_pos (by omega)])
      (try simp only [PU])
      refine TK 8 (v := ?v44010) hHeld ?hy44010 ?_
      case hy44010 => (intro w hSw; (try dsimp only at hSw); go_simp <;> first | with_reducible rfl | rw [if_neg (by omega)] | rw [if_pos (by omega)])
      (try simp only [PU])
      refine TK 9 (v := ?v44011) hHeld ?hy44011 ?_
      case hy44011 => (intro w hSw; (try dsimp only at hSw); go_simp <;> first | with_reducible rfl | rw [if_neg (by omega)] | rw [if_pos (by omega)])
      (try simp only [PU])
      refine TK 10 (v := ?v44012) hHeld ?hy44012 ?_
      case hy44012 => (intro w hSw; (try dsimp only at hSw); go_simp <;> first | with_reducible rfl | rw [if_neg (by omega)] | rw [if_pos (by omega)])
      (try simp only [PU])
      refine TK 11 (v := ?v44013) hHeld ?hy44013 ?_
      case hy44013 => (intro w hSw; (try dsimp only at hSw); go_simp <;> first | with_reducible rfl | rw [if_neg (by omega)] | rw [if_pos (by omega)])
      (try simp only [PU])
      refine TK 12 (v := ?v44014) hHeld ?hy44014 ?_
      case hy44014 => (intro w hSw; (try dsimp only at hSw); go_simp <;> first | with_reducible rfl | rw [if_neg (by omega)] | rw [if_pos (by omega)])
      (try simp only [PU])
      refine wpAnyH_ready (rs := [13]) (by kernel_rfl) (by simp) ?_
      refine AllReadyH.cons (o := ⟨_, _, _, _, _, _⟩) rfl (fun K hK => ?step44015x0) ?more44015x0
      case more44015x0 => exact AllReadyH.nil
      go_simp
      refine hK.out _ _ ?hS44015x0 (fun H44015 => ?_)
      case hS44015x0 => first | (first | exact MK.out _ (by solve_by_elim [X0, X1, X2, X3]) | exact MK6.out _ (by solve_by_elim [X0, X1, X2, X3])) | ((try dsimp only); (first | exact MK.out _ (by solve_by_elim [X0, X1, X2, X3]) | exact MK6.out _ (by solve_by_elim [X0, X1, X2, X3])))
      clear hK K
      clear hHeld
      (try simp only [PU])
      refine wpAnyH_ready (rs := [14]) (by kernel_rfl) (by simp) ?_
      refine AllReadyH.cons (o := ⟨_, _, _, _, _, _⟩) rfl (fun K hK => ?step44016x0) ?more44016x0
      case more44016x0 => exact AllReadyH.nil
      (refine step_pushAt (v := vO) (hs := flatK c i ++ rowK c i k) T_ka rfl (.tmp 30) (.tmp 43) rfl rfl (OwnG.ext HO.out (by solve_by_elim [X0, X1, X2, X3])) (Nat.le_trans hE.out.le (Ext.le (a := wr) (by solve_by_elim [X0, X1, X2, X3]))) (⟨nv, tv, ev⟩ : Sh) trivial ⟨_, 0, none⟩ 1 rfl (adj_cell (by go_simp) (by go_simp) (by go_simp)) hl8 (by decide) ?_; intro v6 w6 hO6 hg6 hd6; have hE6 : Ext w1 w6 := (hE.out.trans (show Ext wr _ from (by solve_by_elim [X0, X1, X2, X3]))).grown hg6 (fun g e => (OwnG.lt HO.out e).1); have HO6 := Lib.hid hO6; have HE6 := Lib.hid hE6; have MK6 := Lib.hid (fun V (e : Ext w6 V) => (⟨MKQ.out V (HE6.out.trans e), (HCT.out V (HE6.out.trans e)), (HCE.out V (HE6.out.trans e))⟩ : (V.cell? ⟨q, 0, none⟩ = some (.slice (some ⟨bn, on, none⟩) c.nodes.length k0) ∧ V.cell? ⟨q, 1, none⟩ = some (.slice (some ⟨bf, of, none⟩) c.first.length k1) ∧ V.cell? ⟨q, 2, none⟩ = some (.slice (some ⟨bt, ot, none⟩) c.tos.length k2) ∧ V.cell? ⟨q, 3, none⟩ = some (.slice (some ⟨be, oe, none⟩) c.edges.length k3)) ∧ V.cell? ⟨bt, ot + k, none⟩ = some (.int .i64 tv) ∧ V.cell? ⟨be, oe + k, none⟩ = some (.int .i64 ev))); clear hO6 hg6 hd6 hE6)
      refine hK.out _ _ ?hS44016x0 (fun H44016 => ?_)
      case hS44016x0 => first | (first | exact MK.out _ (by solve_by_elim [X0, X1, X2, X3]) | exact MK6.out _ (by solve_by_elim [X0, X1, X2, X3])) | ((try dsimp only); (first | exact MK.out _ (by solve_by_elim [X0, X1, X2, X3]) | exact MK6.out _ (by solve_by_elim [X0, X1, X2, X3])))
      clear hK K
      clear H44015
      (try simp only [PU])
      refine TK 15 (v := ?v44017) H44016 ?hy44017 ?_
      case hy44017 => (intro w hSw; (try dsimp only at hSw); go_simp <;> first | with_reducible rfl | rw [if_neg (by omega)] | rw [if_pos (by omega)])
      (try simp only [PU])
      refine wpAnyH_done (by kernel_rfl) ?_ _
      clear H44016
      go_wp2_with fail
      go_roundw
      case rel => exact ⟨_, k + 1, rfl, by go_num, by omega, by omega, Lib.hid (by rw [HSN.out]; exact HO6.out), HE6⟩
      case measure => simp [intOf]; omega
     ·have hke : k = y := by omega
      have HOF := Lib.hid (by rw [HSC.out, ← hke]; exact HO.out : OA wr w1.heap.size vO (flatK c (i + 1)))
      clear hke HO
      go_wp2_with fail
      go_roundw
      case rel => exact ⟨_, i + 1, rfl, by go_num, by omega, HOF, hE⟩
      case measure => simp [intOf]; omega
   ·have hke : i = c.nodes.length := by omega
    have HOF := Lib.hid (by have h := HO.out; rw [hke] at h; rw [HR.out]; exact h : OA wr w1.heap.size vO R)
    have hRl : R.length = c.tos.length := by rw [HR.out]; exact flatC_len HS.out
    obtain ⟨A9, c9, e9, h9, hV9⟩ := OA.shares HOF.out (by omega)
    have HV9 := Lib.hid hV9
    have HLE := Lib.hid HX.out.le
    subst e9
    clear HO HOF hV9 hke HR
    go_wp2_with fail
    go_ret
    exact ⟨A9, c9, rfl, h9, SliceR.mono HV9.out (fun _ _ _ _ hx => ⟨Nat.le_trans HLE.out hx.1, hx.2⟩), HX.out.trans hE.out⟩
set_option maxRecDepth 100000 in
set_option maxHeartbeats 3200000 in
theorem r12_flat (c : Col) (ok : Nat → Prop) (A B Cx D : Option Addr) (k0 k1 k2 k3 : Nat) (w : World) (hv : ColAt w ok A B Cx D c) (hs : shapeP c) (hm : c.tos.length ≤ 8000000) :
  Calls Tryz.prog 64 #[agC c A B Cx D k0 k1 k2 k3] w fun e w' => ∃ A' c', e = .returned (.slice A' (flatC c).length c') ∧ (flatC c).length ≤ c' ∧ Shares w' (fun b => w.heap.size ≤ b) A' (flatC c) ∧ Ext w w' := by
 obtain ⟨q, w1, hq, hw1, ⟨a0, a1, a2, a3⟩, hx⟩ := box_col w c A B Cx D k0 k1 k2 k3 29
 have HW := Lib.hid hw1
 have HQ := Lib.hid hq
 have HX := Lib.hid hx
 have hnl := hv.n.len
 have HV := Lib.hid (hv.ext hx)
 obtain ⟨R, hR⟩ : ∃ R, R = flatC c := ⟨_, rfl⟩
 rw [← hR]
 have HR := Lib.hid hR
 clear hw1 hq hv hx hR
 unfold agC
 go_enter Tryz.func64, Tryz.ntmps64
 go_upto_region 1 with (fail)
 rw [← HW.out, ← HQ.out]
 clear HW HQ
 by_cases hn0 : c.nodes.length = 0
 ·have hz : R = [] := by
   rw [HR.out]; unfold flatC; rw [hn0]; rfl
  subst hz
  clear HV HR
  generalize c.nodes.length = nl at *
  subst hn0
  go_wp2_with fail
  go_loopw [3, 4] (fun v u W => ∃ (_ : Nat), v = .slice none 0 0 ∧ u = .int .i64 0 ∧ Hid (Ext w1 W)) (fun _ _ _ => 0)
  case atStart => exact ⟨0, rfl, rfl, Lib.hid (by solve_by_elim [X0, X1, X2, X3])⟩
  case round =>
   obtain ⟨-, rfl, rfl, hE⟩ := hrel
   replace a0 := hE.out.cell a0
   go_wp2_with fail
   go_ret
   exact ⟨none, 0, rfl, Nat.le_refl _, SliceR.nil _ _ _, HX.out.trans hE.out⟩
 ·have hS : ShapeC c := by
   rcases hs with ⟨h1, -⟩ | h1
   ·exact absurd (by rw [h1]; rfl) hn0
   ·exact h1
  have hfl : c.nodes.length + 1 ≤ c.first.length := by have := hS.len; omega
  have hel : c.tos.length ≤ c.edges.length := by have := hS.same; omega
  have hlast := hS.lt (i := 0) (j := c.nodes.length) (by omega) (Nat.le_refl _)
  rw [hS.zero, hS.last] at hlast
  obtain ⟨bn, on, rfl, hcn⟩ := HV.out.n.2 (by omega)
  obtain ⟨bf, of, rfl, hcf⟩ := HV.out.f.2 (by omega)
  obtain ⟨bt, ot, rfl, hct⟩ := HV.out.t.2 (by omega)
  obtain ⟨be, oe, rfl, hce⟩ := HV.out.e.2 (by omega)
  have HN := Lib.hid (fun t (ht : t < c.nodes.length) W (e : Ext w1 W) => (by have h := (hcn t ht).2; rw [Nat.mul_one, ← getElem!_pos _ t ht] at h; exact e.cell h : W.cell? ⟨bn, on + t, none⟩ = some (.int .i64 c.nodes[t]!)))
  have HF := Lib.hid (fun t (ht : t < c.first.length) W (e : Ext w1 W) => (by have h := (hcf t ht).2; rw [Nat.mul_one, ← getElem!_pos _ t ht] at h; exact e.cell h : W.cell? ⟨bf, of + t, none⟩ = some (.int .i64 c.first[t]!)))
  have HT := Lib.hid (fun t (ht : t < c.tos.length) W (e : Ext w1 W) => (by have h := (hct t ht).2; rw [Nat.mul_one, ← getElem!_pos _ t ht] at h; exact e.cell h : W.cell? ⟨bt, ot + t, none⟩ = some (.int .i64 c.tos[t]!)))
  have HEE := Lib.hid (fun t (ht : t < c.edges.length) W (e : Ext w1 W) => (by have h := (hce t ht).2; rw [Nat.mul_one, ← getElem!_pos _ t ht] at h; exact e.cell h : W.cell? ⟨be, oe + t, none⟩ = some (.int .i64 c.edges[t]!)))
  have MKQ := Lib.hid (fun V (e : Ext w1 V) => (⟨e.cell a0, e.cell a1, e.cell a2, e.cell a3⟩ : (V.cell? ⟨q, 0, none⟩ = some (.slice (some ⟨bn, on, none⟩) c.nodes.length k0) ∧ V.cell? ⟨q, 1, none⟩ = some (.slice (some ⟨bf, of, none⟩) c.first.length k1) ∧ V.cell? ⟨q, 2, none⟩ = some (.slice (some ⟨bt, ot, none⟩) c.tos.length k2) ∧ V.cell? ⟨q, 3, none⟩ = some (.slice (some ⟨be, oe, none⟩) c.edges.length k3))))
  have HS := Lib.hid hS
  clear hcn hcf hct hce HV hn0 hlast
  go_wp2_with fail
  go_loopw [3, 4] (fun v3 u W => ∃ (vO : Value) (i : Nat), vO = v3 ∧ u = .int .i64 i ∧ i ≤ c.nodes.length ∧ Hid (OA W w1.heap.size vO (flatK c i)) ∧ Hid (Ext w1 W)) (fun _ u _ => c.nodes.length - (intOf u).toNat)
  case atStart => exact ⟨_, 0, rfl, rfl, Nat.zero_le _, Lib.hid (OwnG.nil _ _ _ _ _), Lib.hid (by solve_by_elim [X0, X1, X2, X3])⟩
  case round =>
   obtain ⟨vO, i, rfl, rfl, hi, HO, hE⟩ := hrel
   obtain ⟨a0, a1, a2, a3⟩ := MKQ.out wr hE.out
   by_cases hlt : i < c.nodes.length
   ·obtain ⟨nv, hnv⟩ : ∃ nv, nv = c.nodes[i]! := ⟨_, rfl⟩
    have HCN := Lib.hid (HN.out i hlt)
    rw [← hnv] at HCN
    have n0 := HCN.out wr hE.out
    have f0 := HF.out i (by omega) wr hE.out
    have hi1 : i + 1 < c.first.length := by omega
    have hi0 : i < c.first.length := by omega
    obtain ⟨x, hx⟩ : ∃ x : Nat, x = c.first[i]!.toNat := ⟨_, rfl⟩
    obtain ⟨y, hy⟩ : ∃ y : Nat, y = c.first[i + 1]!.toNat := ⟨_, rfl⟩
    have ex : c.first[i]! = (x : Int) := by have := HS.out.nn (i := i) (by omega); omega
    have ey : c.first[i + 1]! = (y : Int) := by have := HS.out.nn (i := i + 1) (by omega); omega
    have hxy : x ≤ y := by have := HS.out.rise i hlt; omega
    have hyt : y ≤ c.tos.length := by have := HS.out.le (i := i + 1) (by omega); omega
    have hlx := flatK_len HS.out hi
    have wi : IntKind.i64.wrap ((i : Int) + 1) = ((i + 1 : Nat) : Int) := by rw [IntKind.wrap_i64]; omega
    have HFN := Lib.hid (fun W (e : Ext w1 W) => (by have h := HF.out (i + 1) hi1 W e; rw [ey] at h; exact h : W.cell? ⟨bf, of + (i + 1), none⟩ = some (.int .i64 (y : Int))))
    have HSC := Lib.hid (flatK_succ c i)
    rw [← hy] at HSC
    have HRS := Lib.hid (fun k (hk : x ≤ k) => ((rowK_snoc (c := c) (i := i) (k := k) (by omega)).trans (by rw [hnv]; rfl) : rowK c i (k + 1) = rowK c i k ++ [(⟨nv, c.tos[k]!, c.edges[k]!⟩ : Sh)]))
    have HR0 := Lib.hid (by rw [hx]; exact rowK_start c i : rowK c i x = [])
    have HRL := Lib.hid (fun k => (by unfold rowK; rw [List.length_map, List.length_range', ← hx] : (rowK c i k).length = k - x))
    rw [← hx] at hlx
    have HLX := Lib.hid hlx
    clear hlx
    rw [ex] at f0
    have HE0 := hE
    have HO0 := Lib.hid (by rw [HR0.out, List.append_nil]; exact HO.out : OA wr w1.heap.size vO (flatK c i ++ rowK c i x))
    clear hx hy ex ey HO hE HR0 hnv
    go_wp2_with fail
    go_loopw [3, 5] (fun v3 u W => ∃ (vO : Value) (k : Nat), vO = v3 ∧ u = .int .i64 k ∧ x ≤ k ∧ k ≤ y ∧ Hid (OA W w1.heap.size vO (flatK c i ++ rowK c i k)) ∧ Hid (Ext w1 W)) (fun _ u _ => y - (intOf u).toNat)
    case atStart => exact ⟨_, x, rfl, rfl, Nat.le_refl _, hxy, HO0, HE0⟩
    case round =>
     clear HO0 HE0 a0 a1 a2 a3 n0 f0
     obtain ⟨vO, k, rfl, rfl, hxk, hky, HO, hE⟩ := hrel
     obtain ⟨a0, a1, a2, a3⟩ := MKQ.out wr hE.out
     have f1 := HFN.out wr hE.out
     by_cases hky' : k < y
     ·have hkt : k < c.tos.length := by omega
      have hke : k < c.edges.length := by omega
      have HCT := Lib.hid (HT.out k hkt)
      have HCE := Lib.hid (HEE.out k hke)
      have hl8 : (flatK c i ++ rowK c i k).length + 1 ≤ 8388608 := by rw [List.length_append, HLX.out, HRL.out]; omega
      have HSN := Lib.hid (by rw [HRS.out k hxk, List.append_assoc] : flatK c i ++ rowK c i (k + 1) = flatK c i ++ rowK c i k ++ [(⟨nv, c.tos[k]!, c.edges[k]!⟩ : Sh)])
      generalize c.tos[k]! = tv at *
      generalize c.edges[k]! = ev at *
      have MK := Lib.hid (fun V (e : Ext wr V) => (⟨MKQ.out V (hE.out.trans e), HCT.out V (hE.out.trans e), HCE.out V (hE.out.trans e), HCN.out V (hE.out.trans e)⟩ : (V.cell? ⟨q, 0, none⟩ = some (.slice (some ⟨bn, on, none⟩) c.nodes.length k0) ∧ V.cell? ⟨q, 1, none⟩ = some (.slice (some ⟨bf, of, none⟩) c.first.length k1) ∧ V.cell? ⟨q, 2, none⟩ = some (.slice (some ⟨bt, ot, none⟩) c.tos.length k2) ∧ V.cell? ⟨q, 3, none⟩ = some (.slice (some ⟨be, oe, none⟩) c.edges.length k3)) ∧ V.cell? ⟨bt, ot + k, none⟩ = some (.int .i64 tv) ∧ V.cell? ⟨be, oe + k, none⟩ = some (.int .i64 ev) ∧ V.cell? ⟨bn, on + i, none⟩ = some (.int .i64 nv)))
      go_upto_region 8 with (fail)
      refine wp_region_held_drew (S := (fun V => (V.cell? ⟨q, 0, none⟩ = some (.slice (some ⟨bn, on, none⟩) c.nodes.length k0) ∧ V.cell? ⟨q, 1, none⟩ = some (.slice (some ⟨bf, of, none⟩) c.first.length k1) ∧ V.cell? ⟨q, 2, none⟩ = some (.slice (some ⟨bt, ot, none⟩) c.tos.length k2) ∧ V.cell? ⟨q, 3, none⟩ = some (.slice (some ⟨be, oe, none⟩) c.edges.length k3)) ∧ V.cell? ⟨bt, ot + k, none⟩ = some (.int .i64 tv) ∧ V.cell? ⟨be, oe + k, none⟩ = some (.int .i64 ev) ∧ V.cell? ⟨bn, on + i, none⟩ = some (.int .i64 nv))) (by kernel_rfl) ?hs44018 (fun hHeld => ?go44018)
      case hs44018 => (first | exact MK.out _ (by solve_by_elim [X0, X1, X2, X3]) | exact MK6.out _ (by solve_by_elim [X0, X1, X2, X3]))
      refine TK 0 (v := ?v44019) hHeld ?hy44019 ?_
      case hy44019 => (intro w hSw; (try dsimp only at hSw); go_simp <;> first | with_reducible rfl | rw [if_neg (by omega)] | rw [if_pos (by omega)])
      (try simp only [PU])
      refine TK 1 (v := ?v44020) hHeld ?hy44020 ?_
      case hy44020 => (intro w hSw; (try dsimp only at hSw); go_simp <;> first | with_reducible rfl | rw [if_neg (by omega)] | rw [if_pos (by omega)])
      (try simp only [PU])
      refine TK 2 (v := ?v44021) hHeld ?hy44021 ?_
      case hy44021 => (intro w hSw; (try dsimp only at hSw); go_simp <;> first | with_reducible rfl | rw [if_neg (by omega)] | rw [if_pos (by omega)])
      (try simp only [PU])
      refine TK 3 (v := ?v44022) hHeld ?hy44022 ?_
      case hy44022 => (intro w hSw; (try dsimp only at hSw); go_simp <;> first | with_reducible rfl | rw [if_neg (by omega)] | rw [if_pos (by omega)])
      (try simp only [PU])
      refine TK 4 (v := ?v44023) hHeld ?hy44023 ?_
      case hy44023 => (intro w hSw; (try dsimp only at hSw); go_simp <;> first | with_reducible rfl | rw [if_neg (by omega)] | rw [if_pos (by omega)])
      (try simp only [PU])
      refine TK 5 (v := ?v44024) hHeld ?hy44024 ?_
      case hy44024 => (intro w hSw; (try dsimp only at hSw); go_simp <;> first | with_reducible rfl | rw [if_neg (by omega)] | rw [if_pos (by omega)])
      (try simp only [PU])
      refine TK 6 (v := ?v44025) hHeld ?hy44025 ?_
      case hy44025 => (intro w hSw; (try dsimp only at hSw); go_simp <;> first | with_reducible rfl | rw [if_neg (by omega)] | rw [if_pos (by omega)])
      (try simp only [PU])
      refine TK 7 (v := ?v44026) hHeld ?hy44026 ?_
      case hy44026 => (intro w hSw; (try dsimp only at hSw); go_simp <;> first | with_reducible rfl | rw [if_neg (by omega)] | rw [if_pos (by omega)])
      (try simp only [PU])
      refine TK 8 (v := ?v44027) hHeld ?hy44027 ?_
      case hy44027 => (intro w hSw; (try dsimp only at hSw); go_simp <;> first | with_reducible rfl | rw [if_neg (by omega)] | rw [if_pos (by omega)])
      (try simp only [PU])
      refine TK 9 (v := ?v44028) hHeld ?hy44028 ?_
      case hy44028 => (intro w hSw; (try dsimp only at hSw); go_simp <;> first | with_reducible rfl | rw [if_neg (by omega)] | rw [if_pos (by omega)])
      (try simp only [PU])
      refine TK 10 (v := ?v44029) hHeld ?hy44029 ?_
      case hy44029 => (intro w hSw; (try dsimp only at hSw); go_simp <;> first | with_reducible rfl | rw [if_neg (by omega)] | rw [if_pos (by omega)])
      (try simp only [PU])
      refine TK 11 (v := ?v44030) hHeld ?hy44030 ?_
      case hy44030 => (intro w hSw; (try dsimp only at hSw); go_simp <;> first | with_reducible rfl | rw [if_neg (by omega)] | rw [if_pos (by omega)])
      (try simp only [PU])
      refine TK 12 (v := ?v44031) hHeld ?hy44031 ?_
      case hy44031 => (intro w hSw; (try dsimp only at hSw); go_simp <;> first | with_reducible rfl | rw [if_neg (by omega)] | rw [if_pos (by omega)])
      (try simp only [PU])
      refine TK 13 (v := ?v44032) hHeld ?hy44032 ?_
      case hy44032 => (intro w hSw; (try dsimp only at hSw); go_simp <;> first | with_reducible rfl | rw [if_neg (by omega)] | rw [if_pos (by omega)])
      (try simp only [PU])
      refine TK 14 (v := ?v44033) hHeld ?hy44033 ?_
      case hy44033 => (intro w hSw; (try dsimp only at hSw); go_simp <;> first | with_reducible rfl | rw [if_neg (by omega)] | rw [if_pos (by omega)])
      (try simp only [PU])
      refine TK 15 (v := ?v44034) hHeld ?hy44034 ?_
      case hy44034 => (intro w hSw; (try dsimp only at hSw); go_simp <;> first | with_reducible rfl | rw [if_neg (by omega)] | rw [if_pos (by omega)])
      (try simp only [PU])
      refine TK 16 (v := ?v44035) hHeld ?hy44035 ?_
      case hy44035 => (intro w hSw; (try dsimp only at hSw); go_simp <;> first | with_reducible rfl | rw [if_neg (by omega)] | rw [if_pos (by omega)])
      (try simp only [PU])
      refine wpAnyH_ready (rs := [17]) (by kernel_rfl) (by simp) ?_
      refine AllReadyH.cons (o := ⟨_, _, _, _, _, _⟩) rfl (fun K hK => ?step44036x0) ?more44036x0
      case more44036x0 => exact AllReadyH.nil
      go_simp
      refine hK.out _ _ ?hS44036x0 (fun H44036 => ?_)
      case hS44036x0 => first | (first | exact MK.out _ (by solve_by_elim [X0, X1, X2, X3]) | exact MK6.out _ (by solve_by_elim [X0, X1, X2, X3])) | ((try dsimp only); (first | exact MK.out _ (by solve_by_elim [X0, X1, X2, X3]) | exact MK6.out _ (by solve_by_elim [X0, X1, X2, X3])))
      clear hK K
      clear hHeld
      (try simp only [PU])
      refine wpAnyH_ready (rs := [18]) (by kernel_rfl) (by simp) ?_
      refine AllReadyH.cons (o := ⟨_, _, _, _, _, _⟩) rfl (fun K hK => ?step44037x0) ?more44037x0
      case more44037x0 => exact AllReadyH.nil
      (refine step_pushAt (v := vO) (hs := flatK c i ++ rowK c i k) T_ka rfl (.tmp 28) (.tmp 45) rfl rfl (OwnG.ext HO.out (by solve_by_elim [X0, X1, X2, X3])) (Nat.le_trans hE.out.le (Ext.le (a := wr) (by solve_by_elim [X0, X1, X2, X3]))) (⟨nv, tv, ev⟩ : Sh) trivial ⟨_, 0, none⟩ 1 rfl (adj_cell (by go_simp) (by go_simp) (by go_simp)) hl8 (by decide) ?_; intro v6 w6 hO6 hg6 hd6; have hE6 : Ext w1 w6 := (hE.out.trans (show Ext wr _ from (by solve_by_elim [X0, X1, X2, X3]))).grown hg6 (fun g e => (OwnG.lt HO.out e).1); have HO6 := Lib.hid hO6; have HE6 := Lib.hid hE6; have MK6 := Lib.hid (fun V (e : Ext w6 V) => (⟨MKQ.out V (HE6.out.trans e), (HCT.out V (HE6.out.trans e)), (HCE.out V (HE6.out.trans e)), (HCN.out V (HE6.out.trans e))⟩ : (V.cell? ⟨q, 0, none⟩ = some (.slice (some ⟨bn, on, none⟩) c.nodes.length k0) ∧ V.cell? ⟨q, 1, none⟩ = some (.slice (some ⟨bf, of, none⟩) c.first.length k1) ∧ V.cell? ⟨q, 2, none⟩ = some (.slice (some ⟨bt, ot, none⟩) c.tos.length k2) ∧ V.cell? ⟨q, 3, none⟩ = some (.slice (some ⟨be, oe, none⟩) c.edges.length k3)) ∧ V.cell? ⟨bt, ot + k, none⟩ = some (.int .i64 tv) ∧ V.cell? ⟨be, oe + k, none⟩ = some (.int .i64 ev) ∧ V.cell? ⟨bn, on + i, none⟩ = some (.int .i64 nv))); clear hO6 hg6 hd6 hE6)
      refine hK.out _ _ ?hS44037x0 (fun H44037 => ?_)
      case hS44037x0 => first | (first | exact MK.out _ (by solve_by_elim [X0, X1, X2, X3]) | exact MK6.out _ (by solve_by_elim [X0, X1, X2, X3])) | ((try dsimp only); (first | exact MK.out _ (by solve_by_elim [X0, X1, X2, X3]) | exact MK6.out _ (by solve_by_elim [X0, X1, X2, X3])))
      clear hK K
      clear H44036
      (try simp only [PU])
      refine TK 19 (v := ?v44038) H44037 ?hy44038 ?_
      case hy44038 => (intro w hSw; (try dsimp only at hSw); go_simp <;> first | with_reducible rfl | rw [if_neg (by omega)] | rw [if_pos (by omega)])
      (try simp only [PU])
      refine wpAnyH_done (by kernel_rfl) ?_ _
      clear H44037
      go_wp2_with fail
      go_roundw
      case rel => exact ⟨_, k + 1, rfl, by go_num, by omega, by omega, Lib.hid (by rw [HSN.out]; exact HO6.out), HE6⟩
      case measure => simp [intOf]; omega
     ·have hke : k = y := by omega
      have HOF := Lib.hid (by rw [HSC.out, ← hke]; exact HO.out : OA wr w1.heap.size vO (flatK c (i + 1)))
      clear hke HO
      go_wp2_with fail
      go_roundw
      case rel => exact ⟨_, i + 1, rfl, by go_num, by omega, HOF, hE⟩
      case measure => simp [intOf]; omega
   ·have hke : i = c.nodes.length := by omega
    have HOF := Lib.hid (by have h := HO.out; rw [hke] at h; rw [HR.out]; exact h : OA wr w1.heap.size vO R)
    have hRl : R.length = c.tos.length := by rw [HR.out]; exact flatC_len HS.out
    obtain ⟨A9, c9, e9, h9, hV9⟩ := OA.shares HOF.out (by omega)
    have HV9 := Lib.hid hV9
    have HLE := Lib.hid HX.out.le
    subst e9
    clear HO HOF hV9 hke HR
    go_wp2_with fail
    go_ret
    exact ⟨A9, c9, rfl, h9, SliceR.mono HV9.out (fun _ _ _ _ hx => ⟨Nat.le_trans HLE.out hx.1, hx.2⟩), HX.out.trans hE.out⟩
end Go.Proofs.YtnheioehadldmaaGreat
