/- PARTS OF THE WALKS, joined: PtP. -/
import Derived.Test.YtigmdddeplnciaaGreatDoorV20
import Derived.Deep.RegionHeld3
import Derived.Deep.CutBlock
import Derived.Deep.DeepCutAuto
import Derived.Lib.BitFns
import Derived.Test.YtigmdddeplnciaaGreatDoorShelf
import Derived.Shelf.Spec.BitsCarry
import Derived.Deep.Cut
import Derived.Lib.ItoaNum
import Derived.Lib.AtoiAll
import Derived.Deep.QuietTactic
import Derived.BigQuiet
import Derived.Test.YtigmdddeplnciaaGreatDoorProg
import Derived.WalkKit
import Derived.WalkSpells
import Derived.WalkLawsBesides
import Derived.Lib.Hide
import Derived.Sort.Walk0
import Derived.Lib.Small
import Derived.Laws.CopyRow
import Derived.Lib.AppendZerosOnto
import Derived.Lib.SlFresh
import Derived.Laws.AppendOwn
import Derived.Laws.OwnMore
import Derived.OwnWalk
import Derived.Deep.AppendLies
import Derived.Deep.MidRow
import Derived.Below
import Derived.Laws.Rows
import Derived.Deep.Draws
import Derived.OrdersHeld
import Derived.Maps.AppendAt
import Derived.Test.YtigmdddeplnciaaGreatDoorShelfG
import Derived.Shelf.SlSortCmp.NoneTotal
import Derived.Shelf.SlSortCmp.WholeK
import Derived.Calls
import Derived.Laws.BitsAllLaws
import Derived.Deep.RegionHeld
import Derived.Deep.CutRange
import Derived.Maps.OwnSet
import Derived.Maps.OwnOps
import Derived.BigRegion
import Derived.Sort.LotA
/- THE WALK over the reference's Is. -/
namespace Go.Proofs.YtigmdddeplnciaaGreatDoor
open Go.RowKit
def cB (dir a b xf xt : Int) : Bool := (decide (xf = a) && decide (xt = b) && (decide (dir = 1) || decide (dir = 3))) || (decide (xt = a) && decide (xf = b) && (decide (dir = 2) || decide (dir = 3)))
theorem toE_cB {types : List ByteArray} {dir a b : Int} {x : EdgeG} (ht : typB types x.typ = true) : decide (toE types dir a x = some b) = cB dir a b x.frm x.to_ := by
 rw [Bool.eq_iff_iff, decide_eq_true_iff]
 unfold toE cB
 rw [if_pos ht]
 simp only [Bool.or_eq_true, Bool.and_eq_true, decide_eq_true_iff]
 split
 ·rename_i h
  constructor
  ·intro e
   injection e with e
   exact .inl ⟨⟨h.2, e⟩, h.1⟩
  ·rintro (h2 | h2)
   ·rw [h2.1.2]
   ·rw [h2.1.1, ← h.2, h2.1.2]
 ·rename_i h
  split
  ·rename_i h3
   constructor
   ·intro e
    injection e with e
    exact .inr ⟨⟨h3.2, e⟩, h3.1⟩
   ·rintro (h2 | h2)
    ·exact absurd ⟨h2.2, h2.1.1⟩ h
    ·rw [h2.1.2]
  ·rename_i h3
   constructor
   ·intro e; cases e
   ·rintro (h2 | h2)
    ·exact absurd ⟨h2.2, h2.1.1⟩ h
    ·exact absurd ⟨h2.2, h2.1.1⟩ h3
theorem toE_typ {types : List ByteArray} {dir a b : Int} {x : EdgeG} (ht : typB types x.typ = false) : decide (toE types dir a x = some b) = false := by
 unfold toE; rw [ht]; rfl
/-- the edges looked at so far -/
def faB (g : GraphG) (types : List ByteArray) (dir a e b : Int) (j : Nat) : Bool := (g.edges.take j).any (fun x => decide (x.id = e) && decide (toE types dir a x = some b))
theorem faB_end (g : GraphG) (types : List ByteArray) (dir a e b : Int) : faB g types dir a e b g.edges.length = stepB g types dir a e b := by unfold faB stepB; rw [List.take_length]
theorem faB_succ {g : GraphG} {types : List ByteArray} {dir a e b : Int} {j : Nat} (hj : j < g.edges.length) : faB g types dir a e b (j + 1) = (faB g types dir a e b j || (decide (g.edges[j]!.id = e) && decide (toE types dir a g.edges[j]! = some b))) := by
 unfold faB
 rw [List.take_add_one, List.getElem?_eq_getElem hj, List.any_append, getElem!_pos g.edges j hj]
 simp
/-- at the edge of this number: none before it has it -/
theorem faB_hit {g : GraphG} (hg : GoodG g) {types : List ByteArray} {dir a e b : Int} {j : Nat} (hj : j < g.edges.length) (h : g.edges[j]!.id = e) (ht : typB types g.edges[j]!.typ = true) : faB g types dir a e b (j + 1) = cB dir a b g.edges[j]!.frm g.edges[j]!.to_ := by
 have h0 : faB g types dir a e b j = false := by
  unfold faB
  rw [List.any_eq_false]
  intro x hx
  obtain ⟨i, hi, rfl⟩ := List.getElem_of_mem hx
  have hi' : i < j := by rw [List.length_take] at hi; omega
  rw [List.getElem_take, ← getElem!_pos g.edges i (by omega)]
  have h2 := hg.elt i j hi' hj
  intro h3
  rw [Bool.and_eq_true, decide_eq_true_iff] at h3
  omega
 rw [faB_succ hj, h0, h, decide_eq_true rfl, toE_cB ht]; rfl
theorem faB_miss {g : GraphG} {types : List ByteArray} {dir a e b : Int} {j : Nat} (hj : j < g.edges.length) (h : ¬ g.edges[j]!.id = e ∨ typB types g.edges[j]!.typ = false) : faB g types dir a e b (j + 1) = faB g types dir a e b j := by
 rw [faB_succ hj]
 rcases h with h | h
 ·rw [decide_eq_false h, Bool.false_and, Bool.or_false]
 ·rw [toE_typ h, Bool.and_false, Bool.or_false]
theorem hops_no {p : Val} (h : (decide (p.kind = 7) && validV p) = false) : ¬ 0 ≤ hopsV p := by
 unfold hopsV
 rw [if_neg (fun h2 => by rw [decide_eq_true h2.1, h2.2] at h; cases h)]
 decide
theorem hops_of2 {p : Val} (h : (decide (p.kind = 7) && validV p) = true) : 0 ≤ hopsV p := by
 unfold hopsV
 rw [Bool.and_eq_true, decide_eq_true_iff] at h
 rw [if_pos h]
 omega
theorem is_no0 {g : GraphG} {types : List ByteArray} {dir mode : Int} {p : Val} (h : chkG g ≠ 0 ∨ ¬ 0 ≤ hopsV p ∨ hasN g.nodes p.l[0]!.n = false ∨ allowL p.l mode = false) : isP g types dir mode p = false := by
 unfold isP
 split
 ·split
  ·split
   ·split
    ·rename_i h1 h2 h3 h4
     rcases h with h | h | h | h
     ·exact absurd h2 h
     ·exact absurd h1 h
     ·rw [h] at h4; cases h4
     ·rw [h] at h3; cases h3
    ·rfl
   ·rfl
  ·rfl
 ·rfl
theorem is_yes {g : GraphG} {types : List ByteArray} {dir mode : Int} {p : Val} (h1 : 0 ≤ hopsV p) (h2 : chkG g = 0) (h3 : allowL p.l mode = true) (h4 : hasN g.nodes p.l[0]!.n = true) : isP g types dir mode p = stepsB g types dir p.l (p.l.length / 2) := by
 unfold isP; rw [if_pos h1, if_pos h2, if_pos h3, if_pos h4]
theorem box_edgeS (w : World) (i f t : Int) (s : ByteArray) (E : Option Addr) (pl pc : Nat) : ∃ (q : Nat) (w1 : World), q = w.heap.size ∧ w1 = w.alloc (.cells #[.int .i64 i, .int .i64 f, .int .i64 t, .string s, .slice E pl pc] 47) ∧ w1.cell? ⟨q, 0, none⟩ = some (.int .i64 i) ∧ w1.cell? ⟨q, 1, none⟩ = some (.int .i64 f) ∧ w1.cell? ⟨q, 2, none⟩ = some (.int .i64 t) ∧ w1.cell? ⟨q, 3, none⟩ = some (.string s) ∧ Ext w w1 :=
 ⟨_, _, rfl, rfl, by go_simp, by go_simp, by go_simp, by go_simp, (Ext.refl w).alloc _⟩
set_option maxRecDepth 100000 in
set_option maxHeartbeats 12800000 in
theorem r24_Is (g : GraphG) (p : Val) (types : List ByteArray) (dir mode : Int) (ok ok' ok2 : Nat → Prop) (A B T Q : Option Addr) (c d e qc : Nat) (w : World) (hg : GraphAt w ok A B g) (hsz : SzG g) (ht : Strs w ok' T types) (hv : Vals w ok2 Q p.l) (hsv : szV p) :
  Calls Tryz.prog 16 #[.agg #[.slice A g.nodes.length c, .slice B g.edges.length d, .int .i64 g.nn, .int .i64 g.ne], agV p Q qc, .slice T types.length e, .int .i64 dir, .int .i64 mode] w fun e w' => e = .returned (.bool (isP g types dir mode p)) ∧ Ext w w' := by
 obtain ⟨q, w2, hq, hw2, hgc, hpc, hx⟩ : ∃ (q : Nat) (w2 : World), q = w.heap.size ∧ w2 = (w.alloc (.cells #[.slice A g.nodes.length c, .slice B g.edges.length d, .int .i64 g.nn, .int .i64 g.ne] 25)).alloc (.cells #[.int .i64 p.kind, .int .i64 p.n, .int .i64 p.d, .string p.s, .slice Q p.l.length qc] 37) ∧ (w2.cell? ⟨q, 0, none⟩ = some (.slice A g.nodes.length c) ∧ w2.cell? ⟨q, 1, none⟩ = some (.slice B g.edges.length d) ∧ w2.cell? ⟨q, 2, none⟩ = some (.int .i64 g.nn) ∧ w2.cell? ⟨q, 3, none⟩ = some (.int .i64 g.ne)) ∧ (w2.cell? ⟨q + 1, 0, none⟩ = some (.int .i64 p.kind) ∧ w2.cell? ⟨q + 1, 1, none⟩ = some (.int .i64 p.n) ∧ w2.cell? ⟨q + 1, 2, none⟩ = some (.int .i64 p.d) ∧ w2.cell? ⟨q + 1, 3, none⟩ = some (.string p.s) ∧ w2.cell? ⟨q + 1, 4, none⟩ = some (.slice Q p.l.length qc)) ∧ Ext w w2 :=
  ⟨_, _, rfl, rfl, ⟨by go_simp, by go_simp, by go_simp, by go_simp⟩, ⟨by go_simp, by go_simp, by go_simp, by go_simp, by go_simp⟩, (by solve_by_elim [X0, X1, X2, X3])⟩
 have HW2 := Lib.hid hw2
 have HQ := Lib.hid hq
 have HX := Lib.hid hx
 have HCH := Lib.hid (fun W (e' : Ext w2 W) => r7_Check g ok A B c d W (hg.ext (hx.trans e')) hsz)
 have HVA := Lib.hid (fun W (e' : Ext w2 W) => r24_valid p ok2 Q qc W (hv.ext (hx.trans e')) hsv)
 have HHA := Lib.hid (fun W (e' : Ext w2 W) => r24_has g p.l[0]!.n ok A B c d W (hg.nodes.ext (hx.trans e')))
 have HAL0 := Lib.hid (fun (h : 0 ≤ hopsV p) W (e' : Ext w2 W) => r24_Allowed p mode ok2 Q qc W (hv.ext (hx.trans e')) (by have := (path_of (v := p) (by omega)).2.1; omega) (path_of (by omega)).1)
 have HTY := Lib.hid (fun s W (e' : Ext w2 W) => r24_typed types s ok' T e W (ht.ext (hx.trans e')))
 have HV := Lib.hid (hv.ext hx)
 have HED := Lib.hid (hg.edges.ext hx)
 have HLE := Lib.hid hg.edges.len
 have MK0 := Lib.hid (fun V (e' : Ext w2 V) => (⟨⟨e'.cell hgc.1, e'.cell hgc.2.1, e'.cell hgc.2.2.1, e'.cell hgc.2.2.2⟩, e'.cell hpc.1, e'.cell hpc.2.1, e'.cell hpc.2.2.1, e'.cell hpc.2.2.2.1, e'.cell hpc.2.2.2.2⟩ : (V.cell? ⟨q, 0, none⟩ = some (.slice A g.nodes.length c) ∧ V.cell? ⟨q, 1, none⟩ = some (.slice B g.edges.length d) ∧ V.cell? ⟨q, 2, none⟩ = some (.int .i64 g.nn) ∧ V.cell? ⟨q, 3, none⟩ = some (.int .i64 g.ne)) ∧ (V.cell? ⟨q + 1, 0, none⟩ = some (.int .i64 p.kind) ∧ V.cell? ⟨q + 1, 1, none⟩ = some (.int .i64 p.n) ∧ V.cell? ⟨q + 1, 2, none⟩ = some (.int .i64 p.d) ∧ V.cell? ⟨q + 1, 3, none⟩ = some (.string p.s) ∧ V.cell? ⟨q + 1, 4, none⟩ = some (.slice Q p.l.length qc))))
 have HNO := Lib.hid (fun h => is_no0 (g := g) (types := types) (dir := dir) (mode := mode) (p := p) h)
 have HYS := Lib.hid (fun h1 h2 h3 h4 => is_yes (g := g) (types := types) (dir := dir) (mode := mode) (p := p) h1 h2 h3 h4)
 obtain ⟨R, hR⟩ : ∃ R, R = isP g types dir mode p := ⟨_, rfl⟩
 rw [← hR] at HNO HYS ⊢
 clear hw2 hq hg hsz ht hv hsv hR hx hgc hpc
 unfold agV at HVA HAL0 ⊢
 go_enter Tryz.func16, Tryz.ntmps16
 go_upto_region 1 with (fail)
 rw [← HW2.out, ← HQ.out]
 clear HW2 HQ
 have MK1 := Lib.hid (fun V (e' : Ext w2 V) => MK0.out V e')
 by_cases hc : chkG g = 0
 ·rw [hc] at HCH
  have HC0 := Lib.hid hc
  clear hc
  cases hvb : (decide (p.kind = 7) && validV p)
  ·rw [hvb] at HVA
   have HRF := Lib.hid (HNO.out (.inr (.inl (hops_no hvb))))
   clear hvb HHA HAL0 HNO HYS
   refine wp_region_held_drew (S := (fun V => (V.cell? ⟨q, 0, none⟩ = some (.slice A g.nodes.length c) ∧ V.cell? ⟨q, 1, none⟩ = some (.slice B g.edges.length d) ∧ V.cell? ⟨q, 2, none⟩ = some (.int .i64 g.nn) ∧ V.cell? ⟨q, 3, none⟩ = some (.int .i64 g.ne)) ∧ (V.cell? ⟨q + 1, 0, none⟩ = some (.int .i64 p.kind) ∧ V.cell? ⟨q + 1, 1, none⟩ = some (.int .i64 p.n) ∧ V.cell? ⟨q + 1, 2, none⟩ = some (.int .i64 p.d) ∧ V.cell? ⟨q + 1, 3, none⟩ = some (.string p.s) ∧ V.cell? ⟨q + 1, 4, none⟩ = some (.slice Q p.l.length qc)))) (by kernel_rfl) ?hs12066 (fun hHeld => ?go12066)
   case hs12066 => (exact MK1.out _ (by solve_by_elim [X0, X1, X2, X3]))
   refine TK 0 (v := ?v12067) hHeld ?hy12067 ?_
   case hy12067 => (intro w hSw; (try dsimp only at hSw); go_simp <;> first | with_reducible rfl | rw [if_neg (by omega)] | rw [if_pos (by omega)])
   (try simp only [PU])
   refine wpAnyH_ready (rs := [1]) (by kernel_rfl) (by simp) ?_
   refine AllReadyH.cons (o := ⟨_, _, _, _, _, _⟩) rfl (fun K hK => ?step12068x0) ?more12068x0
   case more12068x0 => exact AllReadyH.nil
   go_simp
   (with_reducible refine (HCH.out _ (by solve_by_elim [X0, X1, X2, X3])).mono ?_; rintro r w3 ⟨rfl, hx3⟩; replace hx3 : Ext w2 w3 := Ext.trans (by solve_by_elim [X0, X1, X2, X3]) hx3)
   refine hK.out _ _ ?hS12068x0 (fun H12068 => ?_)
   case hS12068x0 => first | (exact MK1.out _ (by solve_by_elim [X0, X1, X2, X3])) | ((try dsimp only); (exact MK1.out _ (by solve_by_elim [X0, X1, X2, X3])))
   clear hK K
   clear hHeld
   (try simp only [PU])
   refine TK 2 (v := ?v12069) H12068 ?hy12069 ?_
   case hy12069 => (intro w _; go_simp <;> first | with_reducible rfl | rw [if_neg (by omega)] | rw [if_pos (by omega)])
   (try simp only [PU])
   refine TK 3 (v := ?v12070) H12068 ?hy12070 ?_
   case hy12070 => (intro w _; go_simp <;> rfl)
   (try simp only [PU])
   refine TK 4 (v := ?v12071) H12068 ?hy12071 ?_
   case hy12071 => (intro w hSw; (try dsimp only at hSw); go_simp <;> first | with_reducible rfl | rw [if_neg (by omega)] | rw [if_pos (by omega)])
   (try simp only [PU])
   refine wpAnyH_ready (rs := [5]) (by kernel_rfl) (by simp) ?_
   refine AllReadyH.cons (o := ⟨_, _, _, _, _, _⟩) rfl (fun K hK => ?step12072x0) ?more12072x0
   case more12072x0 => exact AllReadyH.nil
   go_simp
   (with_reducible refine (HVA.out _ (by solve_by_elim [X0, X1, X2, X3])).mono ?_; rintro r w4 ⟨rfl, hx4⟩; replace hx4 : Ext w2 w4 := Ext.trans (by solve_by_elim [X0, X1, X2, X3]) hx4)
   refine hK.out _ _ ?hS12072x0 (fun H12072 => ?_)
   case hS12072x0 => first | (exact MK1.out _ (by solve_by_elim [X0, X1, X2, X3])) | ((try dsimp only); (exact MK1.out _ (by solve_by_elim [X0, X1, X2, X3])))
   clear hK K
   clear H12068
   (try simp only [PU])
   refine TK 6 (v := ?v12073) H12072 ?hy12073 ?_
   case hy12073 => (intro w _; go_simp <;> first | with_reducible rfl | rw [if_neg (by omega)] | rw [if_pos (by omega)])
   (try simp only [PU])
   refine TK 7 (v := ?v12074) H12072 ?hy12074 ?_
   case hy12074 => (intro w _; go_simp <;> rfl)
   (try simp only [PU])
   refine TK 8 (v := ?v12075) H12072 ?hy12075 ?_
   case hy12075 => (intro w _; go_simp <;> rfl)
   (try simp only [PU])
   refine TN 9 H12072 ?_
   (try simp only [PU])
   refine TN 10 H12072 ?_
   (try simp only [PU])
   refine TN 11 H12072 ?_
   (try simp only [PU])
   refine TN 12 H12072 ?_
   (try simp only [PU])
   refine TN 13 H12072 ?_
   (try simp only [PU])
   refine TN 14 H12072 ?_
   (try simp only [PU])
   refine TN 15 H12072 ?_
   (try simp only [PU])
   refine TN 16 H12072 ?_
   (try simp only [PU])
   refine TK 17 (v := ?v12084) H12072 ?hy12084 ?_
   case hy12084 => (intro w _; go_simp <;> rfl)
   (try simp only [PU])
   refine TK 18 (v := ?v12085) H12072 ?hy12085 ?_
   case hy12085 => (intro w _; go_simp <;> rfl)
   (try simp only [PU])
   refine TN 19 H12072 ?_
   (try simp only [PU])
   refine TN 20 H12072 ?_
   (try simp only [PU])
   refine TN 21 H12072 ?_
   (try simp only [PU])
   refine TN 22 H12072 ?_
   (try simp only [PU])
   refine TK 23 (v := ?v12090) H12072 ?hy12090 ?_
   case hy12090 => (intro w _; go_simp <;> rfl)
   (try simp only [PU])
   refine wpAnyH_done (by kernel_rfl) ?_ _
   clear H12072
   go_wp2_with fail
   go_ret
   exact ⟨ret_bool HRF.out.symm, HX.out.trans hx4⟩
  ·rw [hvb] at HVA
   have hnn := hops_of2 hvb
   have HAL := Lib.hid (HAL0.out hnn)
   have HNN := Lib.hid hnn
   have HPO := Lib.hid (path_of (v := p) (by omega))
   clear hvb hnn HAL0 MK1
   obtain ⟨b, o, rfl, hcl⟩ := HV.out.atB (i := 0) (by have := HPO.out.1; omega)
   have HNS := Lib.hid (fun k (hk : k < p.l.length) => (by obtain ⟨-, A', c', ⟨-, h5, -⟩, -⟩ := hcl k hk; exact h5 : w2.cell? ⟨b, o + k * 5 + 1, none⟩ = some (.int .i64 p.l[k]!.n)))
   have n0 := HNS.out 0 (by have := HPO.out.1; omega)
   rw [Nat.zero_mul, Nat.add_zero] at n0
   have hl0 : 0 < p.l.length := by have := HPO.out.1; omega
   cases hh : hasN g.nodes p.l[0]!.n
   ·rw [hh] at HHA
    have HRF := Lib.hid (HNO.out (.inr (.inr (.inl hh))))
    clear HNO HYS hh
    generalize p.l[0]!.n = s0 at *
    have MK1 := Lib.hid (fun V (e' : Ext w2 V) => (⟨(MK0.out V e').1, (MK0.out V e').2, e'.cell n0⟩ : ((V.cell? ⟨q, 0, none⟩ = some (.slice A g.nodes.length c) ∧ V.cell? ⟨q, 1, none⟩ = some (.slice B g.edges.length d) ∧ V.cell? ⟨q, 2, none⟩ = some (.int .i64 g.nn) ∧ V.cell? ⟨q, 3, none⟩ = some (.int .i64 g.ne)) ∧ (V.cell? ⟨q + 1, 0, none⟩ = some (.int .i64 p.kind) ∧ V.cell? ⟨q + 1, 1, none⟩ = some (.int .i64 p.n) ∧ V.cell? ⟨q + 1, 2, none⟩ = some (.int .i64 p.d) ∧ V.cell? ⟨q + 1, 3, none⟩ = some (.string p.s) ∧ V.cell? ⟨q + 1, 4, none⟩ = some (.slice (some ⟨b, o, none⟩) p.l.length qc)) ∧ V.cell? ⟨b, o + 1, none⟩ = some (.int .i64 s0))))
    clear hcl n0
    refine wp_region_held_drew (S := (fun V => (V.cell? ⟨q, 0, none⟩ = some (.slice A g.nodes.length c) ∧ V.cell? ⟨q, 1, none⟩ = some (.slice B g.edges.length d) ∧ V.cell? ⟨q, 2, none⟩ = some (.int .i64 g.nn) ∧ V.cell? ⟨q, 3, none⟩ = some (.int .i64 g.ne)) ∧ (V.cell? ⟨q + 1, 0, none⟩ = some (.int .i64 p.kind) ∧ V.cell? ⟨q + 1, 1, none⟩ = some (.int .i64 p.n) ∧ V.cell? ⟨q + 1, 2, none⟩ = some (.int .i64 p.d) ∧ V.cell? ⟨q + 1, 3, none⟩ = some (.string p.s) ∧ V.cell? ⟨q + 1, 4, none⟩ = some (.slice (some ⟨b, o, none⟩) p.l.length qc)) ∧ V.cell? ⟨b, o + 1, none⟩ = some (.int .i64 s0))) (by kernel_rfl) ?hs12091 (fun hHeld => ?go12091)
    case hs12091 => (exact MK1.out _ (by solve_by_elim [X0, X1, X2, X3]))
    refine TK 0 (v := ?v12092) hHeld ?hy12092 ?_
    case hy12092 => (intro w hSw; (try dsimp only at hSw); go_simp <;> first | with_reducible rfl | rw [if_neg (by omega)] | rw [if_pos (by omega)])
    (try simp only [PU])
    refine wpAnyH_ready (rs := [1]) (by kernel_rfl) (by simp) ?_
    refine AllReadyH.cons (o := ⟨_, _, _, _, _, _⟩) rfl (fun K hK => ?step12093x0) ?more12093x0
    case more12093x0 => exact AllReadyH.nil
    go_simp
    (with_reducible refine (HCH.out _ (by solve_by_elim [X0, X1, X2, X3])).mono ?_; rintro r w3 ⟨rfl, hx3⟩; replace hx3 : Ext w2 w3 := Ext.trans (by solve_by_elim [X0, X1, X2, X3]) hx3)
    refine hK.out _ _ ?hS12093x0 (fun H12093 => ?_)
    case hS12093x0 => first | (exact MK1.out _ (by solve_by_elim [X0, X1, X2, X3])) | ((try dsimp only); (exact MK1.out _ (by solve_by_elim [X0, X1, X2, X3])))
    clear hK K
    clear hHeld
    (try simp only [PU])
    refine TK 2 (v := ?v12094) H12093 ?hy12094 ?_
    case hy12094 => (intro w _; go_simp <;> first | with_reducible rfl | rw [if_neg (by omega)] | rw [if_pos (by omega)])
    (try simp only [PU])
    refine TK 3 (v := ?v12095) H12093 ?hy12095 ?_
    case hy12095 => (intro w _; go_simp <;> rfl)
    (try simp only [PU])
    refine TK 4 (v := ?v12096) H12093 ?hy12096 ?_
    case hy12096 => (intro w hSw; (try dsimp only at hSw); go_simp <;> first | with_reducible rfl | rw [if_neg (by omega)] | rw [if_pos (by omega)])
    (try simp only [PU])
    refine wpAnyH_ready (rs := [5]) (by kernel_rfl) (by simp) ?_
    refine AllReadyH.cons (o := ⟨_, _, _, _, _, _⟩) rfl (fun K hK => ?step12097x0) ?more12097x0
    case more12097x0 => exact AllReadyH.nil
    go_simp
    (with_reducible refine (HVA.out _ (by solve_by_elim [X0, X1, X2, X3])).mono ?_; rintro r w4 ⟨rfl, hx4⟩; replace hx4 : Ext w2 w4 := Ext.trans (by solve_by_elim [X0, X1, X2, X3]) hx4)
    refine hK.out _ _ ?hS12097x0 (fun H12097 => ?_)
    case hS12097x0 => first | (exact MK1.out _ (by solve_by_elim [X0, X1, X2, X3])) | ((try dsimp only); (exact MK1.out _ (by solve_by_elim [X0, X1, X2, X3])))
    clear hK K
    clear H12093
    (try simp only [PU])
    refine TK 6 (v := ?v12098) H12097 ?hy12098 ?_
    case hy12098 => (intro w _; go_simp <;> first | with_reducible rfl | rw [if_neg (by omega)] | rw [if_pos (by omega)])
    (try simp only [PU])
    refine TK 7 (v := ?v12099) H12097 ?hy12099 ?_
    case hy12099 => (intro w _; go_simp <;> rfl)
    (try simp only [PU])
    refine TK 8 (v := ?v12100) H12097 ?hy12100 ?_
    case hy12100 => (intro w _; go_simp <;> rfl)
    (try simp only [PU])
    refine TK 9 (v := ?v12101) H12097 ?hy12101 ?_
    case hy12101 => (intro w hSw; (try dsimp only at hSw); go_simp <;> first | with_reducible rfl | rw [if_neg (by omega)] | rw [if_pos (by omega)])
    (try simp only [PU])
    refine TK 10 (v := ?v12102) H12097 ?hy12102 ?_
    case hy12102 => (intro w _; go_simp <;> rfl)
    (try simp only [PU])
    refine TK 11 (v := ?v12103) H12097 ?hy12103 ?_
    case hy12103 => (intro w hSw; (try dsimp only at hSw); go_simp <;> first | with_reducible rfl | rw [if_neg (by omega)] | rw [if_pos (by omega)])
    (try simp only [PU])
    refine TK 12 (v := ?v12104) H12097 ?hy12104 ?_
    case hy12104 => (intro w _; go_simp <;> first | with_reducible rfl | rw [if_neg (by omega)] | rw [if_pos (by omega)])
    (try simp only [PU])
    refine TK 13 (v := ?v12105) H12097 ?hy12105 ?_
    case hy12105 => (intro w _; go_simp <;> rfl)
    (try simp only [PU])
    refine TK 14 (v := ?v12106) H12097 ?hy12106 ?_
    case hy12106 => (intro w hSw; (try dsimp only at hSw); go_simp <;> first | with_reducible rfl | rw [if_neg (by omega)] | rw [if_pos (by omega)])
    (try simp only [PU])
    refine wpAnyH_ready (rs := [15]) (by kernel_rfl) (by simp) ?_
    refine AllReadyH.cons (o := ⟨_, _, _, _, _, _⟩) rfl (fun K hK => ?step12107x0) ?more12107x0
    case more12107x0 => exact AllReadyH.nil
    go_simp
    (with_reducible refine (HHA.out _ (by solve_by_elim [X0, X1, X2, X3])).mono ?_; rintro r w5 ⟨rfl, hx5⟩; replace hx5 : Ext w2 w5 := Ext.trans (by solve_by_elim [X0, X1, X2, X3]) hx5)
    refine hK.out _ _ ?hS12107x0 (fun H12107 => ?_)
    case hS12107x0 => first | (exact MK1.out _ (by solve_by_elim [X0, X1, X2, X3])) | ((try dsimp only); (exact MK1.out _ (by solve_by_elim [X0, X1, X2, X3])))
    clear hK K
    clear H12097
    (try simp only [PU])
    refine TK 16 (v := ?v12108) H12107 ?hy12108 ?_
    case hy12108 => (intro w _; go_simp <;> first | with_reducible rfl | rw [if_neg (by omega)] | rw [if_pos (by omega)])
    (try simp only [PU])
    refine TK 17 (v := ?v12109) H12107 ?hy12109 ?_
    case hy12109 => (intro w _; go_simp <;> rfl)
    (try simp only [PU])
    refine TK 18 (v := ?v12110) H12107 ?hy12110 ?_
    case hy12110 => (intro w _; go_simp <;> rfl)
    (try simp only [PU])
    refine TN 19 H12107 ?_
    (try simp only [PU])
    refine TN 20 H12107 ?_
    (try simp only [PU])
    refine TN 21 H12107 ?_
    (try simp only [PU])
    refine TN 22 H12107 ?_
    (try simp only [PU])
    refine TK 23 (v := ?v12115) H12107 ?hy12115 ?_
    case hy12115 => (intro w _; go_simp <;> rfl)
    (try simp only [PU])
    refine wpAnyH_done (by kernel_rfl) ?_ _
    clear H12107
    go_wp2_with fail
    go_ret
    exact ⟨ret_bool HRF.out.symm, HX.out.trans hx5⟩
   ·rw [hh] at HHA
    cases ha : allowL p.l mode
    ·rw [ha] at HAL
     have HRF := Lib.hid (HNO.out (.inr (.inr (.inr ha))))
     clear HNO HYS hh ha
     generalize p.l[0]!.n = s0 at *
     have MK1 := Lib.hid (fun V (e' : Ext w2 V) => (⟨(MK0.out V e').1, (MK0.out V e').2, e'.cell n0⟩ : ((V.cell? ⟨q, 0, none⟩ = some (.slice A g.nodes.length c) ∧ V.cell? ⟨q, 1, none⟩ = some (.slice B g.edges.length d) ∧ V.cell? ⟨q, 2, none⟩ = some (.int .i64 g.nn) ∧ V.cell? ⟨q, 3, none⟩ = some (.int .i64 g.ne)) ∧ (V.cell? ⟨q + 1, 0, none⟩ = some (.int .i64 p.kind) ∧ V.cell? ⟨q + 1, 1, none⟩ = some (.int .i64 p.n) ∧ V.cell? ⟨q + 1, 2, none⟩ = some (.int .i64 p.d) ∧ V.cell? ⟨q + 1, 3, none⟩ = some (.string p.s) ∧ V.cell? ⟨q + 1, 4, none⟩ = some (.slice (some ⟨b, o, none⟩) p.l.length qc)) ∧ V.cell? ⟨b, o + 1, none⟩ = some (.int .i64 s0))))
     clear hcl n0
     refine wp_region_held_drew (S := (fun V => (V.cell? ⟨q, 0, none⟩ = some (.slice A g.nodes.length c) ∧ V.cell? ⟨q, 1, none⟩ = some (.slice B g.edges.length d) ∧ V.cell? ⟨q, 2, none⟩ = some (.int .i64 g.nn) ∧ V.cell? ⟨q, 3, none⟩ = some (.int .i64 g.ne)) ∧ (V.cell? ⟨q + 1, 0, none⟩ = some (.int .i64 p.kind) ∧ V.cell? ⟨q + 1, 1, none⟩ = some (.int .i64 p.n) ∧ V.cell? ⟨q + 1, 2, none⟩ = some (.int .i64 p.d) ∧ V.cell? ⟨q + 1, 3, none⟩ = some (.string p.s) ∧ V.cell? ⟨q + 1, 4, none⟩ = some (.slice (some ⟨b, o, none⟩) p.l.length qc)) ∧ V.cell? ⟨b, o + 1, none⟩ = some (.int .i64 s0))) (by kernel_rfl) ?hs12116 (fun hHeld => ?go12116)
     case hs12116 => (exact MK1.out _ (by solve_by_elim [X0, X1, X2, X3]))
     refine TK 0 (v := ?v12117) hHeld ?hy12117 ?_
     case hy12117 => (intro w hSw; (try dsimp only at hSw); go_simp <;> first | with_reducible rfl | rw [if_neg (by omega)] | rw [if_pos (by omega)])
     (try simp only [PU])
     refine wpAnyH_ready (rs := [1]) (by kernel_rfl) (by simp) ?_
     refine AllReadyH.cons (o := ⟨_, _, _, _, _, _⟩) rfl (fun K hK => ?step12118x0) ?more12118x0
     case more12118x0 => exact AllReadyH.nil
     go_simp
     (with_reducible refine (HCH.out _ (by solve_by_elim [X0, X1, X2, X3])).mono ?_; rintro r w3 ⟨rfl, hx3⟩; replace hx3 : Ext w2 w3 := Ext.trans (by solve_by_elim [X0, X1, X2, X3]) hx3)
     refine hK.out _ _ ?hS12118x0 (fun H12118 => ?_)
     case hS12118x0 => first | (exact MK1.out _ (by solve_by_elim [X0, X1, X2, X3])) | ((try dsimp only); (exact MK1.out _ (by solve_by_elim [X0, X1, X2, X3])))
     clear hK K
     clear hHeld
     (try simp only [PU])
     refine TK 2 (v := ?v12119) H12118 ?hy12119 ?_
     case hy12119 => (intro w _; go_simp <;> first | with_reducible rfl | rw [if_neg (by omega)] | rw [if_pos (by omega)])
     (try simp only [PU])
     refine TK 3 (v := ?v12120) H12118 ?hy12120 ?_
     case hy12120 => (intro w _; go_simp <;> rfl)
     (try simp only [PU])
     refine TK 4 (v := ?v12121) H12118 ?hy12121 ?_
     case hy12121 => (intro w hSw; (try dsimp only at hSw); go_simp <;> first | with_reducible rfl | rw [if_neg (by omega)] | rw [if_pos (by omega)])
     (try simp only [PU])
     refine wpAnyH_ready (rs := [5]) (by kernel_rfl) (by simp) ?_
     refine AllReadyH.cons (o := ⟨_, _, _, _, _, _⟩) rfl (fun K hK => ?step12122x0) ?more12122x0
     case more12122x0 => exact AllReadyH.nil
     go_simp
     (with_reducible refine (HVA.out _ (by solve_by_elim [X0, X1, X2, X3])).mono ?_; rintro r w4 ⟨rfl, hx4⟩; replace hx4 : Ext w2 w4 := Ext.trans (by solve_by_elim [X0, X1, X2, X3]) hx4)
     refine hK.out _ _ ?hS12122x0 (fun H12122 => ?_)
     case hS12122x0 => first | (exact MK1.out _ (by solve_by_elim [X0, X1, X2, X3])) | ((try dsimp only); (exact MK1.out _ (by solve_by_elim [X0, X1, X2, X3])))
     clear hK K
     clear H12118
     (try simp only [PU])
     refine TK 6 (v := ?v12123) H12122 ?hy12123 ?_
     case hy12123 => (intro w _; go_simp <;> first | with_reducible rfl | rw [if_neg (by omega)] | rw [if_pos (by omega)])
     (try simp only [PU])
     refine TK 7 (v := ?v12124) H12122 ?hy12124 ?_
     case hy12124 => (intro w _; go_simp <;> rfl)
     (try simp only [PU])
     refine TK 8 (v := ?v12125) H12122 ?hy12125 ?_
     case hy12125 => (intro w _; go_simp <;> rfl)
     (try simp only [PU])
     refine TK 9 (v := ?v12126) H12122 ?hy12126 ?_
     case hy12126 => (intro w hSw; (try dsimp only at hSw); go_simp <;> first | with_reducible rfl | rw [if_neg (by omega)] | rw [if_pos (by omega)])
     (try simp only [PU])
     refine TK 10 (v := ?v12127) H12122 ?hy12127 ?_
     case hy12127 => (intro w _; go_simp <;> rfl)
     (try simp only [PU])
     refine TK 11 (v := ?v12128) H12122 ?hy12128 ?_
     case hy12128 => (intro w hSw; (try dsimp only at hSw); go_simp <;> first | with_reducible rfl | rw [if_neg (by omega)] | rw [if_pos (by omega)])
     (try simp only [PU])
     refine TK 12 (v := ?v12129) H12122 ?hy12129 ?_
     case hy12129 => (intro w _; go_simp <;> first | with_reducible rfl | rw [if_neg (by omega)] | rw [if_pos (by omega)])
     (try simp only [PU])
     refine TK 13 (v := ?v12130) H12122 ?hy12130 ?_
     case hy12130 => (intro w _; go_simp <;> rfl)
     (try simp only [PU])
     refine TK 14 (v := ?v12131) H12122 ?hy12131 ?_
     case hy12131 => (intro w hSw; (try dsimp only at hSw); go_simp <;> first | with_reducible rfl | rw [if_neg (by omega)] | rw [if_pos (by omega)])
     (try simp only [PU])
     refine wpAnyH_ready (rs := [15]) (by kernel_rfl) (by simp) ?_
     refine AllReadyH.cons (o := ⟨_, _, _, _, _, _⟩) rfl (fun K hK => ?step12132x0) ?more12132x0
     case more12132x0 => exact AllReadyH.nil
     go_simp
     (with_reducible refine (HHA.out _ (by solve_by_elim [X0, X1, X2, X3])).mono ?_; rintro r w5 ⟨rfl, hx5⟩; replace hx5 : Ext w2 w5 := Ext.trans (by solve_by_elim [X0, X1, X2, X3]) hx5)
     refine hK.out _ _ ?hS12132x0 (fun H12132 => ?_)
     case hS12132x0 => first | (exact MK1.out _ (by solve_by_elim [X0, X1, X2, X3])) | ((try dsimp only); (exact MK1.out _ (by solve_by_elim [X0, X1, X2, X3])))
     clear hK K
     clear H12122
     (try simp only [PU])
     refine TK 16 (v := ?v12133) H12132 ?hy12133 ?_
     case hy12133 => (intro w _; go_simp <;> first | with_reducible rfl | rw [if_neg (by omega)] | rw [if_pos (by omega)])
     (try simp only [PU])
     refine TK 17 (v := ?v12134) H12132 ?hy12134 ?_
     case hy12134 => (intro w _; go_simp <;> rfl)
     (try simp only [PU])
     refine TK 18 (v := ?v12135) H12132 ?hy12135 ?_
     case hy12135 => (intro w _; go_simp <;> rfl)
     (try simp only [PU])
     refine TK 19 (v := ?v12136) H12132 ?hy12136 ?_
     case hy12136 => (intro w hSw; (try dsimp only at hSw); go_simp <;> first | with_reducible rfl | rw [if_neg (by omega)] | rw [if_pos (by omega)])
     (try simp only [PU])
     refine TK 20 (v := ?v12137) H12132 ?hy12137 ?_
     case hy12137 => (intro w _; go_simp <;> rfl)
     (try simp only [PU])
     refine wpAnyH_ready (rs := [21]) (by kernel_rfl) (by simp) ?_
     refine AllReadyH.cons (o := ⟨_, _, _, _, _, _⟩) rfl (fun K hK => ?step12138x0) ?more12138x0
     case more12138x0 => exact AllReadyH.nil
     go_simp
     (with_reducible refine (HAL.out _ (by solve_by_elim [X0, X1, X2, X3])).mono ?_; rintro r w6 ⟨rfl, hx6⟩; replace hx6 : Ext w2 w6 := Ext.trans (by solve_by_elim [X0, X1, X2, X3]) hx6)
     refine hK.out _ _ ?hS12138x0 (fun H12138 => ?_)
     case hS12138x0 => first | (exact MK1.out _ (by solve_by_elim [X0, X1, X2, X3])) | ((try dsimp only); (exact MK1.out _ (by solve_by_elim [X0, X1, X2, X3])))
     clear hK K
     clear H12132
     (try simp only [PU])
     refine TK 22 (v := ?v12139) H12138 ?hy12139 ?_
     case hy12139 => (intro w _; go_simp <;> first | with_reducible rfl | rw [if_neg (by omega)] | rw [if_pos (by omega)])
     (try simp only [PU])
     refine TK 23 (v := ?v12140) H12138 ?hy12140 ?_
     case hy12140 => (intro w _; go_simp <;> rfl)
     (try simp only [PU])
     refine wpAnyH_done (by kernel_rfl) ?_ _
     clear H12138
     go_wp2_with fail
     go_ret
     exact ⟨ret_bool HRF.out.symm, HX.out.trans hx6⟩
    ·rw [ha] at HAL
     have HR4 := Lib.hid (HYS.out HNN.out HC0.out ha hh)
     clear HNO HYS hh ha
     generalize p.l[0]!.n = s0 at *
     have MK1 := Lib.hid (fun V (e' : Ext w2 V) => (⟨(MK0.out V e').1, (MK0.out V e').2, e'.cell n0⟩ : ((V.cell? ⟨q, 0, none⟩ = some (.slice A g.nodes.length c) ∧ V.cell? ⟨q, 1, none⟩ = some (.slice B g.edges.length d) ∧ V.cell? ⟨q, 2, none⟩ = some (.int .i64 g.nn) ∧ V.cell? ⟨q, 3, none⟩ = some (.int .i64 g.ne)) ∧ (V.cell? ⟨q + 1, 0, none⟩ = some (.int .i64 p.kind) ∧ V.cell? ⟨q + 1, 1, none⟩ = some (.int .i64 p.n) ∧ V.cell? ⟨q + 1, 2, none⟩ = some (.int .i64 p.d) ∧ V.cell? ⟨q + 1, 3, none⟩ = some (.string p.s) ∧ V.cell? ⟨q + 1, 4, none⟩ = some (.slice (some ⟨b, o, none⟩) p.l.length qc)) ∧ V.cell? ⟨b, o + 1, none⟩ = some (.int .i64 s0))))
     clear hcl n0
     refine wp_region_held_drew (S := (fun V => (V.cell? ⟨q, 0, none⟩ = some (.slice A g.nodes.length c) ∧ V.cell? ⟨q, 1, none⟩ = some (.slice B g.edges.length d) ∧ V.cell? ⟨q, 2, none⟩ = some (.int .i64 g.nn) ∧ V.cell? ⟨q, 3, none⟩ = some (.int .i64 g.ne)) ∧ (V.cell? ⟨q + 1, 0, none⟩ = some (.int .i64 p.kind) ∧ V.cell? ⟨q + 1, 1, none⟩ = some (.int .i64 p.n) ∧ V.cell? ⟨q + 1, 2, none⟩ = some (.int .i64 p.d) ∧ V.cell? ⟨q + 1, 3, none⟩ = some (.string p.s) ∧ V.cell? ⟨q + 1, 4, none⟩ = some (.slice (some ⟨b, o, none⟩) p.l.length qc)) ∧ V.cell? ⟨b, o + 1, none⟩ = some (.int .i64 s0))) (by kernel_rfl) ?hs12141 (fun hHeld => ?go12141)
     case hs12141 => (exact MK1.out _ (by solve_by_elim [X0, X1, X2, X3]))
     refine TK 0 (v := ?v12142) hHeld ?hy12142 ?_
     case hy12142 => (intro w hSw; (try dsimp only at hSw); go_simp <;> first | with_reducible rfl | rw [if_neg (by omega)] | rw [if_pos (by omega)])
     (try simp only [PU])
     refine wpAnyH_ready (rs := [1]) (by kernel_rfl) (by simp) ?_
     refine AllReadyH.cons (o := ⟨_, _, _, _, _, _⟩) rfl (fun K hK => ?step12143x0) ?more12143x0
     case more12143x0 => exact AllReadyH.nil
     go_simp
     (with_reducible refine (HCH.out _ (by solve_by_elim [X0, X1, X2, X3])).mono ?_; rintro r w3 ⟨rfl, hx3⟩; replace hx3 : Ext w2 w3 := Ext.trans (by solve_by_elim [X0, X1, X2, X3]) hx3)
     refine hK.out _ _ ?hS12143x0 (fun H12143 => ?_)
     case hS12143x0 => first | (exact MK1.out _ (by solve_by_elim [X0, X1, X2, X3])) | ((try dsimp only); (exact MK1.out _ (by solve_by_elim [X0, X1, X2, X3])))
     clear hK K
     clear hHeld
     (try simp only [PU])
     refine TK 2 (v := ?v12144) H12143 ?hy12144 ?_
     case hy12144 => (intro w _; go_simp <;> first | with_reducible rfl | rw [if_neg (by omega)] | rw [if_pos (by omega)])
     (try simp only [PU])
     refine TK 3 (v := ?v12145) H12143 ?hy12145 ?_
     case hy12145 => (intro w _; go_simp <;> rfl)
     (try simp only [PU])
     refine TK 4 (v := ?v12146) H12143 ?hy12146 ?_
     case hy12146 => (intro w hSw; (try dsimp only at hSw); go_simp <;> first | with_reducible rfl | rw [if_neg (by omega)] | rw [if_pos (by omega)])
     (try simp only [PU])
     refine wpAnyH_ready (rs := [5]) (by kernel_rfl) (by simp) ?_
     refine AllReadyH.cons (o := ⟨_, _, _, _, _, _⟩) rfl (fun K hK => ?step12147x0) ?more12147x0
     case more12147x0 => exact AllReadyH.nil
     go_simp
     (with_reducible refine (HVA.out _ (by solve_by_elim [X0, X1, X2, X3])).mono ?_; rintro r w4 ⟨rfl, hx4⟩; replace hx4 : Ext w2 w4 := Ext.trans (by solve_by_elim [X0, X1, X2, X3]) hx4)
     refine hK.out _ _ ?hS12147x0 (fun H12147 => ?_)
     case hS12147x0 => first | (exact MK1.out _ (by solve_by_elim [X0, X1, X2, X3])) | ((try dsimp only); (exact MK1.out _ (by solve_by_elim [X0, X1, X2, X3])))
     clear hK K
     clear H12143
     (try simp only [PU])
     refine TK 6 (v := ?v12148) H12147 ?hy12148 ?_
     case hy12148 => (intro w _; go_simp <;> first | with_reducible rfl | rw [if_neg (by omega)] | rw [if_pos (by omega)])
     (try simp only [PU])
     refine TK 7 (v := ?v12149) H12147 ?hy12149 ?_
     case hy12149 => (intro w _; go_simp <;> rfl)
     (try simp only [PU])
     refine TK 8 (v := ?v12150) H12147 ?hy12150 ?_
     case hy12150 => (intro w _; go_simp <;> rfl)
     (try simp only [PU])
     refine TK 9 (v := ?v12151) H12147 ?hy12151 ?_
     case hy12151 => (intro w hSw; (try dsimp only at hSw); go_simp <;> first | with_reducible rfl | rw [if_neg (by omega)] | rw [if_pos (by omega)])
     (try simp only [PU])
     refine TK 10 (v := ?v12152) H12147 ?hy12152 ?_
     case hy12152 => (intro w _; go_simp <;> rfl)
     (try simp only [PU])
     refine TK 11 (v := ?v12153) H12147 ?hy12153 ?_
     case hy12153 => (intro w hSw; (try dsimp only at hSw); go_simp <;> first | with_reducible rfl | rw [if_neg (by omega)] | rw [if_pos (by omega)])
     (try simp only [PU])
     refine TK 12 (v := ?v12154) H12147 ?hy12154 ?_
     case hy12154 => (intro w _; go_simp <;> first | with_reducible rfl | rw [if_neg (by omega)] | rw [if_pos (by omega)])
     (try simp only [PU])
     refine TK 13 (v := ?v12155) H12147 ?hy12155 ?_
     case hy12155 => (intro w _; go_simp <;> rfl)
     (try simp only [PU])
     refine TK 14 (v := ?v12156) H12147 ?hy12156 ?_
     case hy12156 => (intro w hSw; (try dsimp only at hSw); go_simp <;> first | with_reducible rfl | rw [if_neg (by omega)] | rw [if_pos (by omega)])
     (try simp only [PU])
     refine wpAnyH_ready (rs := [15]) (by kernel_rfl) (by simp) ?_
     refine AllReadyH.cons (o := ⟨_, _, _, _, _, _⟩) rfl (fun K hK => ?step12157x0) ?more12157x0
     case more12157x0 => exact AllReadyH.nil
     go_simp
     (with_reducible refine (HHA.out _ (by solve_by_elim [X0, X1, X2, X3])).mono ?_; rintro r w5 ⟨rfl, hx5⟩; replace hx5 : Ext w2 w5 := Ext.trans (by solve_by_elim [X0, X1, X2, X3]) hx5)
     refine hK.out _ _ ?hS12157x0 (fun H12157 => ?_)
     case hS12157x0 => first | (exact MK1.out _ (by solve_by_elim [X0, X1, X2, X3])) | ((try dsimp only); (exact MK1.out _ (by solve_by_elim [X0, X1, X2, X3])))
     clear hK K
     clear H12147
     (try simp only [PU])
     refine TK 16 (v := ?v12158) H12157 ?hy12158 ?_
     case hy12158 => (intro w _; go_simp <;> first | with_reducible rfl | rw [if_neg (by omega)] | rw [if_pos (by omega)])
     (try simp only [PU])
     refine TK 17 (v := ?v12159) H12157 ?hy12159 ?_
     case hy12159 => (intro w _; go_simp <;> rfl)
     (try simp only [PU])
     refine TK 18 (v := ?v12160) H12157 ?hy12160 ?_
     case hy12160 => (intro w _; go_simp <;> rfl)
     (try simp only [PU])
     refine TK 19 (v := ?v12161) H12157 ?hy12161 ?_
     case hy12161 => (intro w hSw; (try dsimp only at hSw); go_simp <;> first | with_reducible rfl | rw [if_neg (by omega)] | rw [if_pos (by omega)])
     (try simp only [PU])
     refine TK 20 (v := ?v12162) H12157 ?hy12162 ?_
     case hy12162 => (intro w _; go_simp <;> rfl)
     (try simp only [PU])
     refine wpAnyH_ready (rs := [21]) (by kernel_rfl) (by simp) ?_
     refine AllReadyH.cons (o := ⟨_, _, _, _, _, _⟩) rfl (fun K hK => ?step12163x0) ?more12163x0
     case more12163x0 => exact AllReadyH.nil
     go_simp
     (with_reducible refine (HAL.out _ (by solve_by_elim [X0, X1, X2, X3])).mono ?_; rintro r w6 ⟨rfl, hx6⟩; replace hx6 : Ext w2 w6 := Ext.trans (by solve_by_elim [X0, X1, X2, X3]) hx6)
     refine hK.out _ _ ?hS12163x0 (fun H12163 => ?_)
     case hS12163x0 => first | (exact MK1.out _ (by solve_by_elim [X0, X1, X2, X3])) | ((try dsimp only); (exact MK1.out _ (by solve_by_elim [X0, X1, X2, X3])))
     clear hK K
     clear H12157
     (try simp only [PU])
     refine TK 22 (v := ?v12164) H12163 ?hy12164 ?_
     case hy12164 => (intro w _; go_simp <;> first | with_reducible rfl | rw [if_neg (by omega)] | rw [if_pos (by omega)])
     (try simp only [PU])
     refine TK 23 (v := ?v12165) H12163 ?hy12165 ?_
     case hy12165 => (intro w _; go_simp <;> rfl)
     (try simp only [PU])
     refine wpAnyH_done (by kernel_rfl) ?_ _
     clear H12163
     have HX6 := Lib.hid hx6
     clear hx3 hx4 hx5 hx6 HCH HVA HHA HAL MK1
     go_wp2_with fail
     go_loopw [11] (fun u W => ∃ i : Nat, u = .int .i64 i ∧ Hid (∃ k, i = 2 * k + 1 ∧ k ≤ p.l.length / 2 ∧ ∀ j, j < k → stepB g types dir p.l[2 * j]!.n p.l[2 * j + 1]!.n p.l[2 * j + 2]!.n = true) ∧ Hid (Ext w2 W)) (fun u _ => p.l.length - (intOf u).toNat)
     case atStart => exact ⟨1, rfl, Lib.hid ⟨0, rfl, Nat.zero_le _, fun j hj => absurd hj (Nat.not_lt_zero _)⟩, HX6⟩
     case round =>
      obtain ⟨i, rfl, hin, hE⟩ := hrel
      obtain ⟨⟨g0, g1, g2, g3⟩, -, -, -, -, c4⟩ := MK0.out wr hE.out
      by_cases hlt : i < p.l.length
      ·have h25 := HPO.out.2.1
       obtain ⟨m, n, hmi, hni⟩ : ∃ m n, i = m + 1 ∧ n = m + 2 := ⟨i - 1, i + 1, by obtain ⟨k, h1, -, -⟩ := hin.out; omega, by obtain ⟨k, h1, -, -⟩ := hin.out; omega⟩
       have hm2 : n < p.l.length := by
        obtain ⟨k, h1, -, -⟩ := hin.out
        have := HPO.out.1
        omega
       have HN0 := Lib.hid (HNS.out m (by omega))
       have HN1 := Lib.hid (HNS.out i hlt)
       have HN2 := Lib.hid (HNS.out n hm2)
       obtain ⟨sb, hsb⟩ : ∃ sb, sb = stepB g types dir p.l[m]!.n p.l[i]!.n p.l[n]!.n := ⟨_, rfl⟩
       have HNO := Lib.hid (fun (h : sb = false) => (by
        obtain ⟨k, h1, h2, h3⟩ := hin.out
        rw [HR4.out]
        refine stepsB_no (j := k) (by omega) ?_
        rw [show 2 * k + 2 = n by omega, show 2 * k + 1 = i by omega, show 2 * k = m by omega, ← hsb]; exact h : R = false))
       have HYES := Lib.hid (fun (h : sb = true) => (by
        obtain ⟨k, h1, h2, h3⟩ := hin.out
        refine ⟨k + 1, by omega, by omega, fun j hj => ?_⟩
        by_cases e1 : j = k
        ·subst e1
         rw [show 2 * j + 2 = n by omega, show 2 * j + 1 = i by omega, show 2 * j = m by omega, ← hsb]; exact h
        ·exact h3 j (by omega) : ∃ k, i + 2 = 2 * k + 1 ∧ k ≤ p.l.length / 2 ∧ ∀ j, j < k → stepB g types dir p.l[2 * j]!.n p.l[2 * j + 1]!.n p.l[2 * j + 2]!.n = true))
       generalize p.l[m]!.n = a at *
       generalize p.l[i]!.n = ee at *
       generalize p.l[n]!.n = bb at *
       clear hin
       have wm1 : IntKind.i64.wrap ((i : Int) - 1) = (m : Int) := by rw [IntKind.wrap_i64]; omega
       have wm2 : IntKind.i64.wrap ((i : Int) + 1) = (n : Int) := by rw [IntKind.wrap_i64]; omega
       have hml : m < p.l.length := by omega
       clear hmi hni
       obtain ⟨fa, hfa⟩ : ∃ fa, fa = faB g types dir a ee bb := ⟨_, rfl⟩
       have HF0 := Lib.hid (show fa 0 = false by rw [hfa]; unfold faB; rw [List.take_zero]; rfl)
       have HFE := Lib.hid (show fa g.edges.length = sb by rw [hfa, hsb, faB_end])
       have HFH := Lib.hid (fun j (hj : j < g.edges.length) h1 h2 => (by rw [hfa]; exact faB_hit (good_of HC0.out) hj h1 h2 : fa (j + 1) = cB dir a bb g.edges[j]!.frm g.edges[j]!.to_))
       have HFM := Lib.hid (fun j (hj : j < g.edges.length) h => (by rw [hfa]; exact faB_miss hj h : fa (j + 1) = fa j))
       clear hsb hfa
       go_wp2_with fail
       clear g0 g1 g2 g3 c4
       go_loopw [12, 13] (fun v u W => ∃ j : Nat, u = .int .i64 j ∧ j ≤ g.edges.length ∧ v = .bool (fa j) ∧ Hid (Ext w2 W)) (fun _ u _ => g.edges.length - (intOf u).toNat)
       case atStart => exact ⟨0, rfl, Nat.zero_le _, congrArg Value.bool HF0.out.symm, hE⟩
       case round =>
        clear hE
        obtain ⟨j, rfl, hj, rfl, hE3⟩ := hrel
        obtain ⟨⟨g0, g1, g2, g3⟩, -, -, -, -, c4⟩ := MK0.out wr hE3.out
        have hel := HLE.out
        by_cases hjl : j < g.edges.length
        ·obtain ⟨be, oe, rfl, hce⟩ := HED.out.2 (by omega)
         obtain ⟨-, d0, d1, d2, d3, E', pc, d4, -⟩ := hce j hjl
         rw [← getElem!_pos g.edges j hjl] at d0 d1 d2 d3 d4
         replace d0 := hE3.out.cell d0
         replace d1 := hE3.out.cell d1
         replace d2 := hE3.out.cell d2
         replace d3 := hE3.out.cell d3
         replace d4 := hE3.out.cell d4
         have HH := Lib.hid (HFH.out j hjl)
         have HM := Lib.hid (HFM.out j hjl)
         clear hce
         have HLJ := Lib.hid hjl
         generalize g.edges[j]!.props.length = pl at *
         generalize g.edges[j]!.id = xi at *
         generalize g.edges[j]!.frm = xf at *
         generalize g.edges[j]!.to_ = xt at *
         generalize g.edges[j]!.typ = xs at *
         obtain ⟨y, wc, hy, hwc, y0, y1, y2, y3, hx9⟩ := box_edgeS wr xi xf xt xs E' pl pc
         have HWC := Lib.hid hwc
         have HY := Lib.hid hy
         clear hwc hy
         go_upto_region 11 with (fail)
         rw [← HWC.out, ← HY.out]
         clear HWC HY g0 g1 g2 g3 d0 d1 d2 d3 d4
         have c5 := hx9.cell c4
         have m1 := (hE3.out.trans hx9).cell HN1.out
         have m0 := (hE3.out.trans hx9).cell HN0.out
         have m2 := (hE3.out.trans hx9).cell HN2.out
         clear c4
         have MK11 := Lib.hid (fun V (e' : Ext wc V) => (⟨⟨e'.cell y0, e'.cell y3⟩, e'.cell c5, e'.cell m1⟩ : ((V.cell? ⟨y, 0, none⟩ = some (.int .i64 xi) ∧ V.cell? ⟨y, 3, none⟩ = some (.string xs)) ∧ V.cell? ⟨q + 1, 4, none⟩ = some (.slice (some ⟨b, o, none⟩) p.l.length qc) ∧ V.cell? ⟨b, o + i * 5 + 1, none⟩ = some (.int .i64 ee))))
         have MK12 := Lib.hid (fun V (e' : Ext wc V) => (⟨⟨e'.cell y1, e'.cell y2⟩, e'.cell c5, e'.cell m0, e'.cell m2⟩ : ((V.cell? ⟨y, 1, none⟩ = some (.int .i64 xf) ∧ V.cell? ⟨y, 2, none⟩ = some (.int .i64 xt)) ∧ V.cell? ⟨q + 1, 4, none⟩ = some (.slice (some ⟨b, o, none⟩) p.l.length qc) ∧ V.cell? ⟨b, o + m * 5 + 1, none⟩ = some (.int .i64 a) ∧ V.cell? ⟨b, o + n * 5 + 1, none⟩ = some (.int .i64 bb))))
         have HTY' := Lib.hid (fun V (e' : Ext wc V) => HTY.out xs V ((hE3.out.trans hx9).trans e'))
         clear y0 y1 y2 y3 c5 m0 m1 m2
         by_cases hid : xi = ee
         ·have hib : (xi == ee) = true := beq_iff_eq.2 hid
          cases htb : typB types xs
          ·have HT := Lib.hid (HM.out (.inr htb))
           rw [htb] at HTY'
           clear HH HM hid htb MK12
           refine wp_region_held_drew (S := (fun V => (V.cell? ⟨y, 0, none⟩ = some (.int .i64 xi) ∧ V.cell? ⟨y, 3, none⟩ = some (.string xs)) ∧ V.cell? ⟨q + 1, 4, none⟩ = some (.slice (some ⟨b, o, none⟩) p.l.length qc) ∧ V.cell? ⟨b, o + i * 5 + 1, none⟩ = some (.int .i64 ee))) (by kernel_rfl) ?hs12017 (fun hHeld => ?go12017)
           case hs12017 => (exact MK11.out _ (by solve_by_elim [X0, X1, X2, X3]))
           refine TK 0 (v := ?v12018) hHeld ?hy12018 ?_
           case hy12018 => (intro w _; go_simp <;> rfl)
           (try simp only [PU])
           refine TK 1 (v := ?v12019) hHeld ?hy12019 ?_
           case hy12019 => (intro w hSw; (try dsimp only at hSw); go_simp <;> first | with_reducible rfl | rw [if_neg (by omega)] | rw [if_pos (by omega)])
           (try simp only [PU])
           refine TK 2 (v := ?v12020) hHeld ?hy12020 ?_
           case hy12020 => (intro w _; go_simp <;> rfl)
           (try simp only [PU])
           refine TK 3 (v := ?v12021) hHeld ?hy12021 ?_
           case hy12021 => (intro w hSw; (try dsimp only at hSw); go_simp <;> first | with_reducible rfl | rw [if_neg (by omega)] | rw [if_pos (by omega)])
           (try simp only [PU])
           refine TK 4 (v := ?v12022) hHeld ?hy12022 ?_
           case hy12022 => (intro w _; go_simp <;> rfl)
           (try simp only [PU])
           refine TK 5 (v := ?v12023) hHeld ?hy12023 ?_
           case hy12023 => (intro w _; go_simp <;> first | with_reducible rfl | rw [if_neg (by omega)] | rw [if_pos (by omega)])
           (try simp only [PU])
           refine TK 6 (v := ?v12024) hHeld ?hy12024 ?_
           case hy12024 => (intro w _; go_simp <;> rfl)
           (try simp only [PU])
           refine TK 7 (v := ?v12025) hHeld ?hy12025 ?_
           case hy12025 => (intro w hSw; (try dsimp only at hSw); go_simp <;> first | with_reducible rfl | rw [if_neg (by omega)] | rw [if_pos (by omega)])
           (try simp only [PU])
           refine TK 8 (v := ?v12026) hHeld ?hy12026 ?_
           case hy12026 => (intro w _; go_simp <;> first | with_reducible rfl | rw [if_neg (by omega)] | rw [if_pos (by omega)])
           (try simp only [PU])
           refine TK 9 (v := ?v12027) hHeld ?hy12027 ?_
           case hy12027 => (intro w _; go_simp <;> rfl)
           (try simp only [PU])
           refine TK 10 (v := ?v12028) hHeld ?hy12028 ?_
           case hy12028 => (intro w _; go_simp <;> rfl)
           (try simp only [PU])
           refine TK 11 (v := ?v12029) hHeld ?hy12029 ?_
           case hy12029 => (intro w hSw; (try dsimp only at hSw); go_simp <;> first | with_reducible rfl | rw [if_neg (by omega)] | rw [if_pos (by omega)])
           (try simp only [PU])
           refine TK 12 (v := ?v12030) hHeld ?hy12030 ?_
           case hy12030 => (intro w _; go_simp <;> rfl)
           (try simp only [PU])
           refine wpAnyH_ready (rs := [13]) (by kernel_rfl) (by simp) ?_
           refine AllReadyH.cons (o := ⟨_, _, _, _, _, _⟩) rfl (fun K hK => ?step12031x0) ?more12031x0
           case more12031x0 => exact AllReadyH.nil
           go_simp
           (with_reducible refine (HTY'.out _ (by solve_by_elim [X0, X1, X2, X3])).mono ?_; rintro r w9 ⟨rfl, rfl⟩)
           refine hK.out _ _ ?hS12031x0 (fun H12031 => ?_)
           case hS12031x0 => first | (exact MK11.out _ (by solve_by_elim [X0, X1, X2, X3])) | ((try dsimp only); (exact MK11.out _ (by solve_by_elim [X0, X1, X2, X3])))
           clear hK K
           clear hHeld
           (try simp only [PU])
           refine TK 14 (v := ?v12032) H12031 ?hy12032 ?_
           case hy12032 => (intro w _; go_simp <;> rfl)
           (try simp only [PU])
           refine wpAnyH_done (by kernel_rfl) ?_ _
           clear H12031
           go_wp2_with fail
           go_roundw
           case rel => exact ⟨j + 1, by go_num, by omega, congrArg Value.bool HT.out.symm, Lib.hid (hE3.out.trans (hx9.trans (by solve_by_elim [X0, X1, X2, X3])))⟩
           case measure => simp [intOf]; omega
          ·have HFS := Lib.hid (HH.out hid htb)
           rw [htb] at HTY'
           clear HH HM hid htb
           refine wp_region_held_drew (S := (fun V => (V.cell? ⟨y, 0, none⟩ = some (.int .i64 xi) ∧ V.cell? ⟨y, 3, none⟩ = some (.string xs)) ∧ V.cell? ⟨q + 1, 4, none⟩ = some (.slice (some ⟨b, o, none⟩) p.l.length qc) ∧ V.cell? ⟨b, o + i * 5 + 1, none⟩ = some (.int .i64 ee))) (by kernel_rfl) ?hs12033 (fun hHeld => ?go12033)
           case hs12033 => (exact MK11.out _ (by solve_by_elim [X0, X1, X2, X3]))
           refine TK 0 (v := ?v12034) hHeld ?hy12034 ?_
           case hy12034 => (intro w _; go_simp <;> rfl)
           (try simp only [PU])
           refine TK 1 (v := ?v12035) hHeld ?hy12035 ?_
           case hy12035 => (intro w hSw; (try dsimp only at hSw); go_simp <;> first | with_reducible rfl | rw [if_neg (by omega)] | rw [if_pos (by omega)])
           (try simp only [PU])
           refine TK 2 (v := ?v12036) hHeld ?hy12036 ?_
           case hy12036 => (intro w _; go_simp <;> rfl)
           (try simp only [PU])
           refine TK 3 (v := ?v12037) hHeld ?hy12037 ?_
           case hy12037 => (intro w hSw; (try dsimp only at hSw); go_simp <;> first | with_reducible rfl | rw [if_neg (by omega)] | rw [if_pos (by omega)])
           (try simp only [PU])
           refine TK 4 (v := ?v12038) hHeld ?hy12038 ?_
           case hy12038 => (intro w _; go_simp <;> rfl)
           (try simp only [PU])
           refine TK 5 (v := ?v12039) hHeld ?hy12039 ?_
           case hy12039 => (intro w _; go_simp <;> first | with_reducible rfl | rw [if_neg (by omega)] | rw [if_pos (by omega)])
           (try simp only [PU])
           refine TK 6 (v := ?v12040) hHeld ?hy12040 ?_
           case hy12040 => (intro w _; go_simp <;> rfl)
           (try simp only [PU])
           refine TK 7 (v := ?v12041) hHeld ?hy12041 ?_
           case hy12041 => (intro w hSw; (try dsimp only at hSw); go_simp <;> first | with_reducible rfl | rw [if_neg (by omega)] | rw [if_pos (by omega)])
           (try simp only [PU])
           refine TK 8 (v := ?v12042) hHeld ?hy12042 ?_
           case hy12042 => (intro w _; go_simp <;> first | with_reducible rfl | rw [if_neg (by omega)] | rw [if_pos (by omega)])
           (try simp only [PU])
           refine TK 9 (v := ?v12043) hHeld ?hy12043 ?_
           case hy12043 => (intro w _; go_simp <;> rfl)
           (try simp only [PU])
           refine TK 10 (v := ?v12044) hHeld ?hy12044 ?_
           case hy12044 => (intro w _; go_simp <;> rfl)
           (try simp only [PU])
           refine TK 11 (v := ?v12045) hHeld ?hy12045 ?_
           case hy12045 => (intro w hSw; (try dsimp only at hSw); go_simp <;> first | with_reducible rfl | rw [if_neg (by omega)] | rw [if_pos (by omega)])
           (try simp only [PU])
           refine TK 12 (v := ?v12046) hHeld ?hy12046 ?_
           case hy12046 => (intro w _; go_simp <;> rfl)
           (try simp only [PU])
           refine wpAnyH_ready (rs := [13]) (by kernel_rfl) (by simp) ?_
           refine AllReadyH.cons (o := ⟨_, _, _, _, _, _⟩) rfl (fun K hK => ?step12047x0) ?more12047x0
           case more12047x0 => exact AllReadyH.nil
           go_simp
           (with_reducible refine (HTY'.out _ (by solve_by_elim [X0, X1, X2, X3])).mono ?_; rintro r w9 ⟨rfl, rfl⟩)
           refine hK.out _ _ ?hS12047x0 (fun H12047 => ?_)
           case hS12047x0 => first | (exact MK11.out _ (by solve_by_elim [X0, X1, X2, X3])) | ((try dsimp only); (exact MK11.out _ (by solve_by_elim [X0, X1, X2, X3])))
           clear hK K
           clear hHeld
           (try simp only [PU])
           refine TK 14 (v := ?v12048) H12047 ?hy12048 ?_
           case hy12048 => (intro w _; go_simp <;> rfl)
           (try simp only [PU])
           refine wpAnyH_done (by kernel_rfl) ?_ _
           clear H12047
           go_upto_region 12 with (fail)
           refine wp_region_held_drew (S := (fun V => (V.cell? ⟨y, 1, none⟩ = some (.int .i64 xf) ∧ V.cell? ⟨y, 2, none⟩ = some (.int .i64 xt)) ∧ V.cell? ⟨q + 1, 4, none⟩ = some (.slice (some ⟨b, o, none⟩) p.l.length qc) ∧ V.cell? ⟨b, o + m * 5 + 1, none⟩ = some (.int .i64 a) ∧ V.cell? ⟨b, o + n * 5 + 1, none⟩ = some (.int .i64 bb))) (by kernel_rfl) ?hs12049 (fun hHeld => ?go12049)
           case hs12049 => (exact MK12.out _ (by solve_by_elim [X0, X1, X2, X3]))
           refine TK 0 (v := ?v12050) hHeld ?hy12050 ?_
           case hy12050 => (intro w _; go_simp <;> rfl)
           (try simp only [PU])
           refine TK 1 (v := ?v12051) hHeld ?hy12051 ?_
           case hy12051 => (intro w hSw; (try dsimp only at hSw); go_simp <;> first | with_reducible rfl | rw [if_neg (by omega)] | rw [if_pos (by omega)])
           (try simp only [PU])
           refine TK 2 (v := ?v12052) hHeld ?hy12052 ?_
           case hy12052 => (intro w _; go_simp <;> rfl)
           (try simp only [PU])
           refine TK 3 (v := ?v12053) hHeld ?hy12053 ?_
           case hy12053 => (intro w _; go_simp <;> first | with_reducible rfl | rw [if_neg (by omega)] | rw [if_pos (by omega)])
           (try simp only [PU])
           refine TK 4 (v := ?v12054) hHeld ?hy12054 ?_
           case hy12054 => (intro w _; go_simp <;> first | with_reducible rfl | rw [if_neg (by omega)] | rw [if_pos (by omega)])
           (try simp only [PU])
           refine TK 5 (v := ?v12055) hHeld ?hy12055 ?_
           case hy12055 => (intro w _; go_simp <;> rfl)
           (try simp only [PU])
           refine TK 6 (v := ?v12056) hHeld ?hy12056 ?_
           case hy12056 => (intro w hSw; (try dsimp only at hSw); go_simp <;> first | with_reducible rfl | rw [if_neg (by omega)] | rw [if_pos (by omega)])
           (try simp only [PU])
           refine TK 7 (v := ?v12057) hHeld ?hy12057 ?_
           case hy12057 => (intro w _; go_simp <;> rfl)
           (try simp only [PU])
           refine TK 8 (v := ?v12058) hHeld ?hy12058 ?_
           case hy12058 => (intro w hSw; (try dsimp only at hSw); go_simp <;> first | with_reducible rfl | rw [if_neg (by omega)] | rw [if_pos (by omega)])
           (try simp only [PU])
           refine TK 9 (v := ?v12059) hHeld ?hy12059 ?_
           case hy12059 => (intro w _; go_simp <;> rfl)
           (try simp only [PU])
           refine TK 10 (v := ?v12060) hHeld ?hy12060 ?_
           case hy12060 => (intro w _; go_simp <;> first | with_reducible rfl | rw [if_neg (by omega)] | rw [if_pos (by omega)])
           (try simp only [PU])
           refine TK 11 (v := ?v12061) hHeld ?hy12061 ?_
           case hy12061 => (intro w _; go_simp <;> first | with_reducible rfl | rw [if_neg (by omega)] | rw [if_pos (by omega)])
           (try simp only [PU])
           refine TK 12 (v := ?v12062) hHeld ?hy12062 ?_
           case hy12062 => (intro w _; go_simp <;> rfl)
           (try simp only [PU])
           refine TK 13 (v := ?v12063) hHeld ?hy12063 ?_
           case hy12063 => (intro w hSw; (try dsimp only at hSw); go_simp <;> first | with_reducible rfl | rw [if_neg (by omega)] | rw [if_pos (by omega)])
           (try simp only [PU])
           refine TK 14 (v := ?v12064) hHeld ?hy12064 ?_
           case hy12064 => (intro w _; go_simp <;> first | with_reducible rfl | rw [if_neg (by omega)] | rw [if_pos (by omega)])
           (try simp only [PU])
           refine TK 15 (v := ?v12065) hHeld ?hy12065 ?_
           case hy12065 => (intro w _; go_simp <;> first | with_reducible rfl | rw [if_neg (by omega)] | rw [if_pos (by omega)])
           (try simp only [PU])
           refine wpAnyH_done (by kernel_rfl) ?_ _
           clear hHeld
           obtain ⟨⟨y1, y2⟩, -⟩ := MK12.out _ (by solve_by_elim [X0, X1, X2, X3])
           by_cases hc1 : xf = a
           ·have c1 : (xf == a) = true := beq_iff_eq.2 hc1
            by_cases hc2 : xt = bb
            ·have c2 : (xt == bb) = true := beq_iff_eq.2 hc2
             by_cases hd1 : dir = 1
             ·have d1 : (dir == 1) = true := beq_iff_eq.2 hd1
              have HCB := Lib.hid (show cB dir a bb xf xt = true by unfold cB; simp only [decide_eq_true hc1, decide_eq_true hc2, decide_eq_true hd1]; try simp)
              have HT := Lib.hid (show fa (j + 1) = true by rw [HFS.out, HCB.out])
              clear HFS HCB hc1 hc2 hd1
              go_wp2_with fail
              go_roundw
              case rel => exact ⟨j + 1, by go_num, by omega, congrArg Value.bool HT.out.symm, Lib.hid (hE3.out.trans (hx9.trans (by solve_by_elim [X0, X1, X2, X3])))⟩
              case measure => simp [intOf]; omega
             ·have d1 : (dir == 1) = false := beq_eq_false_iff_ne.2 hd1
              by_cases hd3 : dir = 3
              ·have d3 : (dir == 3) = true := beq_iff_eq.2 hd3
               have HCB := Lib.hid (show cB dir a bb xf xt = true by unfold cB; simp only [decide_eq_true hc1, decide_eq_true hc2, decide_eq_false hd1, decide_eq_true hd3]; try simp)
               have HT := Lib.hid (show fa (j + 1) = true by rw [HFS.out, HCB.out])
               clear HFS HCB hc1 hc2 hd1 hd3
               go_wp2_with fail
               go_roundw
               case rel => exact ⟨j + 1, by go_num, by omega, congrArg Value.bool HT.out.symm, Lib.hid (hE3.out.trans (hx9.trans (by solve_by_elim [X0, X1, X2, X3])))⟩
               case measure => simp [intOf]; omega
              ·have d3 : (dir == 3) = false := beq_eq_false_iff_ne.2 hd3
               by_cases hc3 : xt = a
               ·have c3 : (xt == a) = true := beq_iff_eq.2 hc3
                by_cases hc4 : xf = bb
                ·have c4 : (xf == bb) = true := beq_iff_eq.2 hc4
                 by_cases hd2 : dir = 2
                 ·have d2 : (dir == 2) = true := beq_iff_eq.2 hd2
                  have HCB := Lib.hid (show cB dir a bb xf xt = true by unfold cB; simp only [decide_eq_true hc1, decide_eq_true hc2, decide_eq_false hd1, decide_eq_false hd3, decide_eq_true hc3, decide_eq_true hc4, decide_eq_true hd2]; try simp)
                  have HT := Lib.hid (show fa (j + 1) = true by rw [HFS.out, HCB.out])
                  clear HFS HCB hc1 hc2 hd1 hd3 hc3 hc4 hd2
                  go_wp2_with fail
                  go_roundw
                  case rel => exact ⟨j + 1, by go_num, by omega, congrArg Value.bool HT.out.symm, Lib.hid (hE3.out.trans (hx9.trans (by solve_by_elim [X0, X1, X2, X3])))⟩
                  case measure => simp [intOf]; omega
                 ·have d2 : (dir == 2) = false := beq_eq_false_iff_ne.2 hd2
                  have HCB := Lib.hid (show cB dir a bb xf xt = false by unfold cB; simp only [decide_eq_true hc1, decide_eq_true hc2, decide_eq_false hd1, decide_eq_false hd3, decide_eq_true hc3, decide_eq_true hc4, decide_eq_false hd2]; try simp)
                  have HT := Lib.hid (show fa (j + 1) = false by rw [HFS.out, HCB.out])
                  clear HFS HCB hc1 hc2 hd1 hd3 hc3 hc4 hd2
                  go_wp2_with fail
                  go_roundw
                  case rel => exact ⟨j + 1, by go_num, by omega, congrArg Value.bool HT.out.symm, Lib.hid (hE3.out.trans (hx9.trans (by solve_by_elim [X0, X1, X2, X3])))⟩
                  case measure => simp [intOf]; omega
                ·have c4 : (xf == bb) = false := beq_eq_false_iff_ne.2 hc4
                 omega
               ·have c3 : (xt == a) = false := beq_eq_false_iff_ne.2 hc3
                have HCB := Lib.hid (show cB dir a bb xf xt = false by unfold cB; simp only [decide_eq_true hc1, decide_eq_true hc2, decide_eq_false hd1, decide_eq_false hd3, decide_eq_false hc3]; try simp)
                have HT := Lib.hid (show fa (j + 1) = false by rw [HFS.out, HCB.out])
                clear HFS HCB hc1 hc2 hd1 hd3 hc3
                go_wp2_with fail
                go_roundw
                case rel => exact ⟨j + 1, by go_num, by omega, congrArg Value.bool HT.out.symm, Lib.hid (hE3.out.trans (hx9.trans (by solve_by_elim [X0, X1, X2, X3])))⟩
                case measure => simp [intOf]; omega
            ·have c2 : (xt == bb) = false := beq_eq_false_iff_ne.2 hc2
             by_cases hc3 : xt = a
             ·have c3 : (xt == a) = true := beq_iff_eq.2 hc3
              by_cases hc4 : xf = bb
              ·have c4 : (xf == bb) = true := beq_iff_eq.2 hc4
               omega
              ·have c4 : (xf == bb) = false := beq_eq_false_iff_ne.2 hc4
               have HCB := Lib.hid (show cB dir a bb xf xt = false by unfold cB; simp only [decide_eq_true hc1, decide_eq_false hc2, decide_eq_true hc3, decide_eq_false hc4]; try simp)
               have HT := Lib.hid (show fa (j + 1) = false by rw [HFS.out, HCB.out])
               clear HFS HCB hc1 hc2 hc3 hc4
               go_wp2_with fail
               go_roundw
               case rel => exact ⟨j + 1, by go_num, by omega, congrArg Value.bool HT.out.symm, Lib.hid (hE3.out.trans (hx9.trans (by solve_by_elim [X0, X1, X2, X3])))⟩
               case measure => simp [intOf]; omega
             ·have c3 : (xt == a) = false := beq_eq_false_iff_ne.2 hc3
              have HCB := Lib.hid (show cB dir a bb xf xt = false by unfold cB; simp only [decide_eq_true hc1, decide_eq_false hc2, decide_eq_false hc3]; try simp)
              have HT := Lib.hid (show fa (j + 1) = false by rw [HFS.out, HCB.out])
              clear HFS HCB hc1 hc2 hc3
              go_wp2_with fail
              go_roundw
              case rel => exact ⟨j + 1, by go_num, by omega, congrArg Value.bool HT.out.symm, Lib.hid (hE3.out.trans (hx9.trans (by solve_by_elim [X0, X1, X2, X3])))⟩
              case measure => simp [intOf]; omega
           ·have c1 : (xf == a) = false := beq_eq_false_iff_ne.2 hc1
            by_cases hc3 : xt = a
            ·have c3 : (xt == a) = true := beq_iff_eq.2 hc3
             by_cases hc4 : xf = bb
             ·have c4 : (xf == bb) = true := beq_iff_eq.2 hc4
              by_cases hd2 : dir = 2
              ·have d2 : (dir == 2) = true := beq_iff_eq.2 hd2
               have HCB := Lib.hid (show cB dir a bb xf xt = true by unfold cB; simp only [decide_eq_false hc1, decide_eq_true hc3, decide_eq_true hc4, decide_eq_true hd2]; try simp)
               have HT := Lib.hid (show fa (j + 1) = true by rw [HFS.out, HCB.out])
               clear HFS HCB hc1 hc3 hc4 hd2
               go_wp2_with fail
               go_roundw
               case rel => exact ⟨j + 1, by go_num, by omega, congrArg Value.bool HT.out.symm, Lib.hid (hE3.out.trans (hx9.trans (by solve_by_elim [X0, X1, X2, X3])))⟩
               case measure => simp [intOf]; omega
              ·have d2 : (dir == 2) = false := beq_eq_false_iff_ne.2 hd2
               by_cases hd3 : dir = 3
               ·have d3 : (dir == 3) = true := beq_iff_eq.2 hd3
                have HCB := Lib.hid (show cB dir a bb xf xt = true by unfold cB; simp only [decide_eq_false hc1, decide_eq_true hc3, decide_eq_true hc4, decide_eq_false hd2, decide_eq_true hd3]; try simp)
                have HT := Lib.hid (show fa (j + 1) = true by rw [HFS.out, HCB.out])
                clear HFS HCB hc1 hc3 hc4 hd2 hd3
                go_wp2_with fail
                go_roundw
                case rel => exact ⟨j + 1, by go_num, by omega, congrArg Value.bool HT.out.symm, Lib.hid (hE3.out.trans (hx9.trans (by solve_by_elim [X0, X1, X2, X3])))⟩
                case measure => simp [intOf]; omega
               ·have d3 : (dir == 3) = false := beq_eq_false_iff_ne.2 hd3
                have HCB := Lib.hid (show cB dir a bb xf xt = false by unfold cB; simp only [decide_eq_false hc1, decide_eq_true hc3, decide_eq_true hc4, decide_eq_false hd2, decide_eq_false hd3]; try simp)
                have HT := Lib.hid (show fa (j + 1) = false by rw [HFS.out, HCB.out])
                clear HFS HCB hc1 hc3 hc4 hd2 hd3
                go_wp2_with fail
                go_roundw
                case rel => exact ⟨j + 1, by go_num, by omega, congrArg Value.bool HT.out.symm, Lib.hid (hE3.out.trans (hx9.trans (by solve_by_elim [X0, X1, X2, X3])))⟩
                case measure => simp [intOf]; omega
             ·have c4 : (xf == bb) = false := beq_eq_false_iff_ne.2 hc4
              have HCB := Lib.hid (show cB dir a bb xf xt = false by unfold cB; simp only [decide_eq_false hc1, decide_eq_true hc3, decide_eq_false hc4]; try simp)
              have HT := Lib.hid (show fa (j + 1) = false by rw [HFS.out, HCB.out])
              clear HFS HCB hc1 hc3 hc4
              go_wp2_with fail
              go_roundw
              case rel => exact ⟨j + 1, by go_num, by omega, congrArg Value.bool HT.out.symm, Lib.hid (hE3.out.trans (hx9.trans (by solve_by_elim [X0, X1, X2, X3])))⟩
              case measure => simp [intOf]; omega
            ·have c3 : (xt == a) = false := beq_eq_false_iff_ne.2 hc3
             have HCB := Lib.hid (show cB dir a bb xf xt = false by unfold cB; simp only [decide_eq_false hc1, decide_eq_false hc3]; try simp)
             have HT := Lib.hid (show fa (j + 1) = false by rw [HFS.out, HCB.out])
             clear HFS HCB hc1 hc3
             go_wp2_with fail
             go_roundw
             case rel => exact ⟨j + 1, by go_num, by omega, congrArg Value.bool HT.out.symm, Lib.hid (hE3.out.trans (hx9.trans (by solve_by_elim [X0, X1, X2, X3])))⟩
             case measure => simp [intOf]; omega
         ·have hib : (xi == ee) = false := beq_eq_false_iff_ne.2 hid
          have HT := Lib.hid (HM.out (.inl hid))
          clear HH HM hid MK12
          refine wp_region_held_drew (S := (fun V => (V.cell? ⟨y, 0, none⟩ = some (.int .i64 xi) ∧ V.cell? ⟨y, 3, none⟩ = some (.string xs)) ∧ V.cell? ⟨q + 1, 4, none⟩ = some (.slice (some ⟨b, o, none⟩) p.l.length qc) ∧ V.cell? ⟨b, o + i * 5 + 1, none⟩ = some (.int .i64 ee))) (by kernel_rfl) ?hs12001 (fun hHeld => ?go12001)
          case hs12001 => (exact MK11.out _ (by solve_by_elim [X0, X1, X2, X3]))
          refine TK 0 (v := ?v12002) hHeld ?hy12002 ?_
          case hy12002 => (intro w _; go_simp <;> rfl)
          (try simp only [PU])
          refine TK 1 (v := ?v12003) hHeld ?hy12003 ?_
          case hy12003 => (intro w hSw; (try dsimp only at hSw); go_simp <;> first | with_reducible rfl | rw [if_neg (by omega)] | rw [if_pos (by omega)])
          (try simp only [PU])
          refine TK 2 (v := ?v12004) hHeld ?hy12004 ?_
          case hy12004 => (intro w _; go_simp <;> rfl)
          (try simp only [PU])
          refine TK 3 (v := ?v12005) hHeld ?hy12005 ?_
          case hy12005 => (intro w hSw; (try dsimp only at hSw); go_simp <;> first | with_reducible rfl | rw [if_neg (by omega)] | rw [if_pos (by omega)])
          (try simp only [PU])
          refine TK 4 (v := ?v12006) hHeld ?hy12006 ?_
          case hy12006 => (intro w _; go_simp <;> rfl)
          (try simp only [PU])
          refine TK 5 (v := ?v12007) hHeld ?hy12007 ?_
          case hy12007 => (intro w _; go_simp <;> first | with_reducible rfl | rw [if_neg (by omega)] | rw [if_pos (by omega)])
          (try simp only [PU])
          refine TK 6 (v := ?v12008) hHeld ?hy12008 ?_
          case hy12008 => (intro w _; go_simp <;> rfl)
          (try simp only [PU])
          refine TK 7 (v := ?v12009) hHeld ?hy12009 ?_
          case hy12009 => (intro w hSw; (try dsimp only at hSw); go_simp <;> first | with_reducible rfl | rw [if_neg (by omega)] | rw [if_pos (by omega)])
          (try simp only [PU])
          refine TK 8 (v := ?v12010) hHeld ?hy12010 ?_
          case hy12010 => (intro w _; go_simp <;> first | with_reducible rfl | rw [if_neg (by omega)] | rw [if_pos (by omega)])
          (try simp only [PU])
          refine TK 9 (v := ?v12011) hHeld ?hy12011 ?_
          case hy12011 => (intro w _; go_simp <;> rfl)
          (try simp only [PU])
          refine TN 10 hHeld ?_
          (try simp only [PU])
          refine TN 11 hHeld ?_
          (try simp only [PU])
          refine TN 12 hHeld ?_
          (try simp only [PU])
          refine TN 13 hHeld ?_
          (try simp only [PU])
          refine TK 14 (v := ?v12016) hHeld ?hy12016 ?_
          case hy12016 => (intro w _; go_simp <;> rfl)
          (try simp only [PU])
          refine wpAnyH_done (by kernel_rfl) ?_ _
          clear hHeld
          go_wp2_with fail
          go_roundw
          case rel => exact ⟨j + 1, by go_num, by omega, congrArg Value.bool HT.out.symm, Lib.hid (hE3.out.trans (hx9.trans (by solve_by_elim [X0, X1, X2, X3])))⟩
          case measure => simp [intOf]; omega
        ·have hje : j = g.edges.length := by omega
         subst hje
         rw [HFE.out]
         clear HFH HFM HFE HF0
         cases sb
         ·have HRF := Lib.hid (HNO.out rfl)
          clear HNO HYES
          go_wp2_with fail
          go_ret
          exact ⟨ret_bool HRF.out.symm, HX.out.trans hE3.out⟩
         ·have HIN := Lib.hid (HYES.out rfl)
          clear HNO HYES
          go_wp2_with fail
          go_roundw
          case rel => exact ⟨i + 2, by go_num, HIN, hE3⟩
          case measure => simp [intOf]; omega
      ·have HRT := Lib.hid (show R = true by
        obtain ⟨k, h1, h2, h3⟩ := hin.out
        rw [HR4.out, stepsB_iff]
        intro j hj
        exact h3 j (by omega))
       clear hin
       go_wp2_with fail
       go_ret
       exact ⟨ret_bool HRT.out.symm, HX.out.trans hE.out⟩
 ·have hcb : (chkG g != 0) = true := bne_iff_ne.2 hc
  have HRF := Lib.hid (HNO.out (.inl hc))
  clear hc HNO HYS HAL0
  refine wp_region_held_drew (S := (fun V => (V.cell? ⟨q, 0, none⟩ = some (.slice A g.nodes.length c) ∧ V.cell? ⟨q, 1, none⟩ = some (.slice B g.edges.length d) ∧ V.cell? ⟨q, 2, none⟩ = some (.int .i64 g.nn) ∧ V.cell? ⟨q, 3, none⟩ = some (.int .i64 g.ne)) ∧ (V.cell? ⟨q + 1, 0, none⟩ = some (.int .i64 p.kind) ∧ V.cell? ⟨q + 1, 1, none⟩ = some (.int .i64 p.n) ∧ V.cell? ⟨q + 1, 2, none⟩ = some (.int .i64 p.d) ∧ V.cell? ⟨q + 1, 3, none⟩ = some (.string p.s) ∧ V.cell? ⟨q + 1, 4, none⟩ = some (.slice Q p.l.length qc)))) (by kernel_rfl) ?hs12166 (fun hHeld => ?go12166)
  case hs12166 => (exact MK1.out _ (by solve_by_elim [X0, X1, X2, X3]))
  refine TK 0 (v := ?v12167) hHeld ?hy12167 ?_
  case hy12167 => (intro w hSw; (try dsimp only at hSw); go_simp <;> first | with_reducible rfl | rw [if_neg (by omega)] | rw [if_pos (by omega)])
  (try simp only [PU])
  refine wpAnyH_ready (rs := [1]) (by kernel_rfl) (by simp) ?_
  refine AllReadyH.cons (o := ⟨_, _, _, _, _, _⟩) rfl (fun K hK => ?step12168x0) ?more12168x0
  case more12168x0 => exact AllReadyH.nil
  go_simp
  (with_reducible refine (HCH.out _ (by solve_by_elim [X0, X1, X2, X3])).mono ?_; rintro r w3 ⟨rfl, hx3⟩; replace hx3 : Ext w2 w3 := Ext.trans (by solve_by_elim [X0, X1, X2, X3]) hx3)
  refine hK.out _ _ ?hS12168x0 (fun H12168 => ?_)
  case hS12168x0 => first | (exact MK1.out _ (by solve_by_elim [X0, X1, X2, X3])) | ((try dsimp only); (exact MK1.out _ (by solve_by_elim [X0, X1, X2, X3])))
  clear hK K
  clear hHeld
  (try simp only [PU])
  refine TK 2 (v := ?v12169) H12168 ?hy12169 ?_
  case hy12169 => (intro w _; go_simp <;> first | with_reducible rfl | rw [if_neg (by omega)] | rw [if_pos (by omega)])
  (try simp only [PU])
  refine TK 3 (v := ?v12170) H12168 ?hy12170 ?_
  case hy12170 => (intro w _; go_simp <;> rfl)
  (try simp only [PU])
  refine TN 4 H12168 ?_
  (try simp only [PU])
  refine TN 5 H12168 ?_
  (try simp only [PU])
  refine TN 6 H12168 ?_
  (try simp only [PU])
  refine TK 7 (v := ?v12174) H12168 ?hy12174 ?_
  case hy12174 => (intro w _; go_simp <;> rfl)
  (try simp only [PU])
  refine TK 8 (v := ?v12175) H12168 ?hy12175 ?_
  case hy12175 => (intro w _; go_simp <;> rfl)
  (try simp only [PU])
  refine TN 9 H12168 ?_
  (try simp only [PU])
  refine TN 10 H12168 ?_
  (try simp only [PU])
  refine TN 11 H12168 ?_
  (try simp only [PU])
  refine TN 12 H12168 ?_
  (try simp only [PU])
  refine TN 13 H12168 ?_
  (try simp only [PU])
  refine TN 14 H12168 ?_
  (try simp only [PU])
  refine TN 15 H12168 ?_
  (try simp only [PU])
  refine TN 16 H12168 ?_
  (try simp only [PU])
  refine TK 17 (v := ?v12184) H12168 ?hy12184 ?_
  case hy12184 => (intro w _; go_simp <;> rfl)
  (try simp only [PU])
  refine TK 18 (v := ?v12185) H12168 ?hy12185 ?_
  case hy12185 => (intro w _; go_simp <;> rfl)
  (try simp only [PU])
  refine TN 19 H12168 ?_
  (try simp only [PU])
  refine TN 20 H12168 ?_
  (try simp only [PU])
  refine TN 21 H12168 ?_
  (try simp only [PU])
  refine TN 22 H12168 ?_
  (try simp only [PU])
  refine TK 23 (v := ?v12190) H12168 ?hy12190 ?_
  case hy12190 => (intro w _; go_simp <;> rfl)
  (try simp only [PU])
  refine wpAnyH_done (by kernel_rfl) ?_ _
  clear H12168
  go_wp2_with fail
  go_ret
  exact ⟨ret_bool HRF.out.symm, HX.out.trans hx3⟩
end Go.Proofs.YtigmdddeplnciaaGreatDoor
