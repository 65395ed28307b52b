/- PARTS OF THE WALKS, joined: CoI, CoJ, CpF, CpG. -/
import Derived.Test.YtnheioehadldmaaGreatR10
import Derived.Test.YtnheioehadldmaaGreatR11
import Derived.Test.YtnheioehadldmaaGreatR06
import Derived.Test.YtnheioehadldmaaGreatShelfG
import Derived.Shelf.SlSortCmp.NoneTotal
/- A COLUMN UNDER WAY; the walk over column.pack. -/
namespace Go.Proofs.YtnheioehadldmaaGreat
open Go.RowKit
/-- a column under way: its four rows, the box that holds it, the box of the result -/
structure PkS (w0 : World) (base q2 q3 : Nat) (W : World) (vN vF vT vE b0 b1 b2 b3 : Value) (c : Col) : Prop where
 ext : Ext w0 W
 le : base ≤ W.heap.size
 c4 : Col4 W base vN vF vT vE c
 bx : Box4 W q3 b0 b1 b2 b3
 fz : Frz4 W q3
 rx : Box4 W q2 (.slice none 0 0) (.slice none 0 0) (.slice none 0 0) (.slice none 0 0)
 rz : Frz4 W q2
 h3 : w0.heap.size ≤ q3
 l2 : q2 < base
 l3 : q3 < base
 n23 : q2 ≠ q3
 hb : w0.heap.size ≤ base
section
variable {w0 : World} {base q2 q3 : Nat} {W W' : World} {vN vF vT vE b0 b1 b2 b3 v' : Value} {c : Col} {x : Int}
theorem PkS.exts (h : PkS w0 base q2 q3 W vN vF vT vE b0 b1 b2 b3 c) (e : Ext W W') : PkS w0 base q2 q3 W' vN vF vT vE b0 b1 b2 b3 c :=
 ⟨h.ext.trans e, Nat.le_trans h.le e.le, h.c4.ext e, h.bx.grown (e.gr none) (by simp), h.fz.grown h.bx (e.gr none) (by simp), h.rx.grown (e.gr none) (by simp), h.rz.grown h.rx (e.gr none) (by simp), h.h3, h.l2, h.l3, h.n23, h.hb⟩
theorem PkS.row {v : Value} {l : List Int} (h : PkS w0 base q2 q3 W vN vF vT vE b0 b1 b2 b3 c) (hO : OI W base v l) (hg : W.grownBy W' v.ownBlock) : Ext w0 W' ∧ base ≤ W'.heap.size ∧ Box4 W' q3 b0 b1 b2 b3 ∧ Frz4 W' q3 ∧ Box4 W' q2 (.slice none 0 0) (.slice none 0 0) (.slice none 0 0) (.slice none 0 0) ∧ Frz4 W' q2 := by
 have k : ∀ q, q < base → some q ≠ v.ownBlock := fun q hq e => by have := (OwnG.lt hO e.symm).1; omega
 exact ⟨h.ext.grown hg (fun g hg' => Nat.le_trans h.hb (OwnG.lt hO hg').1), Nat.le_trans h.le hg.size, h.bx.grown hg (k _ h.l3), h.fz.grown h.bx hg (k _ h.l3), h.rx.grown hg (k _ h.l2), h.rz.grown h.rx hg (k _ h.l2)⟩
theorem PkS.pushN (h : PkS w0 base q2 q3 W vN vF vT vE b0 b1 b2 b3 c) (hO : OI W' base v' (c.nodes ++ [x])) (hg : W.grownBy W' vN.ownBlock) {H : Nat} (hH : W.heap.size ≤ H) (hd : v'.ownBlock = vN.ownBlock ∨ v'.ownBlock = some H) : PkS w0 base q2 q3 W' v' vF vT vE b0 b1 b2 b3 { c with nodes := c.nodes ++ [x] } := by
 obtain ⟨k1, k2, k3, k4, k5, k6⟩ := h.row h.c4.n hg
 exact ⟨k1, k2, h.c4.pushN hO hg hH hd, k3, k4, k5, k6, h.h3, h.l2, h.l3, h.n23, h.hb⟩
theorem PkS.pushF (h : PkS w0 base q2 q3 W vN vF vT vE b0 b1 b2 b3 c) (hO : OI W' base v' (c.first ++ [x])) (hg : W.grownBy W' vF.ownBlock) {H : Nat} (hH : W.heap.size ≤ H) (hd : v'.ownBlock = vF.ownBlock ∨ v'.ownBlock = some H) : PkS w0 base q2 q3 W' vN v' vT vE b0 b1 b2 b3 { c with first := c.first ++ [x] } := by
 obtain ⟨k1, k2, k3, k4, k5, k6⟩ := h.row h.c4.f hg
 exact ⟨k1, k2, h.c4.pushF hO hg hH hd, k3, k4, k5, k6, h.h3, h.l2, h.l3, h.n23, h.hb⟩
theorem PkS.pushT (h : PkS w0 base q2 q3 W vN vF vT vE b0 b1 b2 b3 c) (hO : OI W' base v' (c.tos ++ [x])) (hg : W.grownBy W' vT.ownBlock) {H : Nat} (hH : W.heap.size ≤ H) (hd : v'.ownBlock = vT.ownBlock ∨ v'.ownBlock = some H) : PkS w0 base q2 q3 W' vN vF v' vE b0 b1 b2 b3 { c with tos := c.tos ++ [x] } := by
 obtain ⟨k1, k2, k3, k4, k5, k6⟩ := h.row h.c4.t hg
 exact ⟨k1, k2, h.c4.pushT hO hg hH hd, k3, k4, k5, k6, h.h3, h.l2, h.l3, h.n23, h.hb⟩
theorem PkS.pushE (h : PkS w0 base q2 q3 W vN vF vT vE b0 b1 b2 b3 c) (hO : OI W' base v' (c.edges ++ [x])) (hg : W.grownBy W' vE.ownBlock) {H : Nat} (hH : W.heap.size ≤ H) (hd : v'.ownBlock = vE.ownBlock ∨ v'.ownBlock = some H) : PkS w0 base q2 q3 W' vN vF vT v' b0 b1 b2 b3 { c with edges := c.edges ++ [x] } := by
 obtain ⟨k1, k2, k3, k4, k5, k6⟩ := h.row h.c4.e hg
 exact ⟨k1, k2, h.c4.pushE hO hg hH hd, k3, k4, k5, k6, h.h3, h.l2, h.l3, h.n23, h.hb⟩
theorem PkS.put0 (h : PkS w0 base q2 q3 W vN vF vT vE b0 b1 b2 b3 c) (u : Value) : PkS w0 base q2 q3 (W.setCell ⟨q3, 0, none⟩ u) vN vF vT vE u b1 b2 b3 c :=
 ⟨h.ext.setCell h.h3 u, by simpa using h.le, h.c4.put h.l3 _ _, ⟨World.cell?_setCell_same' _ _ _ (by rw [h.bx.1]; rfl), (World.cell?_setCell_other _ _ _ _ (fun e => by injection e with _ e2; exact absurd e2 (by decide))).trans h.bx.2.1, (World.cell?_setCell_other _ _ _ _ (fun e => by injection e with _ e2; exact absurd e2 (by decide))).trans h.bx.2.2.1, (World.cell?_setCell_other _ _ _ _ (fun e => by injection e with _ e2; exact absurd e2 (by decide))).trans h.bx.2.2.2⟩, ⟨(World.frozen?_setCell _ _ _ _).trans h.fz.1, (World.frozen?_setCell _ _ _ _).trans h.fz.2.1, (World.frozen?_setCell _ _ _ _).trans h.fz.2.2.1, (World.frozen?_setCell _ _ _ _).trans h.fz.2.2.2⟩, h.rx.grown (gr_set W q3 0 u) (fun e => h.n23 (Option.some.inj e)), h.rz.grown h.rx (gr_set W q3 0 u) (fun e => h.n23 (Option.some.inj e)), h.h3, h.l2, h.l3, h.n23, h.hb⟩
theorem PkS.put1 (h : PkS w0 base q2 q3 W vN vF vT vE b0 b1 b2 b3 c) (u : Value) : PkS w0 base q2 q3 (W.setCell ⟨q3, 1, none⟩ u) vN vF vT vE b0 u b2 b3 c :=
 ⟨h.ext.setCell h.h3 u, by simpa using h.le, h.c4.put h.l3 _ _, ⟨(World.cell?_setCell_other _ _ _ _ (fun e => by injection e with _ e2; exact absurd e2 (by decide))).trans h.bx.1, World.cell?_setCell_same' _ _ _ (by rw [h.bx.2.1]; rfl), (World.cell?_setCell_other _ _ _ _ (fun e => by injection e with _ e2; exact absurd e2 (by decide))).trans h.bx.2.2.1, (World.cell?_setCell_other _ _ _ _ (fun e => by injection e with _ e2; exact absurd e2 (by decide))).trans h.bx.2.2.2⟩, ⟨(World.frozen?_setCell _ _ _ _).trans h.fz.1, (World.frozen?_setCell _ _ _ _).trans h.fz.2.1, (World.frozen?_setCell _ _ _ _).trans h.fz.2.2.1, (World.frozen?_setCell _ _ _ _).trans h.fz.2.2.2⟩, h.rx.grown (gr_set W q3 1 u) (fun e => h.n23 (Option.some.inj e)), h.rz.grown h.rx (gr_set W q3 1 u) (fun e => h.n23 (Option.some.inj e)), h.h3, h.l2, h.l3, h.n23, h.hb⟩
theorem PkS.put2 (h : PkS w0 base q2 q3 W vN vF vT vE b0 b1 b2 b3 c) (u : Value) : PkS w0 base q2 q3 (W.setCell ⟨q3, 2, none⟩ u) vN vF vT vE b0 b1 u b3 c :=
 ⟨h.ext.setCell h.h3 u, by simpa using h.le, h.c4.put h.l3 _ _, ⟨(World.cell?_setCell_other _ _ _ _ (fun e => by injection e with _ e2; exact absurd e2 (by decide))).trans h.bx.1, (World.cell?_setCell_other _ _ _ _ (fun e => by injection e with _ e2; exact absurd e2 (by decide))).trans h.bx.2.1, World.cell?_setCell_same' _ _ _ (by rw [h.bx.2.2.1]; rfl), (World.cell?_setCell_other _ _ _ _ (fun e => by injection e with _ e2; exact absurd e2 (by decide))).trans h.bx.2.2.2⟩, ⟨(World.frozen?_setCell _ _ _ _).trans h.fz.1, (World.frozen?_setCell _ _ _ _).trans h.fz.2.1, (World.frozen?_setCell _ _ _ _).trans h.fz.2.2.1, (World.frozen?_setCell _ _ _ _).trans h.fz.2.2.2⟩, h.rx.grown (gr_set W q3 2 u) (fun e => h.n23 (Option.some.inj e)), h.rz.grown h.rx (gr_set W q3 2 u) (fun e => h.n23 (Option.some.inj e)), h.h3, h.l2, h.l3, h.n23, h.hb⟩
theorem PkS.put3 (h : PkS w0 base q2 q3 W vN vF vT vE b0 b1 b2 b3 c) (u : Value) : PkS w0 base q2 q3 (W.setCell ⟨q3, 3, none⟩ u) vN vF vT vE b0 b1 b2 u c :=
 ⟨h.ext.setCell h.h3 u, by simpa using h.le, h.c4.put h.l3 _ _, ⟨(World.cell?_setCell_other _ _ _ _ (fun e => by injection e with _ e2; exact absurd e2 (by decide))).trans h.bx.1, (World.cell?_setCell_other _ _ _ _ (fun e => by injection e with _ e2; exact absurd e2 (by decide))).trans h.bx.2.1, (World.cell?_setCell_other _ _ _ _ (fun e => by injection e with _ e2; exact absurd e2 (by decide))).trans h.bx.2.2.1, World.cell?_setCell_same' _ _ _ (by rw [h.bx.2.2.2]; rfl)⟩, ⟨(World.frozen?_setCell _ _ _ _).trans h.fz.1, (World.frozen?_setCell _ _ _ _).trans h.fz.2.1, (World.frozen?_setCell _ _ _ _).trans h.fz.2.2.1, (World.frozen?_setCell _ _ _ _).trans h.fz.2.2.2⟩, h.rx.grown (gr_set W q3 3 u) (fun e => h.n23 (Option.some.inj e)), h.rz.grown h.rx (gr_set W q3 3 u) (fun e => h.n23 (Option.some.inj e)), h.h3, h.l2, h.l3, h.n23, h.hb⟩
/-- the box of the result filled -/
theorem PkS.fin {w00 : World} (hx : Ext w00 w0) (hq : w00.heap.size ≤ q2) (h : PkS w0 base q2 q3 W vN vF vT vE b0 b1 b2 b3 c) (u0 u1 u2 u3 : Value) : Ext w00 ((((W.setCell ⟨q2, 0, none⟩ u0).setCell ⟨q2, 1, none⟩ u1).setCell ⟨q2, 2, none⟩ u2).setCell ⟨q2, 3, none⟩ u3) ∧ Col4 ((((W.setCell ⟨q2, 0, none⟩ u0).setCell ⟨q2, 1, none⟩ u1).setCell ⟨q2, 2, none⟩ u2).setCell ⟨q2, 3, none⟩ u3) base vN vF vT vE c :=
 ⟨((((hx.trans h.ext).setCell hq u0).setCell hq u1).setCell hq u2).setCell hq u3, (((h.c4.put h.l2 0 u0).put h.l2 1 u1).put h.l2 2 u2).put h.l2 3 u3⟩
end
theorem set4 {W : World} {q : Nat} {v0 v1 v2 v3 : Value} (h : Box4 W q v0 v1 v2 v3) (u0 u1 u2 u3 : Value) : Box4 ((((W.setCell ⟨q, 0, none⟩ u0).setCell ⟨q, 1, none⟩ u1).setCell ⟨q, 2, none⟩ u2).setCell ⟨q, 3, none⟩ u3) q u0 u1 u2 u3 := by
 have k : ∀ {W : World} {i j : Nat} {u v : Value}, i ≠ j → W.cell? ⟨q, i, none⟩ = some v → (W.setCell ⟨q, j, none⟩ u).cell? ⟨q, i, none⟩ = some v := fun hij hc => (World.cell?_setCell_other _ _ _ _ (fun e => by injection e with _ e2; exact hij e2.symm)).trans hc
 have m : ∀ {W : World} {i : Nat} {u v : Value}, W.cell? ⟨q, i, none⟩ = some v → (W.setCell ⟨q, i, none⟩ u).cell? ⟨q, i, none⟩ = some u := fun hc => World.cell?_setCell_same' _ _ _ (by rw [hc]; rfl)
 obtain ⟨h0, h1, h2, h3⟩ := h
 exact ⟨k (by decide) (k (by decide) (k (by decide) (m h0))), k (by decide) (k (by decide) (m (k (by decide) h1))), k (by decide) (m (k (by decide) (k (by decide) h2))), m (k (by decide) (k (by decide) (k (by decide) h3)))⟩
theorem own_fm {α : Type} {K : KindG α} {e : TypeId} {W : World} {base : Nat} {ok0 : Nat → Prop} {v : Value} {hs : List α} (h : OwnG K e W base ok0 v hs) : ∃ A n c, v = .slice A n c := by
 obtain ⟨A, c, e⟩ := h.form
 exact ⟨A, _, c, e⟩
theorem int_cell {W : World} {g : Nat} {x : Int} (h : W.cell? ⟨g, 0, none⟩ = some (.int .i64 x)) : ∀ j u, (KI.enc x)[j]? = some u → W.cell? ((⟨g, 0, none⟩ : Addr).add j) = some u := fun j u hu => by
 cases j with
 | zero => rw [Addr.add_mid]; rw [show some (Value.int .i64 x) = some u from hu] at h; exact h
 | succ j => cases hu
theorem packK_yes {l : List Sh} {k : Nat} (hk : k < l.length) (h : headB l k = true) : packK l (k + 1) = ⟨(packK l k).nodes ++ [l[k]!.id], (packK l k).first ++ [(k : Int)], (packK l k).tos ++ [l[k]!.n], (packK l k).edges ++ [l[k]!.d]⟩ := by
 unfold packK
 rw [headsK_yes h, List.map_append, List.map_append, List.take_succ_eq_append_getElem hk, List.map_append, List.map_append, ← getElem!_pos l k hk]; rfl
theorem packK_no {l : List Sh} {k : Nat} (hk : k < l.length) (h : headB l k = false) : packK l (k + 1) = { packK l k with tos := (packK l k).tos ++ [l[k]!.n], edges := (packK l k).edges ++ [l[k]!.d] } := by
 unfold packK
 rw [headsK_no h, List.take_succ_eq_append_getElem hk, List.map_append, List.map_append, getElem!_pos l k hk]; rfl
theorem packK_len (l : List Sh) (k : Nat) : (packK l k).nodes.length ≤ k ∧ (packK l k).first.length ≤ k ∧ (packK l k).tos.length ≤ k ∧ (packK l k).edges.length ≤ k := by
 have h : (headsK l k).length ≤ k := Nat.le_trans (List.length_filter_le _ _) (by rw [List.length_range]; omega)
 exact ⟨by show (List.map _ _).length ≤ _; rw [List.length_map]; exact h, by show (List.map _ _).length ≤ _; rw [List.length_map]; exact h, by show (List.map _ _).length ≤ _; rw [List.length_map, List.length_take]; omega, by show (List.map _ _).length ≤ _; rw [List.length_map, List.length_take]; omega⟩
set_option maxRecDepth 100000 in
set_option maxHeartbeats 6400000 in
theorem co_pack (l : List Sh) (ok : Nat → Prop) (A : Option Addr) (c : Nat) (w : World) (hv : Shares w ok A l) (hl : l.length ≤ 8000000) :
  Calls Tryz.prog 23 #[.slice A l.length c] w fun e w' => ∃ A B C D k0 k1 k2 k3, e = .returned (agC (packC l) A B C D k0 k1 k2 k3) ∧ ColAt w' (fun b => w.heap.size ≤ b) A B C D (packC l) ∧ Ext w w' := by
 obtain ⟨q2, wa, hq2, hwa, r2, z2, hxa⟩ := box_zero w 29
 obtain ⟨q3, wb, hq3, hwb, r3, z3, hxb⟩ := box_zero wa 29
 have HWA := Lib.hid hwa
 have HWB := Lib.hid hwb
 have HQ2 := Lib.hid hq2
 have HQ3 := Lib.hid hq3
 have hsz : wb.heap.size = w.heap.size + 2 := by rw [hwb, hwa]; simp
 have hq3' : q3 = w.heap.size + 1 := by rw [hq3, hwa]; simp
 have HP0 := Lib.hid (⟨hxa.trans hxb, Nat.le_refl _, Col4.nil _ _, r3, z3, r2.grown (hxb.gr none) (by simp), z2.grown r2 (hxb.gr none) (by simp), by omega, by omega, by omega, by omega, by omega⟩ : PkS w wb.heap.size q2 q3 wb (.slice none 0 0) (.slice none 0 0) (.slice none 0 0) (.slice none 0 0) (.slice none 0 0) (.slice none 0 0) (.slice none 0 0) (.slice none 0 0) noCol)
 have HQX := Lib.hid (show Ext w w ∧ w.heap.size ≤ q2 from ⟨Ext.refl _, by omega⟩)
 have HV := Lib.hid hv
 obtain ⟨R, hR⟩ : ∃ R, R = packC l := ⟨_, rfl⟩
 rw [← hR]
 have HR := Lib.hid hR
 clear hR
 have HQ3' := Lib.hid (show q3 = q2 + 1 by omega)
 clear hwa hwb hq2 hq3 r2 r3 z2 z3 hxa hxb hv
 go_enter Tryz.func23, Tryz.ntmps23
 go_upto_region 2 with (fail)
 rw [← HWA.out, ← HQ2.out, ← HWB.out, ← HQ3'.out]
 clear HWA HWB HQ2 HQ3 HQ3' hsz hq3'
 go_wp2_with fail
 go_loopw [8] (fun u W => ∃ (k : Nat) (vN vF vT vE : Value), u = .int .i64 k ∧ k ≤ l.length ∧ Hid (PkS w wb.heap.size q2 q3 W vN vF vT vE vN vF vT vE (packK l k))) (fun u _ => l.length - (intOf u).toNat)
 case atStart => exact ⟨0, _, _, _, _, rfl, Nat.zero_le _, HP0⟩
 case round =>
  clear HP0
  obtain ⟨k, vN, vF, vT, vE, rfl, hk, HP⟩ := hrel
  by_cases hlt : k < l.length
  ·obtain ⟨b, o, rfl, hc⟩ := HV.out.at_ hlt
   obtain ⟨-, d0, d1, d2⟩ := hc k hlt
   replace d0 := HP.out.ext.cell d0
   replace d1 := HP.out.ext.cell d1
   replace d2 := HP.out.ext.cell d2
   obtain ⟨hl0, hl1, hl2, hl3⟩ := packK_len l k
   replace hl0 : (packK l k).nodes.length + 1 ≤ 8388608 := by omega
   replace hl1 : (packK l k).first.length + 1 ≤ 8388608 := by omega
   replace hl2 : (packK l k).tos.length + 1 ≤ 8388608 := by omega
   replace hl3 : (packK l k).edges.length + 1 ≤ 8388608 := by omega
   have HCJ := Lib.hid (fun j (hj : j < l.length) => HP.out.ext.cell (hc j hj).2.1)
   have HHZ := Lib.hid (fun (h : k = 0) => (by rw [h]; rfl : headB l k = true))
   have HHJ := Lib.hid (fun j (h : k = j + 1) => (by unfold headB; rw [h]; simp : headB l k = !decide (l[k]!.id = l[j]!.id)))
   have HS := Lib.hid ((by
    cases h : headB l k
    ·rw [packK_no hlt h]; rfl
    ·rw [packK_yes hlt h]; rfl) : packK l (k + 1) = if headB l k = true then ⟨(packK l k).nodes ++ [l[k]!.id], (packK l k).first ++ [(k : Int)], (packK l k).tos ++ [l[k]!.n], (packK l k).edges ++ [l[k]!.d]⟩ else { packK l k with tos := (packK l k).tos ++ [l[k]!.n], edges := (packK l k).edges ++ [l[k]!.d] })
   obtain ⟨y, w2, hy, hw2, ⟨a0, a1, a2⟩, hx2⟩ := box_adj wr l[k]! 41
   have HYN := Lib.hid (show some y ≠ vN.ownBlock from fun e => by have h1 := (OwnG.lt HP.out.c4.n e.symm).2; omega)
   have HYF := Lib.hid (show some y ≠ vF.ownBlock from fun e => by have h1 := (OwnG.lt HP.out.c4.f e.symm).2; omega)
   have HYT := Lib.hid (show some y ≠ vT.ownBlock from fun e => by have h1 := (OwnG.lt HP.out.c4.t e.symm).2; omega)
   have HYE := Lib.hid (show some y ≠ vE.ownBlock from fun e => by have h1 := (OwnG.lt HP.out.c4.e e.symm).2; omega)
   have HYQ := Lib.hid (show some y ≠ some q3 from fun e => by have h1 := HP.out.l3; have h2 := HP.out.le; have := Option.some.inj e; omega)
   have HP2 := Lib.hid (HP.out.exts hx2)
   have HW2 := Lib.hid hw2
   have HY := Lib.hid hy
   obtain ⟨C1, hC1⟩ : ∃ C1, C1 = packK l (k + 1) := ⟨_, rfl⟩
   rw [← hC1] at HS
   have HQC := Lib.hid hC1
   clear hC1
   generalize packK l k = C at *
   generalize headB l k = hd at *
   generalize l[k]!.id = x0 at *
   generalize l[k]!.n = x1 at *
   generalize l[k]!.d = x2 at *
   have HY0 := Lib.hid (fun V (e : Ext w2 V) => (⟨e.cell a0, e.cell a1, e.cell a2⟩ : V.cell? ⟨y, 0, none⟩ = some (.int .i64 x0) ∧ V.cell? ⟨y, 1, none⟩ = some (.int .i64 x1) ∧ V.cell? ⟨y, 2, none⟩ = some (.int .i64 x2)))
   have HCJ2 := Lib.hid (fun j (hj : j < l.length) => hx2.cell (HCJ.out j hj))
   clear hw2 hy hc HV HP HCJ hx2
   go_upto_region 5 with (fail)
   rw [← HW2.out, ← HY.out]
   clear HW2 HY
   go_cut [25] from 9 to 53 (fun s25 wx => s25 = .bool hd ∧ Ext w2 wx)
   case first =>
    clear HS HYN HYF HYT HYE HYQ HP2 hl0 hl1 hl2 hl3
    by_cases hk0 : k = 0
    ·have HH := Lib.hid (HHZ.out hk0)
     have g0 : ((k : Int) == 0) = true := by simp [hk0]
     have g1 : (k == 0) = true := by simp [hk0]
     have g2 : decide (k = 0) = true := by simp [hk0]
     have HM5 := Lib.hid (fun V (e : Ext w2 V) => (HY0.out V e).1)
     clear HHZ HHJ HCJ2 hk0
     refine wp_region_held_drew (S := (fun V => V.cell? ⟨y, 0, none⟩ = some (.int .i64 x0))) (by kernel_rfl) ?hs32001 (fun hHeld => ?go32001)
     case hs32001 => (exact HM5.out _ (by solve_by_elim [X0, X1, X2, X3]))
     refine TK 0 (v := ?v32002) hHeld ?hy32002 ?_
     case hy32002 => (intro w hSw; (try dsimp only at hSw); go_simp <;> first | with_reducible rfl | rw [if_neg (by omega)] | rw [if_pos (by omega)])
     (try simp only [PU])
     refine TK 1 (v := ?v32003) hHeld ?hy32003 ?_
     case hy32003 => (intro w hSw; (try dsimp only at hSw); go_simp <;> first | with_reducible rfl | rw [if_neg (by omega)] | rw [if_pos (by omega)])
     (try simp only [PU])
     refine TK 2 (v := ?v32004) hHeld ?hy32004 ?_
     case hy32004 => (intro w hSw; (try dsimp only at hSw); go_simp <;> first | with_reducible rfl | rw [if_neg (by omega)] | rw [if_pos (by omega)])
     (try simp only [PU])
     refine TN 3 hHeld ?_
     (try simp only [PU])
     refine TN 4 hHeld ?_
     (try simp only [PU])
     refine TN 5 hHeld ?_
     (try simp only [PU])
     refine TN 6 hHeld ?_
     (try simp only [PU])
     refine TN 7 hHeld ?_
     (try simp only [PU])
     refine TN 8 hHeld ?_
     (try simp only [PU])
     refine TN 9 hHeld ?_
     (try simp only [PU])
     refine TN 10 hHeld ?_
     (try simp only [PU])
     refine TN 11 hHeld ?_
     (try simp only [PU])
     refine TK 12 (v := ?v32014) hHeld ?hy32014 ?_
     case hy32014 => (intro w hSw; (try dsimp only at hSw); go_simp <;> first | with_reducible rfl | rw [if_neg (by omega)] | rw [if_pos (by omega)])
     (try simp only [PU])
     refine wpAnyH_done (by kernel_rfl) ?_ _
     clear hHeld
     go_wp2_with fail
     go_meet
     case rel => exact ⟨by rw [HH.out], (by solve_by_elim [X0, X1, X2, X3])⟩
    ·obtain ⟨j, hj⟩ : ∃ j, k = j + 1 := ⟨k - 1, by omega⟩
     have e0 := HCJ2.out j (by omega)
     have HH := Lib.hid (HHJ.out j hj)
     have g0 : ((k : Int) == 0) = false := by simp; omega
     have g1 : (k == 0) = false := by simp; omega
     have g2 : decide (k = 0) = false := by simp; omega
     have wj : IntKind.i64.wrap ((k : Int) - 1) = (j : Int) := by rw [IntKind.wrap_i64]; omega
     have hjl : j < l.length := by omega
     generalize l[j]!.id = p0 at *
     have HM5 := Lib.hid (fun V (e : Ext w2 V) => (⟨(HY0.out V e).1, e.cell e0⟩ : V.cell? ⟨y, 0, none⟩ = some (.int .i64 x0) ∧ V.cell? ⟨b, o + j * 3, none⟩ = some (.int .i64 p0)))
     clear HCJ2 HHJ HHZ hk0 hj e0
     cases hid : decide (x0 = p0)
     ·have gid : (x0 != p0) = true := by simpa using hid
      rw [hid] at HH
      clear hid
      refine wp_region_held_drew (S := (fun V => V.cell? ⟨y, 0, none⟩ = some (.int .i64 x0) ∧ V.cell? ⟨b, o + j * 3, none⟩ = some (.int .i64 p0))) (by kernel_rfl) ?hs32015 (fun hHeld => ?go32015)
      case hs32015 => (exact HM5.out _ (by solve_by_elim [X0, X1, X2, X3]))
      refine TK 0 (v := ?v32016) hHeld ?hy32016 ?_
      case hy32016 => (intro w hSw; (try dsimp only at hSw); go_simp <;> first | with_reducible rfl | rw [if_neg (by omega)] | rw [if_pos (by omega)])
      (try simp only [PU])
      refine TK 1 (v := ?v32017) hHeld ?hy32017 ?_
      case hy32017 => (intro w hSw; (try dsimp only at hSw); go_simp <;> first | with_reducible rfl | rw [if_neg (by omega)] | rw [if_pos (by omega)])
      (try simp only [PU])
      refine TK 2 (v := ?v32018) hHeld ?hy32018 ?_
      case hy32018 => (intro w hSw; (try dsimp only at hSw); go_simp <;> first | with_reducible rfl | rw [if_neg (by omega)] | rw [if_pos (by omega)])
      (try simp only [PU])
      refine TK 3 (v := ?v32019) hHeld ?hy32019 ?_
      case hy32019 => (intro w hSw; (try dsimp only at hSw); go_simp <;> first | with_reducible rfl | rw [if_neg (by omega)] | rw [if_pos (by omega)])
      (try simp only [PU])
      refine TK 4 (v := ?v32020) hHeld ?hy32020 ?_
      case hy32020 => (intro w hSw; (try dsimp only at hSw); go_simp <;> first | with_reducible rfl | rw [if_neg (by omega)] | rw [if_pos (by omega)])
      (try simp only [PU])
      refine TK 5 (v := ?v32021) hHeld ?hy32021 ?_
      case hy32021 => (intro w hSw; (try dsimp only at hSw); go_simp <;> first | with_reducible rfl | rw [if_neg (by omega)] | rw [if_pos (by omega)])
      (try simp only [PU])
      refine TK 6 (v := ?v32022) hHeld ?hy32022 ?_
      case hy32022 => (intro w hSw; (try dsimp only at hSw); go_simp <;> first | with_reducible rfl | rw [if_neg (by omega)] | rw [if_pos (by omega)])
      (try simp only [PU])
      refine TK 7 (v := ?v32023) hHeld ?hy32023 ?_
      case hy32023 => (intro w hSw; (try dsimp only at hSw); go_simp <;> first | with_reducible rfl | rw [if_neg (by omega)] | rw [if_pos (by omega)])
      (try simp only [PU])
      refine TK 8 (v := ?v32024) hHeld ?hy32024 ?_
      case hy32024 => (intro w hSw; (try dsimp only at hSw); go_simp <;> first | with_reducible rfl | rw [if_neg (by omega)] | rw [if_pos (by omega)])
      (try simp only [PU])
      refine TK 9 (v := ?v32025) hHeld ?hy32025 ?_
      case hy32025 => (intro w hSw; (try dsimp only at hSw); go_simp <;> first | with_reducible rfl | rw [if_neg (by omega)] | rw [if_pos (by omega)])
      (try simp only [PU])
      refine TK 10 (v := ?v32026) hHeld ?hy32026 ?_
      case hy32026 => (intro w hSw; (try dsimp only at hSw); go_simp <;> first | with_reducible rfl | rw [if_neg (by omega)] | rw [if_pos (by omega)])
      (try simp only [PU])
      refine TK 11 (v := ?v32027) hHeld ?hy32027 ?_
      case hy32027 => (intro w hSw; (try dsimp only at hSw); go_simp <;> first | with_reducible rfl | rw [if_neg (by omega)] | rw [if_pos (by omega)])
      (try simp only [PU])
      refine TK 12 (v := ?v32028) hHeld ?hy32028 ?_
      case hy32028 => (intro w hSw; (try dsimp only at hSw); go_simp <;> first | with_reducible rfl | rw [if_neg (by omega)] | rw [if_pos (by omega)])
      (try simp only [PU])
      refine wpAnyH_done (by kernel_rfl) ?_ _
      clear hHeld
      go_wp2_with fail
      go_meet
      case rel => exact ⟨by rw [HH.out]; rfl, (by solve_by_elim [X0, X1, X2, X3])⟩
     ·have gid : (x0 != p0) = false := by simpa using hid
      rw [hid] at HH
      clear hid
      refine wp_region_held_drew (S := (fun V => V.cell? ⟨y, 0, none⟩ = some (.int .i64 x0) ∧ V.cell? ⟨b, o + j * 3, none⟩ = some (.int .i64 p0))) (by kernel_rfl) ?hs32029 (fun hHeld => ?go32029)
      case hs32029 => (exact HM5.out _ (by solve_by_elim [X0, X1, X2, X3]))
      refine TK 0 (v := ?v32030) hHeld ?hy32030 ?_
      case hy32030 => (intro w hSw; (try dsimp only at hSw); go_simp <;> first | with_reducible rfl | rw [if_neg (by omega)] | rw [if_pos (by omega)])
      (try simp only [PU])
      refine TK 1 (v := ?v32031) hHeld ?hy32031 ?_
      case hy32031 => (intro w hSw; (try dsimp only at hSw); go_simp <;> first | with_reducible rfl | rw [if_neg (by omega)] | rw [if_pos (by omega)])
      (try simp only [PU])
      refine TK 2 (v := ?v32032) hHeld ?hy32032 ?_
      case hy32032 => (intro w hSw; (try dsimp only at hSw); go_simp <;> first | with_reducible rfl | rw [if_neg (by omega)] | rw [if_pos (by omega)])
      (try simp only [PU])
      refine TK 3 (v := ?v32033) hHeld ?hy32033 ?_
      case hy32033 => (intro w hSw; (try dsimp only at hSw); go_simp <;> first | with_reducible rfl | rw [if_neg (by omega)] | rw [if_pos (by omega)])
      (try simp only [PU])
      refine TK 4 (v := ?v32034) hHeld ?hy32034 ?_
      case hy32034 => (intro w hSw; (try dsimp only at hSw); go_simp <;> first | with_reducible rfl | rw [if_neg (by omega)] | rw [if_pos (by omega)])
      (try simp only [PU])
      refine TK 5 (v := ?v32035) hHeld ?hy32035 ?_
      case hy32035 => (intro w hSw; (try dsimp only at hSw); go_simp <;> first | with_reducible rfl | rw [if_neg (by omega)] | rw [if_pos (by omega)])
      (try simp only [PU])
      refine TK 6 (v := ?v32036) hHeld ?hy32036 ?_
      case hy32036 => (intro w hSw; (try dsimp only at hSw); go_simp <;> first | with_reducible rfl | rw [if_neg (by omega)] | rw [if_pos (by omega)])
      (try simp only [PU])
      refine TK 7 (v := ?v32037) hHeld ?hy32037 ?_
      case hy32037 => (intro w hSw; (try dsimp only at hSw); go_simp <;> first | with_reducible rfl | rw [if_neg (by omega)] | rw [if_pos (by omega)])
      (try simp only [PU])
      refine TK 8 (v := ?v32038) hHeld ?hy32038 ?_
      case hy32038 => (intro w hSw; (try dsimp only at hSw); go_simp <;> first | with_reducible rfl | rw [if_neg (by omega)] | rw [if_pos (by omega)])
      (try simp only [PU])
      refine TK 9 (v := ?v32039) hHeld ?hy32039 ?_
      case hy32039 => (intro w hSw; (try dsimp only at hSw); go_simp <;> first | with_reducible rfl | rw [if_neg (by omega)] | rw [if_pos (by omega)])
      (try simp only [PU])
      refine TK 10 (v := ?v32040) hHeld ?hy32040 ?_
      case hy32040 => (intro w hSw; (try dsimp only at hSw); go_simp <;> first | with_reducible rfl | rw [if_neg (by omega)] | rw [if_pos (by omega)])
      (try simp only [PU])
      refine TK 11 (v := ?v32041) hHeld ?hy32041 ?_
      case hy32041 => (intro w hSw; (try dsimp only at hSw); go_simp <;> first | with_reducible rfl | rw [if_neg (by omega)] | rw [if_pos (by omega)])
      (try simp only [PU])
      refine TK 12 (v := ?v32042) hHeld ?hy32042 ?_
      case hy32042 => (intro w hSw; (try dsimp only at hSw); go_simp <;> first | with_reducible rfl | rw [if_neg (by omega)] | rw [if_pos (by omega)])
      (try simp only [PU])
      refine wpAnyH_done (by kernel_rfl) ?_ _
      clear hHeld
      go_wp2_with fail
      go_meet
      case rel => exact ⟨by rw [HH.out]; rfl, (by solve_by_elim [X0, X1, X2, X3])⟩
   case rest =>
    obtain ⟨rfl, hx3⟩ := hcut
    obtain ⟨w3, hw3⟩ : ∃ w3, w3 = wc := ⟨_, rfl⟩
    subst hw3
    have HP3 := Lib.hid (HP2.out.exts hx3)
    have HY3 := Lib.hid (fun V (e : Ext w3 V) => HY0.out V (hx3.trans e))
    clear HHZ HHJ HCJ2 HP2 hx3 HY0 a0 a1 a2 d0 d1 d2
    go_upto_if 25 with (fail)
    go_cut [4] from 9 to 53 (fun s4 wx => s4 = .int .i64 k ∧ ∃ (vN' vF' : Value) (c' : Col), Hid (PkS w wb.heap.size q2 q3 wx vN' vF' vT vE vN' vF' vT vE c') ∧ Hid (C1 = { c' with tos := c'.tos ++ [x1], edges := c'.edges ++ [x2] }) ∧ c'.tos.length + 1 ≤ 8388608 ∧ c'.edges.length + 1 ≤ 8388608 ∧ Hid (wx.cell? ⟨y, 0, none⟩ = some (.int .i64 x0) ∧ wx.cell? ⟨y, 1, none⟩ = some (.int .i64 x1) ∧ wx.cell? ⟨y, 2, none⟩ = some (.int .i64 x2)))
    case first =>
     cases hd
     ·go_wp2_with fail
      go_meet
      case rel => exact ⟨rfl, vN, vF, C, HP3, Lib.hid (HS.out.trans (if_neg Bool.false_ne_true)), hl2, hl3, Lib.hid (HY3.out _ (Ext.refl _))⟩
     ·skip
      have HM6 := Lib.hid (fun V (e : Ext w3 V) => (⟨e.cell HP3.out.bx.1, e.cell HP3.out.bx.2.1⟩ : V.cell? ⟨q3, 0, none⟩ = some vN ∧ V.cell? ⟨q3, 1, none⟩ = some vF))
      obtain ⟨z0, z1⟩ := HM6.out w3 (Ext.refl _)
      obtain ⟨c0, c1, c2⟩ := HY3.out w3 (Ext.refl _)
      go_upto_region 6 with (fail)
      refine AnyT.start (S := (fun V => (V.cell? ⟨q3, 0, none⟩ = some vN ∧ V.cell? ⟨q3, 1, none⟩ = some vF) ∧ V.cell? ⟨y, 0, none⟩ = some (.int .i64 x0) ∧ V.cell? ⟨y, 1, none⟩ = some (.int .i64 x1) ∧ V.cell? ⟨y, 2, none⟩ = some (.int .i64 x2))) (T := (fun V => V.cell? ⟨y, 0, none⟩ = some (.int .i64 x0) ∧ V.cell? ⟨y, 1, none⟩ = some (.int .i64 x1) ∧ V.cell? ⟨y, 2, none⟩ = some (.int .i64 x2))) (E := 12) (by kernel_rfl) ?hs32043 (fun hHeld => ?go32043)
      case hs32043 => exact ⟨by (first | exact ⟨HM6.out _ (by solve_by_elim [X0, X1, X2, X3]), HY3.out _ (by solve_by_elim [X0, X1, X2, X3])⟩ | exact ⟨MSAt1.out _ (by solve_by_elim [X0, X1, X2, X3]), MTAt1.out _ (by solve_by_elim [X0, X1, X2, X3])⟩ | exact ⟨MSBt1.out _ (by solve_by_elim [X0, X1, X2, X3]), MTBt1.out _ (by solve_by_elim [X0, X1, X2, X3])⟩), by (first | exact HY3.out _ (by solve_by_elim [X0, X1, X2, X3]) | exact MTAt1.out _ (by solve_by_elim [X0, X1, X2, X3]) | exact MTBt1.out _ (by solve_by_elim [X0, X1, X2, X3]) | exact MTCt1.out _ (by solve_by_elim [X0, X1, X2, X3]) | exact MTDt1.out _ (by solve_by_elim [X0, X1, X2, X3]))⟩
      refine TB 0 (v := ?v32044) ⟨fun _ => hHeld.1, hHeld.2⟩ ?hy32044 ?_
      case hy32044 => (intro w hSw; (try dsimp only at hSw); go_simp <;> first | with_reducible rfl | rw [if_neg (by omega)] | rw [if_pos (by omega)])
      (try simp only [PU])
      refine TA 1 (v := ?v32045) hHeld ?hy32045 ?_
      case hy32045 => (intro w hSw; (try dsimp only at hSw); go_simp <;> first | with_reducible rfl | rw [if_neg (by omega)] | rw [if_pos (by omega)])
      (try simp only [PU])
      refine TB 2 (v := ?v32046) ⟨fun _ => hHeld.1, hHeld.2⟩ ?hy32046 ?_
      case hy32046 => (intro w hSw; (try dsimp only at hSw); go_simp <;> first | with_reducible rfl | rw [if_neg (by omega)] | rw [if_pos (by omega)])
      (try simp only [PU])
      refine TA 3 (v := ?v32047) hHeld ?hy32047 ?_
      case hy32047 => (intro w hSw; (try dsimp only at hSw); go_simp <;> first | with_reducible rfl | rw [if_neg (by omega)] | rw [if_pos (by omega)])
      (try simp only [PU])
      refine TB 6 (v := ?v32048) ⟨fun _ => hHeld.1, hHeld.2⟩ ?hy32048 ?_
      case hy32048 => (intro w hSw; (try dsimp only at hSw); go_simp <;> first | with_reducible rfl | rw [if_neg (by omega)] | rw [if_pos (by omega)])
      (try simp only [PU])
      refine TA 7 (v := ?v32049) hHeld ?hy32049 ?_
      case hy32049 => (intro w hSw; (try dsimp only at hSw); go_simp <;> first | with_reducible rfl | rw [if_neg (by omega)] | rw [if_pos (by omega)])
      (try simp only [PU])
      refine TB 8 (v := ?v32050) ⟨fun _ => hHeld.1, hHeld.2⟩ ?hy32050 ?_
      case hy32050 => (intro w hSw; (try dsimp only at hSw); go_simp <;> first | with_reducible rfl | rw [if_neg (by omega)] | rw [if_pos (by omega)])
      (try simp only [PU])
      refine AnyT.ready (rs := [4, 9]) (by kernel_rfl) (by simp) ?_
      refine AllT.cons (o := ⟨_, _, _, _, _, _⟩) rfl (fun K hK => ?step32051x0) ?more32051x0
      case more32051x0 =>
       refine AllT.cons (o := ⟨_, _, _, _, _, _⟩) rfl (fun K hK => ?step32051x1) ?more32051x1
       case more32051x1 => exact AllT.nil
       go_simp
       refine hK.out _ _ ?hS32051x1 (fun H32051 => ?_)
       case hS32051x1 => exact ⟨fun _ => by (first | exact ⟨HM6.out _ (by solve_by_elim [X0, X1, X2, X3]), HY3.out _ (by solve_by_elim [X0, X1, X2, X3])⟩ | exact ⟨MSAt1.out _ (by solve_by_elim [X0, X1, X2, X3]), MTAt1.out _ (by solve_by_elim [X0, X1, X2, X3])⟩ | exact ⟨MSBt1.out _ (by solve_by_elim [X0, X1, X2, X3]), MTBt1.out _ (by solve_by_elim [X0, X1, X2, X3])⟩), by (first | exact HY3.out _ (by solve_by_elim [X0, X1, X2, X3]) | exact MTAt1.out _ (by solve_by_elim [X0, X1, X2, X3]) | exact MTBt1.out _ (by solve_by_elim [X0, X1, X2, X3]) | exact MTCt1.out _ (by solve_by_elim [X0, X1, X2, X3]) | exact MTDt1.out _ (by solve_by_elim [X0, X1, X2, X3]))⟩
       clear hK K
       clear hHeld
       (try simp only [PU])
       refine AnyT.ready (rs := [4]) (by kernel_rfl) (by simp) ?_
       refine AllT.cons (o := ⟨_, _, _, _, _, _⟩) rfl (fun K hK => ?step32052x0) ?more32052x0
       case more32052x0 => exact AllT.nil
       go_simp
       refine hK.out _ _ ?hS32052x0 (fun H32052 => ?_)
       case hS32052x0 => exact ⟨fun _ => by (first | exact ⟨HM6.out _ (by solve_by_elim [X0, X1, X2, X3]), HY3.out _ (by solve_by_elim [X0, X1, X2, X3])⟩ | exact ⟨MSAt1.out _ (by solve_by_elim [X0, X1, X2, X3]), MTAt1.out _ (by solve_by_elim [X0, X1, X2, X3])⟩ | exact ⟨MSBt1.out _ (by solve_by_elim [X0, X1, X2, X3]), MTBt1.out _ (by solve_by_elim [X0, X1, X2, X3])⟩), by (first | exact HY3.out _ (by solve_by_elim [X0, X1, X2, X3]) | exact MTAt1.out _ (by solve_by_elim [X0, X1, X2, X3]) | exact MTBt1.out _ (by solve_by_elim [X0, X1, X2, X3]) | exact MTCt1.out _ (by solve_by_elim [X0, X1, X2, X3]) | exact MTDt1.out _ (by solve_by_elim [X0, X1, X2, X3]))⟩
       clear hK K
       clear H32051
       (try simp only [PU])
       refine AnyT.ready (rs := [5]) (by kernel_rfl) (by simp) ?_
       refine AllT.cons (o := ⟨_, _, _, _, _, _⟩) rfl (fun K hK => ?step32053x0) ?more32053x0
       case more32053x0 => exact AllT.nil
       (refine step_pushAt T_ki rfl (.tmp 27) (.tmp 30) rfl rfl (OwnG.ext HP3.out.c4.n (by solve_by_elim [X0, X1, X2, X3])) (Nat.le_trans HP3.out.le (Ext.le (a := w3) (by solve_by_elim [X0, X1, X2, X3]))) x0 trivial ⟨_, 0, none⟩ 1 rfl (int_cell (by go_simp)) hl0 (by decide) ?_; intro va0 wt1a hO hg hd; obtain ⟨At1a, nt1a, ct1a, rfl⟩ := own_fm hO; have hPa := (HP3.out.exts (W' := _) (by solve_by_elim [X0, X1, X2, X3])).pushN hO hg (Nat.le_refl _) hd; have HPat1 := Lib.hid hPa; have MSAt1 := Lib.hid (fun V (e : Ext wt1a V) => (⟨e.cell hPa.bx.1, e.cell hPa.bx.2.1⟩ : V.cell? ⟨q3, 0, none⟩ = some vN ∧ V.cell? ⟨q3, 1, none⟩ = some vF)); have MTAt1 := Lib.hid (fun V (e : Ext wt1a V) => (⟨e.cell (hg.cell (HY3.out _ (by solve_by_elim [X0, X1, X2, X3])).1 HYN.out), e.cell (hg.cell (HY3.out _ (by solve_by_elim [X0, X1, X2, X3])).2.1 HYN.out), e.cell (hg.cell (HY3.out _ (by solve_by_elim [X0, X1, X2, X3])).2.2 HYN.out)⟩ : V.cell? ⟨y, 0, none⟩ = some (.int .i64 x0) ∧ V.cell? ⟨y, 1, none⟩ = some (.int .i64 x1) ∧ V.cell? ⟨y, 2, none⟩ = some (.int .i64 x2))); have zbt1 := hg.cell (show World.cell? _ ⟨w3.heap.size, 0, none⟩ = some (.int .i64 (k : Int)) from by go_simp) (fun e => by have := (OwnG.lt HP3.out.c4.n (g := w3.heap.size) e.symm).2; omega); clear hO hg hd hPa)
       refine hK.out _ _ ?hS32053x0 (fun H32053 => ?_)
       case hS32053x0 => exact ⟨fun _ => by (first | exact ⟨HM6.out _ (by solve_by_elim [X0, X1, X2, X3]), HY3.out _ (by solve_by_elim [X0, X1, X2, X3])⟩ | exact ⟨MSAt1.out _ (by solve_by_elim [X0, X1, X2, X3]), MTAt1.out _ (by solve_by_elim [X0, X1, X2, X3])⟩ | exact ⟨MSBt1.out _ (by solve_by_elim [X0, X1, X2, X3]), MTBt1.out _ (by solve_by_elim [X0, X1, X2, X3])⟩), by (first | exact HY3.out _ (by solve_by_elim [X0, X1, X2, X3]) | exact MTAt1.out _ (by solve_by_elim [X0, X1, X2, X3]) | exact MTBt1.out _ (by solve_by_elim [X0, X1, X2, X3]) | exact MTCt1.out _ (by solve_by_elim [X0, X1, X2, X3]) | exact MTDt1.out _ (by solve_by_elim [X0, X1, X2, X3]))⟩
       clear hK K
       clear H32052
       (try simp only [PU])
       refine TB 11 (v := ?v32054) H32053 ?hy32054 ?_
       case hy32054 => (intro w hSw; (try dsimp only at hSw); go_simp <;> first | with_reducible rfl | rw [if_neg (by omega)] | rw [if_pos (by omega)])
       (try simp only [PU])
       refine AnyT.ready (rs := [10]) (by kernel_rfl) (by simp) ?_
       refine AllT.cons (o := ⟨_, _, _, _, _, _⟩) rfl (fun K hK => ?step32055x0) ?more32055x0
       case more32055x0 => exact AllT.nil
       (refine step_pushAt T_ki rfl (.tmp 33) (.tmp 35) rfl rfl (OwnG.ext HPat1.out.c4.f (by solve_by_elim [X0, X1, X2, X3])) (Nat.le_trans HPat1.out.le (Ext.le (a := wt1a) (by solve_by_elim [X0, X1, X2, X3]))) (k : Int) trivial ⟨_, 0, none⟩ 1 rfl (int_cell zbt1) hl1 (by decide) ?_; intro vb0 wt1b hO hg hd; obtain ⟨At1b, nt1b, ct1b, rfl⟩ := own_fm hO; have hPb := (HPat1.out.exts (W' := _) (by solve_by_elim [X0, X1, X2, X3])).pushF hO hg (Nat.le_refl _) hd; have MSBt1 := Lib.hid (fun V (e : Ext wt1b V) => (⟨e.cell hPb.bx.1, e.cell hPb.bx.2.1⟩ : V.cell? ⟨q3, 0, none⟩ = some vN ∧ V.cell? ⟨q3, 1, none⟩ = some vF)); have MTBt1 := Lib.hid (fun V (e : Ext wt1b V) => (⟨e.cell (hg.cell (MTAt1.out _ (by solve_by_elim [X0, X1, X2, X3])).1 HYF.out), e.cell (hg.cell (MTAt1.out _ (by solve_by_elim [X0, X1, X2, X3])).2.1 HYF.out), e.cell (hg.cell (MTAt1.out _ (by solve_by_elim [X0, X1, X2, X3])).2.2 HYF.out)⟩ : V.cell? ⟨y, 0, none⟩ = some (.int .i64 x0) ∧ V.cell? ⟨y, 1, none⟩ = some (.int .i64 x1) ∧ V.cell? ⟨y, 2, none⟩ = some (.int .i64 x2))); have zqt1 := hPb.bx.1; have zft1 := hPb.fz.1; have hPc := hPb.put0 (.slice At1a nt1a ct1a); have MTCt1 := Lib.hid (fun V (e : Ext (wt1b.setCell ⟨q3, 0, none⟩ (.slice At1a nt1a ct1a)) V) => (⟨e.cell ((gr_set _ _ _ _).cell (MTBt1.out _ (Ext.refl _)).1 HYQ.out), e.cell ((gr_set _ _ _ _).cell (MTBt1.out _ (Ext.refl _)).2.1 HYQ.out), e.cell ((gr_set _ _ _ _).cell (MTBt1.out _ (Ext.refl _)).2.2 HYQ.out)⟩ : V.cell? ⟨y, 0, none⟩ = some (.int .i64 x0) ∧ V.cell? ⟨y, 1, none⟩ = some (.int .i64 x1) ∧ V.cell? ⟨y, 2, none⟩ = some (.int .i64 x2))); obtain ⟨wt1c, hwt1c⟩ : ∃ W, W = wt1b.setCell ⟨q3, 0, none⟩ (.slice At1a nt1a ct1a) := ⟨_, rfl⟩; rw [← hwt1c] at hPc MTCt1; have zrt1 := hPc.bx.2.1; have zgt1 := hPc.fz.2.1; have hPd := hPc.put1 (.slice At1b nt1b ct1b); have MTDt1 := Lib.hid (fun V (e : Ext (wt1c.setCell ⟨q3, 1, none⟩ (.slice At1b nt1b ct1b)) V) => (⟨e.cell ((gr_set _ _ _ _).cell (MTCt1.out _ (Ext.refl _)).1 HYQ.out), e.cell ((gr_set _ _ _ _).cell (MTCt1.out _ (Ext.refl _)).2.1 HYQ.out), e.cell ((gr_set _ _ _ _).cell (MTCt1.out _ (Ext.refl _)).2.2 HYQ.out)⟩ : V.cell? ⟨y, 0, none⟩ = some (.int .i64 x0) ∧ V.cell? ⟨y, 1, none⟩ = some (.int .i64 x1) ∧ V.cell? ⟨y, 2, none⟩ = some (.int .i64 x2))); obtain ⟨wt1d, hwt1d⟩ : ∃ W, W = wt1c.setCell ⟨q3, 1, none⟩ (.slice At1b nt1b ct1b) := ⟨_, rfl⟩; rw [← hwt1d] at hPd MTDt1; have HPdt1 := Lib.hid hPd; clear hO hg hd hPb hPc hPd)
       refine hK.out _ _ ?hS32055x0 (fun H32055 => ?_)
       case hS32055x0 => exact ⟨fun _ => by (first | exact ⟨HM6.out _ (by solve_by_elim [X0, X1, X2, X3]), HY3.out _ (by solve_by_elim [X0, X1, X2, X3])⟩ | exact ⟨MSAt1.out _ (by solve_by_elim [X0, X1, X2, X3]), MTAt1.out _ (by solve_by_elim [X0, X1, X2, X3])⟩ | exact ⟨MSBt1.out _ (by solve_by_elim [X0, X1, X2, X3]), MTBt1.out _ (by solve_by_elim [X0, X1, X2, X3])⟩), by (first | exact HY3.out _ (by solve_by_elim [X0, X1, X2, X3]) | exact MTAt1.out _ (by solve_by_elim [X0, X1, X2, X3]) | exact MTBt1.out _ (by solve_by_elim [X0, X1, X2, X3]) | exact MTCt1.out _ (by solve_by_elim [X0, X1, X2, X3]) | exact MTDt1.out _ (by solve_by_elim [X0, X1, X2, X3]))⟩
       clear hK K
       clear H32053
       (try simp only [PU])
       refine AnyT.ready (rs := [12]) (by kernel_rfl) (by simp) ?_
       refine AllT.cons (o := ⟨_, _, _, _, _, _⟩) rfl (fun K hK => ?step32056x0) ?more32056x0
       case more32056x0 => exact AllT.nil
       go_simp
       (rw [← hwt1c]; clear hwt1c)
       refine hK.out _ _ ?hS32056x0 (fun H32056 => ?_)
       case hS32056x0 => exact ⟨fun h => (by first | exact absurd h (by decide) | simp at h), by (first | exact HY3.out _ (by solve_by_elim [X0, X1, X2, X3]) | exact MTAt1.out _ (by solve_by_elim [X0, X1, X2, X3]) | exact MTBt1.out _ (by solve_by_elim [X0, X1, X2, X3]) | exact MTCt1.out _ (by solve_by_elim [X0, X1, X2, X3]) | exact MTDt1.out _ (by solve_by_elim [X0, X1, X2, X3]))⟩
       clear hK K
       clear H32055
       refine TB 13 (v := ?v32057) H32056 ?hy32057 ?_
       case hy32057 => (intro w hSw; (try dsimp only at hSw); go_simp <;> first | with_reducible rfl | rw [if_neg (by omega)] | rw [if_pos (by omega)])
       (try simp only [PU])
       refine AnyT.ready (rs := [14]) (by kernel_rfl) (by simp) ?_
       refine AllT.cons (o := ⟨_, _, _, _, _, _⟩) rfl (fun K hK => ?step32058x0) ?more32058x0
       case more32058x0 => exact AllT.nil
       go_simp
       (rw [← hwt1d]; clear hwt1d)
       refine hK.out _ _ ?hS32058x0 (fun H32058 => ?_)
       case hS32058x0 => exact ⟨fun h => (by first | exact absurd h (by decide) | simp at h), by (first | exact HY3.out _ (by solve_by_elim [X0, X1, X2, X3]) | exact MTAt1.out _ (by solve_by_elim [X0, X1, X2, X3]) | exact MTBt1.out _ (by solve_by_elim [X0, X1, X2, X3]) | exact MTCt1.out _ (by solve_by_elim [X0, X1, X2, X3]) | exact MTDt1.out _ (by solve_by_elim [X0, X1, X2, X3]))⟩
       clear hK K
       clear H32056
       refine AnyT.done (by kernel_rfl) ?_ _
       clear H32058
       go_wp2_with fail
       go_meet
       case rel => exact ⟨rfl, (.slice At1a nt1a ct1a), (.slice At1b nt1b ct1b), _, Lib.hid HPdt1.out, Lib.hid (HS.out.trans (if_pos (by first | rfl | trivial))), hl2, hl3, Lib.hid (MTDt1.out _ (Ext.refl _))⟩
      go_simp
      refine hK.out _ _ ?hS32051x0 (fun H32051 => ?_)
      case hS32051x0 => exact ⟨fun _ => by (first | exact ⟨HM6.out _ (by solve_by_elim [X0, X1, X2, X3]), HY3.out _ (by solve_by_elim [X0, X1, X2, X3])⟩ | exact ⟨MSAt1.out _ (by solve_by_elim [X0, X1, X2, X3]), MTAt1.out _ (by solve_by_elim [X0, X1, X2, X3])⟩ | exact ⟨MSBt1.out _ (by solve_by_elim [X0, X1, X2, X3]), MTBt1.out _ (by solve_by_elim [X0, X1, X2, X3])⟩), by (first | exact HY3.out _ (by solve_by_elim [X0, X1, X2, X3]) | exact MTAt1.out _ (by solve_by_elim [X0, X1, X2, X3]) | exact MTBt1.out _ (by solve_by_elim [X0, X1, X2, X3]) | exact MTCt1.out _ (by solve_by_elim [X0, X1, X2, X3]) | exact MTDt1.out _ (by solve_by_elim [X0, X1, X2, X3]))⟩
      clear hK K
      clear hHeld
      (try simp only [PU])
      refine AnyT.ready (rs := [5, 9]) (by kernel_rfl) (by simp) ?_
      refine AllT.cons (o := ⟨_, _, _, _, _, _⟩) rfl (fun K hK => ?step32059x0) ?more32059x0
      case more32059x0 =>
       refine AllT.cons (o := ⟨_, _, _, _, _, _⟩) rfl (fun K hK => ?step32059x1) ?more32059x1
       case more32059x1 => exact AllT.nil
       go_simp
       refine hK.out _ _ ?hS32059x1 (fun H32059 => ?_)
       case hS32059x1 => exact ⟨fun _ => by (first | exact ⟨HM6.out _ (by solve_by_elim [X0, X1, X2, X3]), HY3.out _ (by solve_by_elim [X0, X1, X2, X3])⟩ | exact ⟨MSAt1.out _ (by solve_by_elim [X0, X1, X2, X3]), MTAt1.out _ (by solve_by_elim [X0, X1, X2, X3])⟩ | exact ⟨MSBt1.out _ (by solve_by_elim [X0, X1, X2, X3]), MTBt1.out _ (by solve_by_elim [X0, X1, X2, X3])⟩), by (first | exact HY3.out _ (by solve_by_elim [X0, X1, X2, X3]) | exact MTAt1.out _ (by solve_by_elim [X0, X1, X2, X3]) | exact MTBt1.out _ (by solve_by_elim [X0, X1, X2, X3]) | exact MTCt1.out _ (by solve_by_elim [X0, X1, X2, X3]) | exact MTDt1.out _ (by solve_by_elim [X0, X1, X2, X3]))⟩
       clear hK K
       clear H32051
       (try simp only [PU])
       refine AnyT.ready (rs := [5]) (by kernel_rfl) (by simp) ?_
       refine AllT.cons (o := ⟨_, _, _, _, _, _⟩) rfl (fun K hK => ?step32060x0) ?more32060x0
       case more32060x0 => exact AllT.nil
       (refine step_pushAt T_ki rfl (.tmp 27) (.tmp 30) rfl rfl (OwnG.ext HP3.out.c4.n (by solve_by_elim [X0, X1, X2, X3])) (Nat.le_trans HP3.out.le (Ext.le (a := w3) (by solve_by_elim [X0, X1, X2, X3]))) x0 trivial ⟨_, 0, none⟩ 1 rfl (int_cell (by go_simp)) hl0 (by decide) ?_; intro va0 wt1a hO hg hd; obtain ⟨At1a, nt1a, ct1a, rfl⟩ := own_fm hO; have hPa := (HP3.out.exts (W' := _) (by solve_by_elim [X0, X1, X2, X3])).pushN hO hg (Nat.le_refl _) hd; have HPat1 := Lib.hid hPa; have MSAt1 := Lib.hid (fun V (e : Ext wt1a V) => (⟨e.cell hPa.bx.1, e.cell hPa.bx.2.1⟩ : V.cell? ⟨q3, 0, none⟩ = some vN ∧ V.cell? ⟨q3, 1, none⟩ = some vF)); have MTAt1 := Lib.hid (fun V (e : Ext wt1a V) => (⟨e.cell (hg.cell (HY3.out _ (by solve_by_elim [X0, X1, X2, X3])).1 HYN.out), e.cell (hg.cell (HY3.out _ (by solve_by_elim [X0, X1, X2, X3])).2.1 HYN.out), e.cell (hg.cell (HY3.out _ (by solve_by_elim [X0, X1, X2, X3])).2.2 HYN.out)⟩ : V.cell? ⟨y, 0, none⟩ = some (.int .i64 x0) ∧ V.cell? ⟨y, 1, none⟩ = some (.int .i64 x1) ∧ V.cell? ⟨y, 2, none⟩ = some (.int .i64 x2))); have zbt1 := hg.cell (show World.cell? _ ⟨w3.heap.size + 1, 0, none⟩ = some (.int .i64 (k : Int)) from by go_simp) (fun e => by have := (OwnG.lt HP3.out.c4.n (g := w3.heap.size + 1) e.symm).2; omega); clear hO hg hd hPa)
       refine hK.out _ _ ?hS32060x0 (fun H32060 => ?_)
       case hS32060x0 => exact ⟨fun _ => by (first | exact ⟨HM6.out _ (by solve_by_elim [X0, X1, X2, X3]), HY3.out _ (by solve_by_elim [X0, X1, X2, X3])⟩ | exact ⟨MSAt1.out _ (by solve_by_elim [X0, X1, X2, X3]), MTAt1.out _ (by solve_by_elim [X0, X1, X2, X3])⟩ | exact ⟨MSBt1.out _ (by solve_by_elim [X0, X1, X2, X3]), MTBt1.out _ (by solve_by_elim [X0, X1, X2, X3])⟩), by (first | exact HY3.out _ (by solve_by_elim [X0, X1, X2, X3]) | exact MTAt1.out _ (by solve_by_elim [X0, X1, X2, X3]) | exact MTBt1.out _ (by solve_by_elim [X0, X1, X2, X3]) | exact MTCt1.out _ (by solve_by_elim [X0, X1, X2, X3]) | exact MTDt1.out _ (by solve_by_elim [X0, X1, X2, X3]))⟩
       clear hK K
       clear H32059
       (try simp only [PU])
       refine TB 11 (v := ?v32061) H32060 ?hy32061 ?_
       case hy32061 => (intro w hSw; (try dsimp only at hSw); go_simp <;> first | with_reducible rfl | rw [if_neg (by omega)] | rw [if_pos (by omega)])
       (try simp only [PU])
       refine AnyT.ready (rs := [10]) (by kernel_rfl) (by simp) ?_
       refine AllT.cons (o := ⟨_, _, _, _, _, _⟩) rfl (fun K hK => ?step32062x0) ?more32062x0
       case more32062x0 => exact AllT.nil
       (refine step_pushAt T_ki rfl (.tmp 33) (.tmp 35) rfl rfl (OwnG.ext HPat1.out.c4.f (by solve_by_elim [X0, X1, X2, X3])) (Nat.le_trans HPat1.out.le (Ext.le (a := wt1a) (by solve_by_elim [X0, X1, X2, X3]))) (k : Int) trivial ⟨_, 0, none⟩ 1 rfl (int_cell zbt1) hl1 (by decide) ?_; intro vb0 wt1b hO hg hd; obtain ⟨At1b, nt1b, ct1b, rfl⟩ := own_fm hO; have hPb := (HPat1.out.exts (W' := _) (by solve_by_elim [X0, X1, X2, X3])).pushF hO hg (Nat.le_refl _) hd; have MSBt1 := Lib.hid (fun V (e : Ext wt1b V) => (⟨e.cell hPb.bx.1, e.cell hPb.bx.2.1⟩ : V.cell? ⟨q3, 0, none⟩ = some vN ∧ V.cell? ⟨q3, 1, none⟩ = some vF)); have MTBt1 := Lib.hid (fun V (e : Ext wt1b V) => (⟨e.cell (hg.cell (MTAt1.out _ (by solve_by_elim [X0, X1, X2, X3])).1 HYF.out), e.cell (hg.cell (MTAt1.out _ (by solve_by_elim [X0, X1, X2, X3])).2.1 HYF.out), e.cell (hg.cell (MTAt1.out _ (by solve_by_elim [X0, X1, X2, X3])).2.2 HYF.out)⟩ : V.cell? ⟨y, 0, none⟩ = some (.int .i64 x0) ∧ V.cell? ⟨y, 1, none⟩ = some (.int .i64 x1) ∧ V.cell? ⟨y, 2, none⟩ = some (.int .i64 x2))); have zqt1 := hPb.bx.1; have zft1 := hPb.fz.1; have hPc := hPb.put0 (.slice At1a nt1a ct1a); have MTCt1 := Lib.hid (fun V (e : Ext (wt1b.setCell ⟨q3, 0, none⟩ (.slice At1a nt1a ct1a)) V) => (⟨e.cell ((gr_set _ _ _ _).cell (MTBt1.out _ (Ext.refl _)).1 HYQ.out), e.cell ((gr_set _ _ _ _).cell (MTBt1.out _ (Ext.refl _)).2.1 HYQ.out), e.cell ((gr_set _ _ _ _).cell (MTBt1.out _ (Ext.refl _)).2.2 HYQ.out)⟩ : V.cell? ⟨y, 0, none⟩ = some (.int .i64 x0) ∧ V.cell? ⟨y, 1, none⟩ = some (.int .i64 x1) ∧ V.cell? ⟨y, 2, none⟩ = some (.int .i64 x2))); obtain ⟨wt1c, hwt1c⟩ : ∃ W, W = wt1b.setCell ⟨q3, 0, none⟩ (.slice At1a nt1a ct1a) := ⟨_, rfl⟩; rw [← hwt1c] at hPc MTCt1; have zrt1 := hPc.bx.2.1; have zgt1 := hPc.fz.2.1; have hPd := hPc.put1 (.slice At1b nt1b ct1b); have MTDt1 := Lib.hid (fun V (e : Ext (wt1c.setCell ⟨q3, 1, none⟩ (.slice At1b nt1b ct1b)) V) => (⟨e.cell ((gr_set _ _ _ _).cell (MTCt1.out _ (Ext.refl _)).1 HYQ.out), e.cell ((gr_set _ _ _ _).cell (MTCt1.out _ (Ext.refl _)).2.1 HYQ.out), e.cell ((gr_set _ _ _ _).cell (MTCt1.out _ (Ext.refl _)).2.2 HYQ.out)⟩ : V.cell? ⟨y, 0, none⟩ = some (.int .i64 x0) ∧ V.cell? ⟨y, 1, none⟩ = some (.int .i64 x1) ∧ V.cell? ⟨y, 2, none⟩ = some (.int .i64 x2))); obtain ⟨wt1d, hwt1d⟩ : ∃ W, W = wt1c.setCell ⟨q3, 1, none⟩ (.slice At1b nt1b ct1b) := ⟨_, rfl⟩; rw [← hwt1d] at hPd MTDt1; have HPdt1 := Lib.hid hPd; clear hO hg hd hPb hPc hPd)
       refine hK.out _ _ ?hS32062x0 (fun H32062 => ?_)
       case hS32062x0 => exact ⟨fun _ => by (first | exact ⟨HM6.out _ (by solve_by_elim [X0, X1, X2, X3]), HY3.out _ (by solve_by_elim [X0, X1, X2, X3])⟩ | exact ⟨MSAt1.out _ (by solve_by_elim [X0, X1, X2, X3]), MTAt1.out _ (by solve_by_elim [X0, X1, X2, X3])⟩ | exact ⟨MSBt1.out _ (by solve_by_elim [X0, X1, X2, X3]), MTBt1.out _ (by solve_by_elim [X0, X1, X2, X3])⟩), by (first | exact HY3.out _ (by solve_by_elim [X0, X1, X2, X3]) | exact MTAt1.out _ (by solve_by_elim [X0, X1, X2, X3]) | exact MTBt1.out _ (by solve_by_elim [X0, X1, X2, X3]) | exact MTCt1.out _ (by solve_by_elim [X0, X1, X2, X3]) | exact MTDt1.out _ (by solve_by_elim [X0, X1, X2, X3]))⟩
       clear hK K
       clear H32060
       (try simp only [PU])
       refine AnyT.ready (rs := [12]) (by kernel_rfl) (by simp) ?_
       refine AllT.cons (o := ⟨_, _, _, _, _, _⟩) rfl (fun K hK => ?step32063x0) ?more32063x0
       case more32063x0 => exact AllT.nil
       go_simp
       (rw [← hwt1c]; clear hwt1c)
       refine hK.out _ _ ?hS32063x0 (fun H32063 => ?_)
       case hS32063x0 => exact ⟨fun h => (by first | exact absurd h (by decide) | simp at h), by (first | exact HY3.out _ (by solve_by_elim [X0, X1, X2, X3]) | exact MTAt1.out _ (by solve_by_elim [X0, X1, X2, X3]) | exact MTBt1.out _ (by solve_by_elim [X0, X1, X2, X3]) | exact MTCt1.out _ (by solve_by_elim [X0, X1, X2, X3]) | exact MTDt1.out _ (by solve_by_elim [X0, X1, X2, X3]))⟩
       clear hK K
       clear H32062
       refine TB 13 (v := ?v32064) H32063 ?hy32064 ?_
       case hy32064 => (intro w hSw; (try dsimp only at hSw); go_simp <;> first | with_reducible rfl | rw [if_neg (by omega)] | rw [if_pos (by omega)])
       (try simp only [PU])
       refine AnyT.ready (rs := [14]) (by kernel_rfl) (by simp) ?_
       refine AllT.cons (o := ⟨_, _, _, _, _, _⟩) rfl (fun K hK => ?step32065x0) ?more32065x0
       case more32065x0 => exact AllT.nil
       go_simp
       (rw [← hwt1d]; clear hwt1d)
       refine hK.out _ _ ?hS32065x0 (fun H32065 => ?_)
       case hS32065x0 => exact ⟨fun h => (by first | exact absurd h (by decide) | simp at h), by (first | exact HY3.out _ (by solve_by_elim [X0, X1, X2, X3]) | exact MTAt1.out _ (by solve_by_elim [X0, X1, X2, X3]) | exact MTBt1.out _ (by solve_by_elim [X0, X1, X2, X3]) | exact MTCt1.out _ (by solve_by_elim [X0, X1, X2, X3]) | exact MTDt1.out _ (by solve_by_elim [X0, X1, X2, X3]))⟩
       clear hK K
       clear H32063
       refine AnyT.done (by kernel_rfl) ?_ _
       clear H32065
       go_wp2_with fail
       go_meet
       case rel => exact ⟨rfl, (.slice At1a nt1a ct1a), (.slice At1b nt1b ct1b), _, Lib.hid HPdt1.out, Lib.hid (HS.out.trans (if_pos (by first | rfl | trivial))), hl2, hl3, Lib.hid (MTDt1.out _ (Ext.refl _))⟩
      (refine step_pushAt T_ki rfl (.tmp 27) (.tmp 30) rfl rfl (OwnG.ext HP3.out.c4.n (by solve_by_elim [X0, X1, X2, X3])) (Nat.le_trans HP3.out.le (Ext.le (a := w3) (by solve_by_elim [X0, X1, X2, X3]))) x0 trivial ⟨_, 0, none⟩ 1 rfl (int_cell (by go_simp)) hl0 (by decide) ?_; intro va0 wt1a hO hg hd; obtain ⟨At1a, nt1a, ct1a, rfl⟩ := own_fm hO; have hPa := (HP3.out.exts (W' := _) (by solve_by_elim [X0, X1, X2, X3])).pushN hO hg (Nat.le_refl _) hd; have HPat1 := Lib.hid hPa; have MSAt1 := Lib.hid (fun V (e : Ext wt1a V) => (⟨e.cell hPa.bx.1, e.cell hPa.bx.2.1⟩ : V.cell? ⟨q3, 0, none⟩ = some vN ∧ V.cell? ⟨q3, 1, none⟩ = some vF)); have MTAt1 := Lib.hid (fun V (e : Ext wt1a V) => (⟨e.cell (hg.cell (HY3.out _ (by solve_by_elim [X0, X1, X2, X3])).1 HYN.out), e.cell (hg.cell (HY3.out _ (by solve_by_elim [X0, X1, X2, X3])).2.1 HYN.out), e.cell (hg.cell (HY3.out _ (by solve_by_elim [X0, X1, X2, X3])).2.2 HYN.out)⟩ : V.cell? ⟨y, 0, none⟩ = some (.int .i64 x0) ∧ V.cell? ⟨y, 1, none⟩ = some (.int .i64 x1) ∧ V.cell? ⟨y, 2, none⟩ = some (.int .i64 x2))); clear hO hg hd hPa)
      refine hK.out _ _ ?hS32059x0 (fun H32059 => ?_)
      case hS32059x0 => exact ⟨fun _ => by (first | exact ⟨HM6.out _ (by solve_by_elim [X0, X1, X2, X3]), HY3.out _ (by solve_by_elim [X0, X1, X2, X3])⟩ | exact ⟨MSAt1.out _ (by solve_by_elim [X0, X1, X2, X3]), MTAt1.out _ (by solve_by_elim [X0, X1, X2, X3])⟩ | exact ⟨MSBt1.out _ (by solve_by_elim [X0, X1, X2, X3]), MTBt1.out _ (by solve_by_elim [X0, X1, X2, X3])⟩), by (first | exact HY3.out _ (by solve_by_elim [X0, X1, X2, X3]) | exact MTAt1.out _ (by solve_by_elim [X0, X1, X2, X3]) | exact MTBt1.out _ (by solve_by_elim [X0, X1, X2, X3]) | exact MTCt1.out _ (by solve_by_elim [X0, X1, X2, X3]) | exact MTDt1.out _ (by solve_by_elim [X0, X1, X2, X3]))⟩
      clear hK K
      clear H32051
      (try simp only [PU])
      refine TB 11 (v := ?v32066) H32059 ?hy32066 ?_
      case hy32066 => (intro w hSw; (try dsimp only at hSw); go_simp <;> first | with_reducible rfl | rw [if_neg (by omega)] | rw [if_pos (by omega)])
      (try simp only [PU])
      refine AnyT.ready (rs := [9]) (by kernel_rfl) (by simp) ?_
      refine AllT.cons (o := ⟨_, _, _, _, _, _⟩) rfl (fun K hK => ?step32067x0) ?more32067x0
      case more32067x0 => exact AllT.nil
      go_simp
      refine hK.out _ _ ?hS32067x0 (fun H32067 => ?_)
      case hS32067x0 => exact ⟨fun _ => by (first | exact ⟨HM6.out _ (by solve_by_elim [X0, X1, X2, X3]), HY3.out _ (by solve_by_elim [X0, X1, X2, X3])⟩ | exact ⟨MSAt1.out _ (by solve_by_elim [X0, X1, X2, X3]), MTAt1.out _ (by solve_by_elim [X0, X1, X2, X3])⟩ | exact ⟨MSBt1.out _ (by solve_by_elim [X0, X1, X2, X3]), MTBt1.out _ (by solve_by_elim [X0, X1, X2, X3])⟩), by (first | exact HY3.out _ (by solve_by_elim [X0, X1, X2, X3]) | exact MTAt1.out _ (by solve_by_elim [X0, X1, X2, X3]) | exact MTBt1.out _ (by solve_by_elim [X0, X1, X2, X3]) | exact MTCt1.out _ (by solve_by_elim [X0, X1, X2, X3]) | exact MTDt1.out _ (by solve_by_elim [X0, X1, X2, X3]))⟩
      clear hK K
      clear H32059
      (try simp only [PU])
      refine AnyT.ready (rs := [10]) (by kernel_rfl) (by simp) ?_
      refine AllT.cons (o := ⟨_, _, _, _, _, _⟩) rfl (fun K hK => ?step32068x0) ?more32068x0
      case more32068x0 => exact AllT.nil
      (refine step_pushAt T_ki rfl (.tmp 33) (.tmp 35) rfl rfl (OwnG.ext HPat1.out.c4.f (by solve_by_elim [X0, X1, X2, X3])) (Nat.le_trans HPat1.out.le (Ext.le (a := wt1a) (by solve_by_elim [X0, X1, X2, X3]))) (k : Int) trivial ⟨_, 0, none⟩ 1 rfl (int_cell (by go_simp)) hl1 (by decide) ?_; intro vb0 wt1b hO hg hd; obtain ⟨At1b, nt1b, ct1b, rfl⟩ := own_fm hO; have hPb := (HPat1.out.exts (W' := _) (by solve_by_elim [X0, X1, X2, X3])).pushF hO hg (Nat.le_refl _) hd; have MSBt1 := Lib.hid (fun V (e : Ext wt1b V) => (⟨e.cell hPb.bx.1, e.cell hPb.bx.2.1⟩ : V.cell? ⟨q3, 0, none⟩ = some vN ∧ V.cell? ⟨q3, 1, none⟩ = some vF)); have MTBt1 := Lib.hid (fun V (e : Ext wt1b V) => (⟨e.cell (hg.cell (MTAt1.out _ (by solve_by_elim [X0, X1, X2, X3])).1 HYF.out), e.cell (hg.cell (MTAt1.out _ (by solve_by_elim [X0, X1, X2, X3])).2.1 HYF.out), e.cell (hg.cell (MTAt1.out _ (by solve_by_elim [X0, X1, X2, X3])).2.2 HYF.out)⟩ : V.cell? ⟨y, 0, none⟩ = some (.int .i64 x0) ∧ V.cell? ⟨y, 1, none⟩ = some (.int .i64 x1) ∧ V.cell? ⟨y, 2, none⟩ = some (.int .i64 x2))); have zqt1 := hPb.bx.1; have zft1 := hPb.fz.1; have hPc := hPb.put0 (.slice At1a nt1a ct1a); have MTCt1 := Lib.hid (fun V (e : Ext (wt1b.setCell ⟨q3, 0, none⟩ (.slice At1a nt1a ct1a)) V) => (⟨e.cell ((gr_set _ _ _ _).cell (MTBt1.out _ (Ext.refl _)).1 HYQ.out), e.cell ((gr_set _ _ _ _).cell (MTBt1.out _ (Ext.refl _)).2.1 HYQ.out), e.cell ((gr_set _ _ _ _).cell (MTBt1.out _ (Ext.refl _)).2.2 HYQ.out)⟩ : V.cell? ⟨y, 0, none⟩ = some (.int .i64 x0) ∧ V.cell? ⟨y, 1, none⟩ = some (.int .i64 x1) ∧ V.cell? ⟨y, 2, none⟩ = some (.int .i64 x2))); obtain ⟨wt1c, hwt1c⟩ : ∃ W, W = wt1b.setCell ⟨q3, 0, none⟩ (.slice At1a nt1a ct1a) := ⟨_, rfl⟩; rw [← hwt1c] at hPc MTCt1; have zrt1 := hPc.bx.2.1; have zgt1 := hPc.fz.2.1; have hPd := hPc.put1 (.slice At1b nt1b ct1b); have MTDt1 := Lib.hid (fun V (e : Ext (wt1c.setCell ⟨q3, 1, none⟩ (.slice At1b nt1b ct1b)) V) => (⟨e.cell ((gr_set _ _ _ _).cell (MTCt1.out _ (Ext.refl _)).1 HYQ.out), e.cell ((gr_set _ _ _ _).cell (MTCt1.out _ (Ext.refl _)).2.1 HYQ.out), e.cell ((gr_set _ _ _ _).cell (MTCt1.out _ (Ext.refl _)).2.2 HYQ.out)⟩ : V.cell? ⟨y, 0, none⟩ = some (.int .i64 x0) ∧ V.cell? ⟨y, 1, none⟩ = some (.int .i64 x1) ∧ V.cell? ⟨y, 2, none⟩ = some (.int .i64 x2))); obtain ⟨wt1d, hwt1d⟩ : ∃ W, W = wt1c.setCell ⟨q3, 1, none⟩ (.slice At1b nt1b ct1b) := ⟨_, rfl⟩; rw [← hwt1d] at hPd MTDt1; have HPdt1 := Lib.hid hPd; clear hO hg hd hPb hPc hPd)
      refine hK.out _ _ ?hS32068x0 (fun H32068 => ?_)
      case hS32068x0 => exact ⟨fun _ => by (first | exact ⟨HM6.out _ (by solve_by_elim [X0, X1, X2, X3]), HY3.out _ (by solve_by_elim [X0, X1, X2, X3])⟩ | exact ⟨MSAt1.out _ (by solve_by_elim [X0, X1, X2, X3]), MTAt1.out _ (by solve_by_elim [X0, X1, X2, X3])⟩ | exact ⟨MSBt1.out _ (by solve_by_elim [X0, X1, X2, X3]), MTBt1.out _ (by solve_by_elim [X0, X1, X2, X3])⟩), by (first | exact HY3.out _ (by solve_by_elim [X0, X1, X2, X3]) | exact MTAt1.out _ (by solve_by_elim [X0, X1, X2, X3]) | exact MTBt1.out _ (by solve_by_elim [X0, X1, X2, X3]) | exact MTCt1.out _ (by solve_by_elim [X0, X1, X2, X3]) | exact MTDt1.out _ (by solve_by_elim [X0, X1, X2, X3]))⟩
      clear hK K
      clear H32067
      (try simp only [PU])
      refine AnyT.ready (rs := [12]) (by kernel_rfl) (by simp) ?_
      refine AllT.cons (o := ⟨_, _, _, _, _, _⟩) rfl (fun K hK => ?step32069x0) ?more32069x0
      case more32069x0 => exact AllT.nil
      go_simp
      (rw [← hwt1c]; clear hwt1c)
      refine hK.out _ _ ?hS32069x0 (fun H32069 => ?_)
      case hS32069x0 => exact ⟨fun h => (by first | exact absurd h (by decide) | simp at h), by (first | exact HY3.out _ (by solve_by_elim [X0, X1, X2, X3]) | exact MTAt1.out _ (by solve_by_elim [X0, X1, X2, X3]) | exact MTBt1.out _ (by solve_by_elim [X0, X1, X2, X3]) | exact MTCt1.out _ (by solve_by_elim [X0, X1, X2, X3]) | exact MTDt1.out _ (by solve_by_elim [X0, X1, X2, X3]))⟩
      clear hK K
      clear H32068
      refine TB 13 (v := ?v32070) H32069 ?hy32070 ?_
      case hy32070 => (intro w hSw; (try dsimp only at hSw); go_simp <;> first | with_reducible rfl | rw [if_neg (by omega)] | rw [if_pos (by omega)])
      (try simp only [PU])
      refine AnyT.ready (rs := [14]) (by kernel_rfl) (by simp) ?_
      refine AllT.cons (o := ⟨_, _, _, _, _, _⟩) rfl (fun K hK => ?step32071x0) ?more32071x0
      case more32071x0 => exact AllT.nil
      go_simp
      (rw [← hwt1d]; clear hwt1d)
      refine hK.out _ _ ?hS32071x0 (fun H32071 => ?_)
      case hS32071x0 => exact ⟨fun h => (by first | exact absurd h (by decide) | simp at h), by (first | exact HY3.out _ (by solve_by_elim [X0, X1, X2, X3]) | exact MTAt1.out _ (by solve_by_elim [X0, X1, X2, X3]) | exact MTBt1.out _ (by solve_by_elim [X0, X1, X2, X3]) | exact MTCt1.out _ (by solve_by_elim [X0, X1, X2, X3]) | exact MTDt1.out _ (by solve_by_elim [X0, X1, X2, X3]))⟩
      clear hK K
      clear H32069
      refine AnyT.done (by kernel_rfl) ?_ _
      clear H32071
      go_wp2_with fail
      go_meet
      case rel => exact ⟨rfl, (.slice At1a nt1a ct1a), (.slice At1b nt1b ct1b), _, Lib.hid HPdt1.out, Lib.hid (HS.out.trans (if_pos (by first | rfl | trivial))), hl2, hl3, Lib.hid (MTDt1.out _ (Ext.refl _))⟩
    case rest =>
     obtain ⟨rfl, vN', vF', c', HP4, HC, hm2, hm3, hyc⟩ := hcut
     obtain ⟨w4, hw4⟩ : ∃ w4, w4 = wc := ⟨_, rfl⟩
     subst hw4
     have HY4 := Lib.hid (fun V (e : Ext w4 V) => (⟨e.cell hyc.out.1, e.cell hyc.out.2.1, e.cell hyc.out.2.2⟩ : V.cell? ⟨y, 0, none⟩ = some (.int .i64 x0) ∧ V.cell? ⟨y, 1, none⟩ = some (.int .i64 x1) ∧ V.cell? ⟨y, 2, none⟩ = some (.int .i64 x2)))
     clear HP3 HY3 HS hyc HYN HYF hl0 hl1 hl2 hl3
     have HM7 := Lib.hid (fun V (e : Ext w4 V) => (⟨e.cell HP4.out.bx.2.2.1, e.cell HP4.out.bx.2.2.2⟩ : V.cell? ⟨q3, 2, none⟩ = some vT ∧ V.cell? ⟨q3, 3, none⟩ = some vE))
     obtain ⟨z0, z1⟩ := HM7.out w4 (Ext.refl _)
     obtain ⟨c0, c1, c2⟩ := HY4.out w4 (Ext.refl _)
     go_upto_region 7 with (fail)
     refine AnyT.start (S := (fun V => (V.cell? ⟨q3, 2, none⟩ = some vT ∧ V.cell? ⟨q3, 3, none⟩ = some vE) ∧ V.cell? ⟨y, 0, none⟩ = some (.int .i64 x0) ∧ V.cell? ⟨y, 1, none⟩ = some (.int .i64 x1) ∧ V.cell? ⟨y, 2, none⟩ = some (.int .i64 x2))) (T := (fun V => V.cell? ⟨y, 0, none⟩ = some (.int .i64 x0) ∧ V.cell? ⟨y, 1, none⟩ = some (.int .i64 x1) ∧ V.cell? ⟨y, 2, none⟩ = some (.int .i64 x2))) (E := 13) (by kernel_rfl) ?hs32072 (fun hHeld => ?go32072)
     case hs32072 => exact ⟨by (first | exact ⟨HM7.out _ (by solve_by_elim [X0, X1, X2, X3]), HY4.out _ (by solve_by_elim [X0, X1, X2, X3])⟩ | exact ⟨MSAt2.out _ (by solve_by_elim [X0, X1, X2, X3]), MTAt2.out _ (by solve_by_elim [X0, X1, X2, X3])⟩ | exact ⟨MSBt2.out _ (by solve_by_elim [X0, X1, X2, X3]), MTBt2.out _ (by solve_by_elim [X0, X1, X2, X3])⟩), by (first | exact HY4.out _ (by solve_by_elim [X0, X1, X2, X3]) | exact MTAt2.out _ (by solve_by_elim [X0, X1, X2, X3]) | exact MTBt2.out _ (by solve_by_elim [X0, X1, X2, X3]) | exact MTCt2.out _ (by solve_by_elim [X0, X1, X2, X3]) | exact MTDt2.out _ (by solve_by_elim [X0, X1, X2, X3]))⟩
     refine TB 0 (v := ?v32073) ⟨fun _ => hHeld.1, hHeld.2⟩ ?hy32073 ?_
     case hy32073 => (intro w hSw; (try dsimp only at hSw); go_simp <;> first | with_reducible rfl | rw [if_neg (by omega)] | rw [if_pos (by omega)])
     (try simp only [PU])
     refine TA 1 (v := ?v32074) hHeld ?hy32074 ?_
     case hy32074 => (intro w hSw; (try dsimp only at hSw); go_simp <;> first | with_reducible rfl | rw [if_neg (by omega)] | rw [if_pos (by omega)])
     (try simp only [PU])
     refine TB 2 (v := ?v32075) ⟨fun _ => hHeld.1, hHeld.2⟩ ?hy32075 ?_
     case hy32075 => (intro w hSw; (try dsimp only at hSw); go_simp <;> first | with_reducible rfl | rw [if_neg (by omega)] | rw [if_pos (by omega)])
     (try simp only [PU])
     refine TA 3 (v := ?v32076) hHeld ?hy32076 ?_
     case hy32076 => (intro w hSw; (try dsimp only at hSw); go_simp <;> first | with_reducible rfl | rw [if_neg (by omega)] | rw [if_pos (by omega)])
     (try simp only [PU])
     refine TB 6 (v := ?v32077) ⟨fun _ => hHeld.1, hHeld.2⟩ ?hy32077 ?_
     case hy32077 => (intro w hSw; (try dsimp only at hSw); go_simp <;> first | with_reducible rfl | rw [if_neg (by omega)] | rw [if_pos (by omega)])
     (try simp only [PU])
     refine TA 7 (v := ?v32078) hHeld ?hy32078 ?_
     case hy32078 => (intro w hSw; (try dsimp only at hSw); go_simp <;> first | with_reducible rfl | rw [if_neg (by omega)] | rw [if_pos (by omega)])
     (try simp only [PU])
     refine TB 8 (v := ?v32079) ⟨fun _ => hHeld.1, hHeld.2⟩ ?hy32079 ?_
     case hy32079 => (intro w hSw; (try dsimp only at hSw); go_simp <;> first | with_reducible rfl | rw [if_neg (by omega)] | rw [if_pos (by omega)])
     (try simp only [PU])
     refine TB 9 (v := ?v32080) ⟨fun _ => hHeld.1, hHeld.2⟩ ?hy32080 ?_
     case hy32080 => (intro w hSw; (try dsimp only at hSw); go_simp <;> first | with_reducible rfl | rw [if_neg (by omega)] | rw [if_pos (by omega)])
     (try simp only [PU])
     refine AnyT.ready (rs := [4, 10]) (by kernel_rfl) (by simp) ?_
     refine AllT.cons (o := ⟨_, _, _, _, _, _⟩) rfl (fun K hK => ?step32081x0) ?more32081x0
     case more32081x0 =>
      refine AllT.cons (o := ⟨_, _, _, _, _, _⟩) rfl (fun K hK => ?step32081x1) ?more32081x1
      case more32081x1 => exact AllT.nil
      go_simp
      refine hK.out _ _ ?hS32081x1 (fun H32081 => ?_)
      case hS32081x1 => exact ⟨fun _ => by (first | exact ⟨HM7.out _ (by solve_by_elim [X0, X1, X2, X3]), HY4.out _ (by solve_by_elim [X0, X1, X2, X3])⟩ | exact ⟨MSAt2.out _ (by solve_by_elim [X0, X1, X2, X3]), MTAt2.out _ (by solve_by_elim [X0, X1, X2, X3])⟩ | exact ⟨MSBt2.out _ (by solve_by_elim [X0, X1, X2, X3]), MTBt2.out _ (by solve_by_elim [X0, X1, X2, X3])⟩), by (first | exact HY4.out _ (by solve_by_elim [X0, X1, X2, X3]) | exact MTAt2.out _ (by solve_by_elim [X0, X1, X2, X3]) | exact MTBt2.out _ (by solve_by_elim [X0, X1, X2, X3]) | exact MTCt2.out _ (by solve_by_elim [X0, X1, X2, X3]) | exact MTDt2.out _ (by solve_by_elim [X0, X1, X2, X3]))⟩
      clear hK K
      clear hHeld
      (try simp only [PU])
      refine AnyT.ready (rs := [4]) (by kernel_rfl) (by simp) ?_
      refine AllT.cons (o := ⟨_, _, _, _, _, _⟩) rfl (fun K hK => ?step32082x0) ?more32082x0
      case more32082x0 => exact AllT.nil
      go_simp
      refine hK.out _ _ ?hS32082x0 (fun H32082 => ?_)
      case hS32082x0 => exact ⟨fun _ => by (first | exact ⟨HM7.out _ (by solve_by_elim [X0, X1, X2, X3]), HY4.out _ (by solve_by_elim [X0, X1, X2, X3])⟩ | exact ⟨MSAt2.out _ (by solve_by_elim [X0, X1, X2, X3]), MTAt2.out _ (by solve_by_elim [X0, X1, X2, X3])⟩ | exact ⟨MSBt2.out _ (by solve_by_elim [X0, X1, X2, X3]), MTBt2.out _ (by solve_by_elim [X0, X1, X2, X3])⟩), by (first | exact HY4.out _ (by solve_by_elim [X0, X1, X2, X3]) | exact MTAt2.out _ (by solve_by_elim [X0, X1, X2, X3]) | exact MTBt2.out _ (by solve_by_elim [X0, X1, X2, X3]) | exact MTCt2.out _ (by solve_by_elim [X0, X1, X2, X3]) | exact MTDt2.out _ (by solve_by_elim [X0, X1, X2, X3]))⟩
      clear hK K
      clear H32081
      (try simp only [PU])
      refine AnyT.ready (rs := [5]) (by kernel_rfl) (by simp) ?_
      refine AllT.cons (o := ⟨_, _, _, _, _, _⟩) rfl (fun K hK => ?step32083x0) ?more32083x0
      case more32083x0 => exact AllT.nil
      (refine step_pushAt T_ki rfl (.tmp 40) (.tmp 43) rfl rfl (OwnG.ext HP4.out.c4.t (by solve_by_elim [X0, X1, X2, X3])) (Nat.le_trans HP4.out.le (Ext.le (a := w4) (by solve_by_elim [X0, X1, X2, X3]))) x1 trivial ⟨_, 0, none⟩ 1 rfl (int_cell (by go_simp)) hm2 (by decide) ?_; intro va0 wt2a hO hg hd; obtain ⟨At2a, nt2a, ct2a, rfl⟩ := own_fm hO; have hPa := (HP4.out.exts (W' := _) (by solve_by_elim [X0, X1, X2, X3])).pushT hO hg (Nat.le_refl _) hd; have HPat2 := Lib.hid hPa; have MSAt2 := Lib.hid (fun V (e : Ext wt2a V) => (⟨e.cell hPa.bx.2.2.1, e.cell hPa.bx.2.2.2⟩ : V.cell? ⟨q3, 2, none⟩ = some vT ∧ V.cell? ⟨q3, 3, none⟩ = some vE)); have MTAt2 := Lib.hid (fun V (e : Ext wt2a V) => (⟨e.cell (hg.cell (HY4.out _ (by solve_by_elim [X0, X1, X2, X3])).1 HYT.out), e.cell (hg.cell (HY4.out _ (by solve_by_elim [X0, X1, X2, X3])).2.1 HYT.out), e.cell (hg.cell (HY4.out _ (by solve_by_elim [X0, X1, X2, X3])).2.2 HYT.out)⟩ : V.cell? ⟨y, 0, none⟩ = some (.int .i64 x0) ∧ V.cell? ⟨y, 1, none⟩ = some (.int .i64 x1) ∧ V.cell? ⟨y, 2, none⟩ = some (.int .i64 x2))); have zbt2 := hg.cell (show World.cell? _ ⟨w4.heap.size, 0, none⟩ = some (.int .i64 x2) from by go_simp) (fun e => by have := (OwnG.lt HP4.out.c4.t (g := w4.heap.size) e.symm).2; omega); clear hO hg hd hPa)
      refine hK.out _ _ ?hS32083x0 (fun H32083 => ?_)
      case hS32083x0 => exact ⟨fun _ => by (first | exact ⟨HM7.out _ (by solve_by_elim [X0, X1, X2, X3]), HY4.out _ (by solve_by_elim [X0, X1, X2, X3])⟩ | exact ⟨MSAt2.out _ (by solve_by_elim [X0, X1, X2, X3]), MTAt2.out _ (by solve_by_elim [X0, X1, X2, X3])⟩ | exact ⟨MSBt2.out _ (by solve_by_elim [X0, X1, X2, X3]), MTBt2.out _ (by solve_by_elim [X0, X1, X2, X3])⟩), by (first | exact HY4.out _ (by solve_by_elim [X0, X1, X2, X3]) | exact MTAt2.out _ (by solve_by_elim [X0, X1, X2, X3]) | exact MTBt2.out _ (by solve_by_elim [X0, X1, X2, X3]) | exact MTCt2.out _ (by solve_by_elim [X0, X1, X2, X3]) | exact MTDt2.out _ (by solve_by_elim [X0, X1, X2, X3]))⟩
      clear hK K
      clear H32082
      (try simp only [PU])
      refine TB 12 (v := ?v32084) H32083 ?hy32084 ?_
      case hy32084 => (intro w hSw; (try dsimp only at hSw); go_simp <;> first | with_reducible rfl | rw [if_neg (by omega)] | rw [if_pos (by omega)])
      (try simp only [PU])
      refine AnyT.ready (rs := [11]) (by kernel_rfl) (by simp) ?_
      refine AllT.cons (o := ⟨_, _, _, _, _, _⟩) rfl (fun K hK => ?step32085x0) ?more32085x0
      case more32085x0 => exact AllT.nil
      (refine step_pushAt T_ki rfl (.tmp 46) (.tmp 49) rfl rfl (OwnG.ext HPat2.out.c4.e (by solve_by_elim [X0, X1, X2, X3])) (Nat.le_trans HPat2.out.le (Ext.le (a := wt2a) (by solve_by_elim [X0, X1, X2, X3]))) x2 trivial ⟨_, 0, none⟩ 1 rfl (int_cell zbt2) hm3 (by decide) ?_; intro vb0 wt2b hO hg hd; obtain ⟨At2b, nt2b, ct2b, rfl⟩ := own_fm hO; have hPb := (HPat2.out.exts (W' := _) (by solve_by_elim [X0, X1, X2, X3])).pushE hO hg (Nat.le_refl _) hd; have MSBt2 := Lib.hid (fun V (e : Ext wt2b V) => (⟨e.cell hPb.bx.2.2.1, e.cell hPb.bx.2.2.2⟩ : V.cell? ⟨q3, 2, none⟩ = some vT ∧ V.cell? ⟨q3, 3, none⟩ = some vE)); have MTBt2 := Lib.hid (fun V (e : Ext wt2b V) => (⟨e.cell (hg.cell (MTAt2.out _ (by solve_by_elim [X0, X1, X2, X3])).1 HYE.out), e.cell (hg.cell (MTAt2.out _ (by solve_by_elim [X0, X1, X2, X3])).2.1 HYE.out), e.cell (hg.cell (MTAt2.out _ (by solve_by_elim [X0, X1, X2, X3])).2.2 HYE.out)⟩ : V.cell? ⟨y, 0, none⟩ = some (.int .i64 x0) ∧ V.cell? ⟨y, 1, none⟩ = some (.int .i64 x1) ∧ V.cell? ⟨y, 2, none⟩ = some (.int .i64 x2))); have zqt2 := hPb.bx.2.2.1; have zft2 := hPb.fz.2.2.1; have hPc := hPb.put2 (.slice At2a nt2a ct2a); have MTCt2 := Lib.hid (fun V (e : Ext (wt2b.setCell ⟨q3, 2, none⟩ (.slice At2a nt2a ct2a)) V) => (⟨e.cell ((gr_set _ _ _ _).cell (MTBt2.out _ (Ext.refl _)).1 HYQ.out), e.cell ((gr_set _ _ _ _).cell (MTBt2.out _ (Ext.refl _)).2.1 HYQ.out), e.cell ((gr_set _ _ _ _).cell (MTBt2.out _ (Ext.refl _)).2.2 HYQ.out)⟩ : V.cell? ⟨y, 0, none⟩ = some (.int .i64 x0) ∧ V.cell? ⟨y, 1, none⟩ = some (.int .i64 x1) ∧ V.cell? ⟨y, 2, none⟩ = some (.int .i64 x2))); obtain ⟨wt2c, hwt2c⟩ : ∃ W, W = wt2b.setCell ⟨q3, 2, none⟩ (.slice At2a nt2a ct2a) := ⟨_, rfl⟩; rw [← hwt2c] at hPc MTCt2; have zrt2 := hPc.bx.2.2.2; have zgt2 := hPc.fz.2.2.2; have hPd := hPc.put3 (.slice At2b nt2b ct2b); have MTDt2 := Lib.hid (fun V (e : Ext (wt2c.setCell ⟨q3, 3, none⟩ (.slice At2b nt2b ct2b)) V) => (⟨e.cell ((gr_set _ _ _ _).cell (MTCt2.out _ (Ext.refl _)).1 HYQ.out), e.cell ((gr_set _ _ _ _).cell (MTCt2.out _ (Ext.refl _)).2.1 HYQ.out), e.cell ((gr_set _ _ _ _).cell (MTCt2.out _ (Ext.refl _)).2.2 HYQ.out)⟩ : V.cell? ⟨y, 0, none⟩ = some (.int .i64 x0) ∧ V.cell? ⟨y, 1, none⟩ = some (.int .i64 x1) ∧ V.cell? ⟨y, 2, none⟩ = some (.int .i64 x2))); obtain ⟨wt2d, hwt2d⟩ : ∃ W, W = wt2c.setCell ⟨q3, 3, none⟩ (.slice At2b nt2b ct2b) := ⟨_, rfl⟩; rw [← hwt2d] at hPd MTDt2; have HPdt2 := Lib.hid hPd; clear hO hg hd hPb hPc hPd)
      refine hK.out _ _ ?hS32085x0 (fun H32085 => ?_)
      case hS32085x0 => exact ⟨fun _ => by (first | exact ⟨HM7.out _ (by solve_by_elim [X0, X1, X2, X3]), HY4.out _ (by solve_by_elim [X0, X1, X2, X3])⟩ | exact ⟨MSAt2.out _ (by solve_by_elim [X0, X1, X2, X3]), MTAt2.out _ (by solve_by_elim [X0, X1, X2, X3])⟩ | exact ⟨MSBt2.out _ (by solve_by_elim [X0, X1, X2, X3]), MTBt2.out _ (by solve_by_elim [X0, X1, X2, X3])⟩), by (first | exact HY4.out _ (by solve_by_elim [X0, X1, X2, X3]) | exact MTAt2.out _ (by solve_by_elim [X0, X1, X2, X3]) | exact MTBt2.out _ (by solve_by_elim [X0, X1, X2, X3]) | exact MTCt2.out _ (by solve_by_elim [X0, X1, X2, X3]) | exact MTDt2.out _ (by solve_by_elim [X0, X1, X2, X3]))⟩
      clear hK K
      clear H32083
      (try simp only [PU])
      refine AnyT.ready (rs := [13]) (by kernel_rfl) (by simp) ?_
      refine AllT.cons (o := ⟨_, _, _, _, _, _⟩) rfl (fun K hK => ?step32086x0) ?more32086x0
      case more32086x0 => exact AllT.nil
      go_simp
      (rw [← hwt2c]; clear hwt2c)
      refine hK.out _ _ ?hS32086x0 (fun H32086 => ?_)
      case hS32086x0 => exact ⟨fun h => (by first | exact absurd h (by decide) | simp at h), by (first | exact HY4.out _ (by solve_by_elim [X0, X1, X2, X3]) | exact MTAt2.out _ (by solve_by_elim [X0, X1, X2, X3]) | exact MTBt2.out _ (by solve_by_elim [X0, X1, X2, X3]) | exact MTCt2.out _ (by solve_by_elim [X0, X1, X2, X3]) | exact MTDt2.out _ (by solve_by_elim [X0, X1, X2, X3]))⟩
      clear hK K
      clear H32085
      refine TB 14 (v := ?v32087) H32086 ?hy32087 ?_
      case hy32087 => (intro w hSw; (try dsimp only at hSw); go_simp <;> first | with_reducible rfl | rw [if_neg (by omega)] | rw [if_pos (by omega)])
      (try simp only [PU])
      refine AnyT.ready (rs := [15]) (by kernel_rfl) (by simp) ?_
      refine AllT.cons (o := ⟨_, _, _, _, _, _⟩) rfl (fun K hK => ?step32088x0) ?more32088x0
      case more32088x0 => exact AllT.nil
      go_simp
      (rw [← hwt2d]; clear hwt2d)
      refine hK.out _ _ ?hS32088x0 (fun H32088 => ?_)
      case hS32088x0 => exact ⟨fun h => (by first | exact absurd h (by decide) | simp at h), by (first | exact HY4.out _ (by solve_by_elim [X0, X1, X2, X3]) | exact MTAt2.out _ (by solve_by_elim [X0, X1, X2, X3]) | exact MTBt2.out _ (by solve_by_elim [X0, X1, X2, X3]) | exact MTCt2.out _ (by solve_by_elim [X0, X1, X2, X3]) | exact MTDt2.out _ (by solve_by_elim [X0, X1, X2, X3]))⟩
      clear hK K
      clear H32086
      refine AnyT.done (by kernel_rfl) ?_ _
      clear H32088
      go_wp2_with fail
      go_roundw
      case rel => exact ⟨k + 1, _, _, _, _, by go_num, by omega, Lib.hid (by rw [← HQC.out, HC.out]; exact HPdt2.out)⟩
      case measure => simp [intOf]; omega
     go_simp
     refine hK.out _ _ ?hS32081x0 (fun H32081 => ?_)
     case hS32081x0 => exact ⟨fun _ => by (first | exact ⟨HM7.out _ (by solve_by_elim [X0, X1, X2, X3]), HY4.out _ (by solve_by_elim [X0, X1, X2, X3])⟩ | exact ⟨MSAt2.out _ (by solve_by_elim [X0, X1, X2, X3]), MTAt2.out _ (by solve_by_elim [X0, X1, X2, X3])⟩ | exact ⟨MSBt2.out _ (by solve_by_elim [X0, X1, X2, X3]), MTBt2.out _ (by solve_by_elim [X0, X1, X2, X3])⟩), by (first | exact HY4.out _ (by solve_by_elim [X0, X1, X2, X3]) | exact MTAt2.out _ (by solve_by_elim [X0, X1, X2, X3]) | exact MTBt2.out _ (by solve_by_elim [X0, X1, X2, X3]) | exact MTCt2.out _ (by solve_by_elim [X0, X1, X2, X3]) | exact MTDt2.out _ (by solve_by_elim [X0, X1, X2, X3]))⟩
     clear hK K
     clear hHeld
     (try simp only [PU])
     refine AnyT.ready (rs := [5, 10]) (by kernel_rfl) (by simp) ?_
     refine AllT.cons (o := ⟨_, _, _, _, _, _⟩) rfl (fun K hK => ?step32089x0) ?more32089x0
     case more32089x0 =>
      refine AllT.cons (o := ⟨_, _, _, _, _, _⟩) rfl (fun K hK => ?step32089x1) ?more32089x1
      case more32089x1 => exact AllT.nil
      go_simp
      refine hK.out _ _ ?hS32089x1 (fun H32089 => ?_)
      case hS32089x1 => exact ⟨fun _ => by (first | exact ⟨HM7.out _ (by solve_by_elim [X0, X1, X2, X3]), HY4.out _ (by solve_by_elim [X0, X1, X2, X3])⟩ | exact ⟨MSAt2.out _ (by solve_by_elim [X0, X1, X2, X3]), MTAt2.out _ (by solve_by_elim [X0, X1, X2, X3])⟩ | exact ⟨MSBt2.out _ (by solve_by_elim [X0, X1, X2, X3]), MTBt2.out _ (by solve_by_elim [X0, X1, X2, X3])⟩), by (first | exact HY4.out _ (by solve_by_elim [X0, X1, X2, X3]) | exact MTAt2.out _ (by solve_by_elim [X0, X1, X2, X3]) | exact MTBt2.out _ (by solve_by_elim [X0, X1, X2, X3]) | exact MTCt2.out _ (by solve_by_elim [X0, X1, X2, X3]) | exact MTDt2.out _ (by solve_by_elim [X0, X1, X2, X3]))⟩
      clear hK K
      clear H32081
      (try simp only [PU])
      refine AnyT.ready (rs := [5]) (by kernel_rfl) (by simp) ?_
      refine AllT.cons (o := ⟨_, _, _, _, _, _⟩) rfl (fun K hK => ?step32090x0) ?more32090x0
      case more32090x0 => exact AllT.nil
      (refine step_pushAt T_ki rfl (.tmp 40) (.tmp 43) rfl rfl (OwnG.ext HP4.out.c4.t (by solve_by_elim [X0, X1, X2, X3])) (Nat.le_trans HP4.out.le (Ext.le (a := w4) (by solve_by_elim [X0, X1, X2, X3]))) x1 trivial ⟨_, 0, none⟩ 1 rfl (int_cell (by go_simp)) hm2 (by decide) ?_; intro va0 wt2a hO hg hd; obtain ⟨At2a, nt2a, ct2a, rfl⟩ := own_fm hO; have hPa := (HP4.out.exts (W' := _) (by solve_by_elim [X0, X1, X2, X3])).pushT hO hg (Nat.le_refl _) hd; have HPat2 := Lib.hid hPa; have MSAt2 := Lib.hid (fun V (e : Ext wt2a V) => (⟨e.cell hPa.bx.2.2.1, e.cell hPa.bx.2.2.2⟩ : V.cell? ⟨q3, 2, none⟩ = some vT ∧ V.cell? ⟨q3, 3, none⟩ = some vE)); have MTAt2 := Lib.hid (fun V (e : Ext wt2a V) => (⟨e.cell (hg.cell (HY4.out _ (by solve_by_elim [X0, X1, X2, X3])).1 HYT.out), e.cell (hg.cell (HY4.out _ (by solve_by_elim [X0, X1, X2, X3])).2.1 HYT.out), e.cell (hg.cell (HY4.out _ (by solve_by_elim [X0, X1, X2, X3])).2.2 HYT.out)⟩ : V.cell? ⟨y, 0, none⟩ = some (.int .i64 x0) ∧ V.cell? ⟨y, 1, none⟩ = some (.int .i64 x1) ∧ V.cell? ⟨y, 2, none⟩ = some (.int .i64 x2))); have zbt2 := hg.cell (show World.cell? _ ⟨w4.heap.size + 1, 0, none⟩ = some (.int .i64 x2) from by go_simp) (fun e => by have := (OwnG.lt HP4.out.c4.t (g := w4.heap.size + 1) e.symm).2; omega); clear hO hg hd hPa)
      refine hK.out _ _ ?hS32090x0 (fun H32090 => ?_)
      case hS32090x0 => exact ⟨fun _ => by (first | exact ⟨HM7.out _ (by solve_by_elim [X0, X1, X2, X3]), HY4.out _ (by solve_by_elim [X0, X1, X2, X3])⟩ | exact ⟨MSAt2.out _ (by solve_by_elim [X0, X1, X2, X3]), MTAt2.out _ (by solve_by_elim [X0, X1, X2, X3])⟩ | exact ⟨MSBt2.out _ (by solve_by_elim [X0, X1, X2, X3]), MTBt2.out _ (by solve_by_elim [X0, X1, X2, X3])⟩), by (first | exact HY4.out _ (by solve_by_elim [X0, X1, X2, X3]) | exact MTAt2.out _ (by solve_by_elim [X0, X1, X2, X3]) | exact MTBt2.out _ (by solve_by_elim [X0, X1, X2, X3]) | exact MTCt2.out _ (by solve_by_elim [X0, X1, X2, X3]) | exact MTDt2.out _ (by solve_by_elim [X0, X1, X2, X3]))⟩
      clear hK K
      clear H32089
      (try simp only [PU])
      refine TB 12 (v := ?v32091) H32090 ?hy32091 ?_
      case hy32091 => (intro w hSw; (try dsimp only at hSw); go_simp <;> first | with_reducible rfl | rw [if_neg (by omega)] | rw [if_pos (by omega)])
      (try simp only [PU])
      refine AnyT.ready (rs := [11]) (by kernel_rfl) (by simp) ?_
      refine AllT.cons (o := ⟨_, _, _, _, _, _⟩) rfl (fun K hK => ?step32092x0) ?more32092x0
      case more32092x0 => exact AllT.nil
      (refine step_pushAt T_ki rfl (.tmp 46) (.tmp 49) rfl rfl (OwnG.ext HPat2.out.c4.e (by solve_by_elim [X0, X1, X2, X3])) (Nat.le_trans HPat2.out.le (Ext.le (a := wt2a) (by solve_by_elim [X0, X1, X2, X3]))) x2 trivial ⟨_, 0, none⟩ 1 rfl (int_cell zbt2) hm3 (by decide) ?_; intro vb0 wt2b hO hg hd; obtain ⟨At2b, nt2b, ct2b, rfl⟩ := own_fm hO; have hPb := (HPat2.out.exts (W' := _) (by solve_by_elim [X0, X1, X2, X3])).pushE hO hg (Nat.le_refl _) hd; have MSBt2 := Lib.hid (fun V (e : Ext wt2b V) => (⟨e.cell hPb.bx.2.2.1, e.cell hPb.bx.2.2.2⟩ : V.cell? ⟨q3, 2, none⟩ = some vT ∧ V.cell? ⟨q3, 3, none⟩ = some vE)); have MTBt2 := Lib.hid (fun V (e : Ext wt2b V) => (⟨e.cell (hg.cell (MTAt2.out _ (by solve_by_elim [X0, X1, X2, X3])).1 HYE.out), e.cell (hg.cell (MTAt2.out _ (by solve_by_elim [X0, X1, X2, X3])).2.1 HYE.out), e.cell (hg.cell (MTAt2.out _ (by solve_by_elim [X0, X1, X2, X3])).2.2 HYE.out)⟩ : V.cell? ⟨y, 0, none⟩ = some (.int .i64 x0) ∧ V.cell? ⟨y, 1, none⟩ = some (.int .i64 x1) ∧ V.cell? ⟨y, 2, none⟩ = some (.int .i64 x2))); have zqt2 := hPb.bx.2.2.1; have zft2 := hPb.fz.2.2.1; have hPc := hPb.put2 (.slice At2a nt2a ct2a); have MTCt2 := Lib.hid (fun V (e : Ext (wt2b.setCell ⟨q3, 2, none⟩ (.slice At2a nt2a ct2a)) V) => (⟨e.cell ((gr_set _ _ _ _).cell (MTBt2.out _ (Ext.refl _)).1 HYQ.out), e.cell ((gr_set _ _ _ _).cell (MTBt2.out _ (Ext.refl _)).2.1 HYQ.out), e.cell ((gr_set _ _ _ _).cell (MTBt2.out _ (Ext.refl _)).2.2 HYQ.out)⟩ : V.cell? ⟨y, 0, none⟩ = some (.int .i64 x0) ∧ V.cell? ⟨y, 1, none⟩ = some (.int .i64 x1) ∧ V.cell? ⟨y, 2, none⟩ = some (.int .i64 x2))); obtain ⟨wt2c, hwt2c⟩ : ∃ W, W = wt2b.setCell ⟨q3, 2, none⟩ (.slice At2a nt2a ct2a) := ⟨_, rfl⟩; rw [← hwt2c] at hPc MTCt2; have zrt2 := hPc.bx.2.2.2; have zgt2 := hPc.fz.2.2.2; have hPd := hPc.put3 (.slice At2b nt2b ct2b); have MTDt2 := Lib.hid (fun V (e : Ext (wt2c.setCell ⟨q3, 3, none⟩ (.slice At2b nt2b ct2b)) V) => (⟨e.cell ((gr_set _ _ _ _).cell (MTCt2.out _ (Ext.refl _)).1 HYQ.out), e.cell ((gr_set _ _ _ _).cell (MTCt2.out _ (Ext.refl _)).2.1 HYQ.out), e.cell ((gr_set _ _ _ _).cell (MTCt2.out _ (Ext.refl _)).2.2 HYQ.out)⟩ : V.cell? ⟨y, 0, none⟩ = some (.int .i64 x0) ∧ V.cell? ⟨y, 1, none⟩ = some (.int .i64 x1) ∧ V.cell? ⟨y, 2, none⟩ = some (.int .i64 x2))); obtain ⟨wt2d, hwt2d⟩ : ∃ W, W = wt2c.setCell ⟨q3, 3, none⟩ (.slice At2b nt2b ct2b) := ⟨_, rfl⟩; rw [← hwt2d] at hPd MTDt2; have HPdt2 := Lib.hid hPd; clear hO hg hd hPb hPc hPd)
      refine hK.out _ _ ?hS32092x0 (fun H32092 => ?_)
      case hS32092x0 => exact ⟨fun _ => by (first | exact ⟨HM7.out _ (by solve_by_elim [X0, X1, X2, X3]), HY4.out _ (by solve_by_elim [X0, X1, X2, X3])⟩ | exact ⟨MSAt2.out _ (by solve_by_elim [X0, X1, X2, X3]), MTAt2.out _ (by solve_by_elim [X0, X1, X2, X3])⟩ | exact ⟨MSBt2.out _ (by solve_by_elim [X0, X1, X2, X3]), MTBt2.out _ (by solve_by_elim [X0, X1, X2, X3])⟩), by (first | exact HY4.out _ (by solve_by_elim [X0, X1, X2, X3]) | exact MTAt2.out _ (by solve_by_elim [X0, X1, X2, X3]) | exact MTBt2.out _ (by solve_by_elim [X0, X1, X2, X3]) | exact MTCt2.out _ (by solve_by_elim [X0, X1, X2, X3]) | exact MTDt2.out _ (by solve_by_elim [X0, X1, X2, X3]))⟩
      clear hK K
      clear H32090
      (try simp only [PU])
      refine AnyT.ready (rs := [13]) (by kernel_rfl) (by simp) ?_
      refine AllT.cons (o := ⟨_, _, _, _, _, _⟩) rfl (fun K hK => ?step32093x0) ?more32093x0
      case more32093x0 => exact AllT.nil
      go_simp
      (rw [← hwt2c]; clear hwt2c)
      refine hK.out _ _ ?hS32093x0 (fun H32093 => ?_)
      case hS32093x0 => exact ⟨fun h => (by first | exact absurd h (by decide) | simp at h), by (first | exact HY4.out _ (by solve_by_elim [X0, X1, X2, X3]) | exact MTAt2.out _ (by solve_by_elim [X0, X1, X2, X3]) | exact MTBt2.out _ (by solve_by_elim [X0, X1, X2, X3]) | exact MTCt2.out _ (by solve_by_elim [X0, X1, X2, X3]) | exact MTDt2.out _ (by solve_by_elim [X0, X1, X2, X3]))⟩
      clear hK K
      clear H32092
      refine TB 14 (v := ?v32094) H32093 ?hy32094 ?_
      case hy32094 => (intro w hSw; (try dsimp only at hSw); go_simp <;> first | with_reducible rfl | rw [if_neg (by omega)] | rw [if_pos (by omega)])
      (try simp only [PU])
      refine AnyT.ready (rs := [15]) (by kernel_rfl) (by simp) ?_
      refine AllT.cons (o := ⟨_, _, _, _, _, _⟩) rfl (fun K hK => ?step32095x0) ?more32095x0
      case more32095x0 => exact AllT.nil
      go_simp
      (rw [← hwt2d]; clear hwt2d)
      refine hK.out _ _ ?hS32095x0 (fun H32095 => ?_)
      case hS32095x0 => exact ⟨fun h => (by first | exact absurd h (by decide) | simp at h), by (first | exact HY4.out _ (by solve_by_elim [X0, X1, X2, X3]) | exact MTAt2.out _ (by solve_by_elim [X0, X1, X2, X3]) | exact MTBt2.out _ (by solve_by_elim [X0, X1, X2, X3]) | exact MTCt2.out _ (by solve_by_elim [X0, X1, X2, X3]) | exact MTDt2.out _ (by solve_by_elim [X0, X1, X2, X3]))⟩
      clear hK K
      clear H32093
      refine AnyT.done (by kernel_rfl) ?_ _
      clear H32095
      go_wp2_with fail
      go_roundw
      case rel => exact ⟨k + 1, _, _, _, _, by go_num, by omega, Lib.hid (by rw [← HQC.out, HC.out]; exact HPdt2.out)⟩
      case measure => simp [intOf]; omega
     (refine step_pushAt T_ki rfl (.tmp 40) (.tmp 43) rfl rfl (OwnG.ext HP4.out.c4.t (by solve_by_elim [X0, X1, X2, X3])) (Nat.le_trans HP4.out.le (Ext.le (a := w4) (by solve_by_elim [X0, X1, X2, X3]))) x1 trivial ⟨_, 0, none⟩ 1 rfl (int_cell (by go_simp)) hm2 (by decide) ?_; intro va0 wt2a hO hg hd; obtain ⟨At2a, nt2a, ct2a, rfl⟩ := own_fm hO; have hPa := (HP4.out.exts (W' := _) (by solve_by_elim [X0, X1, X2, X3])).pushT hO hg (Nat.le_refl _) hd; have HPat2 := Lib.hid hPa; have MSAt2 := Lib.hid (fun V (e : Ext wt2a V) => (⟨e.cell hPa.bx.2.2.1, e.cell hPa.bx.2.2.2⟩ : V.cell? ⟨q3, 2, none⟩ = some vT ∧ V.cell? ⟨q3, 3, none⟩ = some vE)); have MTAt2 := Lib.hid (fun V (e : Ext wt2a V) => (⟨e.cell (hg.cell (HY4.out _ (by solve_by_elim [X0, X1, X2, X3])).1 HYT.out), e.cell (hg.cell (HY4.out _ (by solve_by_elim [X0, X1, X2, X3])).2.1 HYT.out), e.cell (hg.cell (HY4.out _ (by solve_by_elim [X0, X1, X2, X3])).2.2 HYT.out)⟩ : V.cell? ⟨y, 0, none⟩ = some (.int .i64 x0) ∧ V.cell? ⟨y, 1, none⟩ = some (.int .i64 x1) ∧ V.cell? ⟨y, 2, none⟩ = some (.int .i64 x2))); clear hO hg hd hPa)
     refine hK.out _ _ ?hS32089x0 (fun H32089 => ?_)
     case hS32089x0 => exact ⟨fun _ => by (first | exact ⟨HM7.out _ (by solve_by_elim [X0, X1, X2, X3]), HY4.out _ (by solve_by_elim [X0, X1, X2, X3])⟩ | exact ⟨MSAt2.out _ (by solve_by_elim [X0, X1, X2, X3]), MTAt2.out _ (by solve_by_elim [X0, X1, X2, X3])⟩ | exact ⟨MSBt2.out _ (by solve_by_elim [X0, X1, X2, X3]), MTBt2.out _ (by solve_by_elim [X0, X1, X2, X3])⟩), by (first | exact HY4.out _ (by solve_by_elim [X0, X1, X2, X3]) | exact MTAt2.out _ (by solve_by_elim [X0, X1, X2, X3]) | exact MTBt2.out _ (by solve_by_elim [X0, X1, X2, X3]) | exact MTCt2.out _ (by solve_by_elim [X0, X1, X2, X3]) | exact MTDt2.out _ (by solve_by_elim [X0, X1, X2, X3]))⟩
     clear hK K
     clear H32081
     (try simp only [PU])
     refine TB 12 (v := ?v32096) H32089 ?hy32096 ?_
     case hy32096 => (intro w hSw; (try dsimp only at hSw); go_simp <;> first | with_reducible rfl | rw [if_neg (by omega)] | rw [if_pos (by omega)])
     (try simp only [PU])
     refine AnyT.ready (rs := [10]) (by kernel_rfl) (by simp) ?_
     refine AllT.cons (o := ⟨_, _, _, _, _, _⟩) rfl (fun K hK => ?step32097x0) ?more32097x0
     case more32097x0 => exact AllT.nil
     go_simp
     refine hK.out _ _ ?hS32097x0 (fun H32097 => ?_)
     case hS32097x0 => exact ⟨fun _ => by (first | exact ⟨HM7.out _ (by solve_by_elim [X0, X1, X2, X3]), HY4.out _ (by solve_by_elim [X0, X1, X2, X3])⟩ | exact ⟨MSAt2.out _ (by solve_by_elim [X0, X1, X2, X3]), MTAt2.out _ (by solve_by_elim [X0, X1, X2, X3])⟩ | exact ⟨MSBt2.out _ (by solve_by_elim [X0, X1, X2, X3]), MTBt2.out _ (by solve_by_elim [X0, X1, X2, X3])⟩), by (first | exact HY4.out _ (by solve_by_elim [X0, X1, X2, X3]) | exact MTAt2.out _ (by solve_by_elim [X0, X1, X2, X3]) | exact MTBt2.out _ (by solve_by_elim [X0, X1, X2, X3]) | exact MTCt2.out _ (by solve_by_elim [X0, X1, X2, X3]) | exact MTDt2.out _ (by solve_by_elim [X0, X1, X2, X3]))⟩
     clear hK K
     clear H32089
     (try simp only [PU])
     refine AnyT.ready (rs := [11]) (by kernel_rfl) (by simp) ?_
     refine AllT.cons (o := ⟨_, _, _, _, _, _⟩) rfl (fun K hK => ?step32098x0) ?more32098x0
     case more32098x0 => exact AllT.nil
     (refine step_pushAt T_ki rfl (.tmp 46) (.tmp 49) rfl rfl (OwnG.ext HPat2.out.c4.e (by solve_by_elim [X0, X1, X2, X3])) (Nat.le_trans HPat2.out.le (Ext.le (a := wt2a) (by solve_by_elim [X0, X1, X2, X3]))) x2 trivial ⟨_, 0, none⟩ 1 rfl (int_cell (by go_simp)) hm3 (by decide) ?_; intro vb0 wt2b hO hg hd; obtain ⟨At2b, nt2b, ct2b, rfl⟩ := own_fm hO; have hPb := (HPat2.out.exts (W' := _) (by solve_by_elim [X0, X1, X2, X3])).pushE hO hg (Nat.le_refl _) hd; have MSBt2 := Lib.hid (fun V (e : Ext wt2b V) => (⟨e.cell hPb.bx.2.2.1, e.cell hPb.bx.2.2.2⟩ : V.cell? ⟨q3, 2, none⟩ = some vT ∧ V.cell? ⟨q3, 3, none⟩ = some vE)); have MTBt2 := Lib.hid (fun V (e : Ext wt2b V) => (⟨e.cell (hg.cell (MTAt2.out _ (by solve_by_elim [X0, X1, X2, X3])).1 HYE.out), e.cell (hg.cell (MTAt2.out _ (by solve_by_elim [X0, X1, X2, X3])).2.1 HYE.out), e.cell (hg.cell (MTAt2.out _ (by solve_by_elim [X0, X1, X2, X3])).2.2 HYE.out)⟩ : V.cell? ⟨y, 0, none⟩ = some (.int .i64 x0) ∧ V.cell? ⟨y, 1, none⟩ = some (.int .i64 x1) ∧ V.cell? ⟨y, 2, none⟩ = some (.int .i64 x2))); have zqt2 := hPb.bx.2.2.1; have zft2 := hPb.fz.2.2.1; have hPc := hPb.put2 (.slice At2a nt2a ct2a); have MTCt2 := Lib.hid (fun V (e : Ext (wt2b.setCell ⟨q3, 2, none⟩ (.slice At2a nt2a ct2a)) V) => (⟨e.cell ((gr_set _ _ _ _).cell (MTBt2.out _ (Ext.refl _)).1 HYQ.out), e.cell ((gr_set _ _ _ _).cell (MTBt2.out _ (Ext.refl _)).2.1 HYQ.out), e.cell ((gr_set _ _ _ _).cell (MTBt2.out _ (Ext.refl _)).2.2 HYQ.out)⟩ : V.cell? ⟨y, 0, none⟩ = some (.int .i64 x0) ∧ V.cell? ⟨y, 1, none⟩ = some (.int .i64 x1) ∧ V.cell? ⟨y, 2, none⟩ = some (.int .i64 x2))); obtain ⟨wt2c, hwt2c⟩ : ∃ W, W = wt2b.setCell ⟨q3, 2, none⟩ (.slice At2a nt2a ct2a) := ⟨_, rfl⟩; rw [← hwt2c] at hPc MTCt2; have zrt2 := hPc.bx.2.2.2; have zgt2 := hPc.fz.2.2.2; have hPd := hPc.put3 (.slice At2b nt2b ct2b); have MTDt2 := Lib.hid (fun V (e : Ext (wt2c.setCell ⟨q3, 3, none⟩ (.slice At2b nt2b ct2b)) V) => (⟨e.cell ((gr_set _ _ _ _).cell (MTCt2.out _ (Ext.refl _)).1 HYQ.out), e.cell ((gr_set _ _ _ _).cell (MTCt2.out _ (Ext.refl _)).2.1 HYQ.out), e.cell ((gr_set _ _ _ _).cell (MTCt2.out _ (Ext.refl _)).2.2 HYQ.out)⟩ : V.cell? ⟨y, 0, none⟩ = some (.int .i64 x0) ∧ V.cell? ⟨y, 1, none⟩ = some (.int .i64 x1) ∧ V.cell? ⟨y, 2, none⟩ = some (.int .i64 x2))); obtain ⟨wt2d, hwt2d⟩ : ∃ W, W = wt2c.setCell ⟨q3, 3, none⟩ (.slice At2b nt2b ct2b) := ⟨_, rfl⟩; rw [← hwt2d] at hPd MTDt2; have HPdt2 := Lib.hid hPd; clear hO hg hd hPb hPc hPd)
     refine hK.out _ _ ?hS32098x0 (fun H32098 => ?_)
     case hS32098x0 => exact ⟨fun _ => by (first | exact ⟨HM7.out _ (by solve_by_elim [X0, X1, X2, X3]), HY4.out _ (by solve_by_elim [X0, X1, X2, X3])⟩ | exact ⟨MSAt2.out _ (by solve_by_elim [X0, X1, X2, X3]), MTAt2.out _ (by solve_by_elim [X0, X1, X2, X3])⟩ | exact ⟨MSBt2.out _ (by solve_by_elim [X0, X1, X2, X3]), MTBt2.out _ (by solve_by_elim [X0, X1, X2, X3])⟩), by (first | exact HY4.out _ (by solve_by_elim [X0, X1, X2, X3]) | exact MTAt2.out _ (by solve_by_elim [X0, X1, X2, X3]) | exact MTBt2.out _ (by solve_by_elim [X0, X1, X2, X3]) | exact MTCt2.out _ (by solve_by_elim [X0, X1, X2, X3]) | exact MTDt2.out _ (by solve_by_elim [X0, X1, X2, X3]))⟩
     clear hK K
     clear H32097
     (try simp only [PU])
     refine AnyT.ready (rs := [13]) (by kernel_rfl) (by simp) ?_
     refine AllT.cons (o := ⟨_, _, _, _, _, _⟩) rfl (fun K hK => ?step32099x0) ?more32099x0
     case more32099x0 => exact AllT.nil
     go_simp
     (rw [← hwt2c]; clear hwt2c)
     refine hK.out _ _ ?hS32099x0 (fun H32099 => ?_)
     case hS32099x0 => exact ⟨fun h => (by first | exact absurd h (by decide) | simp at h), by (first | exact HY4.out _ (by solve_by_elim [X0, X1, X2, X3]) | exact MTAt2.out _ (by solve_by_elim [X0, X1, X2, X3]) | exact MTBt2.out _ (by solve_by_elim [X0, X1, X2, X3]) | exact MTCt2.out _ (by solve_by_elim [X0, X1, X2, X3]) | exact MTDt2.out _ (by solve_by_elim [X0, X1, X2, X3]))⟩
     clear hK K
     clear H32098
     refine TB 14 (v := ?v32100) H32099 ?hy32100 ?_
     case hy32100 => (intro w hSw; (try dsimp only at hSw); go_simp <;> first | with_reducible rfl | rw [if_neg (by omega)] | rw [if_pos (by omega)])
     (try simp only [PU])
     refine AnyT.ready (rs := [15]) (by kernel_rfl) (by simp) ?_
     refine AllT.cons (o := ⟨_, _, _, _, _, _⟩) rfl (fun K hK => ?step32101x0) ?more32101x0
     case more32101x0 => exact AllT.nil
     go_simp
     (rw [← hwt2d]; clear hwt2d)
     refine hK.out _ _ ?hS32101x0 (fun H32101 => ?_)
     case hS32101x0 => exact ⟨fun h => (by first | exact absurd h (by decide) | simp at h), by (first | exact HY4.out _ (by solve_by_elim [X0, X1, X2, X3]) | exact MTAt2.out _ (by solve_by_elim [X0, X1, X2, X3]) | exact MTBt2.out _ (by solve_by_elim [X0, X1, X2, X3]) | exact MTCt2.out _ (by solve_by_elim [X0, X1, X2, X3]) | exact MTDt2.out _ (by solve_by_elim [X0, X1, X2, X3]))⟩
     clear hK K
     clear H32099
     refine AnyT.done (by kernel_rfl) ?_ _
     clear H32101
     go_wp2_with fail
     go_roundw
     case rel => exact ⟨k + 1, _, _, _, _, by go_num, by omega, Lib.hid (by rw [← HQC.out, HC.out]; exact HPdt2.out)⟩
     case measure => simp [intOf]; omega
  ·have hke : k = l.length := by omega
   obtain ⟨hl0, hl1, hl2, hl3⟩ := packK_len l k
   rw [hke] at HP hl0 hl1 hl2 hl3
   clear HV hke hk
   by_cases h0 : l = []
   ·have hlen : decide (0 < l.length) = false := by rw [h0]; rfl
    have hlenI : decide (0 < (l.length : Int)) = false := by rw [h0]; rfl
    have HPK := Lib.hid (HR.out.trans (by subst h0; rfl : packC l = packK l l.length))
    clear h0 HR
    generalize packK l l.length = C at *
    obtain ⟨r0, r1, r2, r3⟩ := HP.out.rx
    obtain ⟨f0, f1, f2, f3⟩ := HP.out.rz
    obtain ⟨z0, z1, z2, z3⟩ := HP.out.bx
    obtain ⟨A0, B0, C0, D0, k0, k1, k2, k3, e0, e1, e2, e3, -⟩ := HP.out.c4.col ⟨(by show C.nodes.length ≤ 8000000; omega), (by show C.first.length ≤ 8000001; first | omega | (simp; omega)), (by show C.tos.length ≤ 8000000; omega), (by show C.edges.length ≤ 8000000; omega)⟩
    try cases e0
    try cases e2
    try cases e3
    cases e1
    have hfin := HP.out.fin HQX.out.1 HQX.out.2 (.slice A0 C.nodes.length k0) (.slice B0 C.first.length k1) (.slice C0 C.tos.length k2) (.slice D0 C.edges.length k3)
    have hd := set4 HP.out.rx (.slice A0 C.nodes.length k0) (.slice B0 C.first.length k1) (.slice C0 C.tos.length k2) (.slice D0 C.edges.length k3)
    obtain ⟨w8, hw8⟩ : ∃ W, W = ((((wr.setCell ⟨q2, 0, none⟩ (.slice A0 C.nodes.length k0)).setCell ⟨q2, 1, none⟩ (.slice B0 C.first.length k1)).setCell ⟨q2, 2, none⟩ (.slice C0 C.tos.length k2)).setCell ⟨q2, 3, none⟩ (.slice D0 C.edges.length k3)) := ⟨_, rfl⟩
    rw [← hw8] at hfin hd
    obtain ⟨d0, d1, d2, d3⟩ := hd
    have HF := Lib.hid hfin
    have HBB := Lib.hid (Nat.le_trans HQX.out.1.le HP.out.hb)
    clear hfin
    go_wp2_with fail
    (try simp only [Exit.inBlock, Exit.then])
    rw [← hw8]
    clear hw8 r0 r1 r2 r3 f0 f1 f2 f3 z0 z1 z2 z3
    refine bodyPost_ret (v := .agg #[.slice A0 C.nodes.length k0, .slice B0 C.first.length k1, .slice C0 C.tos.length k2, .slice D0 C.edges.length k3]) (by simp [results, Tryz.results23, go_sem, *]) rfl ?_
    rw [HPK.out]
    obtain ⟨A1, B1, C1, D1, j0, j1, j2, j3, e0, e1, e2, e3, hcol⟩ := HF.out.2.col ⟨(by show C.nodes.length ≤ 8000000; omega), (by show C.first.length ≤ 8000001; first | omega | (simp; omega)), (by show C.tos.length ≤ 8000000; omega), (by show C.edges.length ≤ 8000000; omega)⟩
    cases e0
    cases e2
    cases e3
    cases e1
    first | exact ⟨A0, B0, C0, D0, k0, k1, k2, k3, rfl, ⟨SliceR.mono hcol.n (fun _ _ _ _ hx => ⟨Nat.le_trans HBB.out hx.1, hx.2⟩), SliceR.mono hcol.f (fun _ _ _ _ hx => ⟨Nat.le_trans HBB.out hx.1, hx.2⟩), SliceR.mono hcol.t (fun _ _ _ _ hx => ⟨Nat.le_trans HBB.out hx.1, hx.2⟩), SliceR.mono hcol.e (fun _ _ _ _ hx => ⟨Nat.le_trans HBB.out hx.1, hx.2⟩)⟩, HF.out.1⟩ | exact ⟨A0, B0, C0, D0, ⟨k0, k1, k2, k3, rfl⟩, ⟨SliceR.mono hcol.n (fun _ _ _ _ hx => ⟨Nat.le_trans HBB.out hx.1, hx.2⟩), SliceR.mono hcol.f (fun _ _ _ _ hx => ⟨Nat.le_trans HBB.out hx.1, hx.2⟩), SliceR.mono hcol.t (fun _ _ _ _ hx => ⟨Nat.le_trans HBB.out hx.1, hx.2⟩), SliceR.mono hcol.e (fun _ _ _ _ hx => ⟨Nat.le_trans HBB.out hx.1, hx.2⟩)⟩, HF.out.1⟩
   ·have hlen : decide (0 < l.length) = true := decide_eq_true (List.length_pos_iff.2 h0)
    have hlenI : decide (0 < (l.length : Int)) = true := decide_eq_true (by have := List.length_pos_iff.2 h0; omega)
    have HPK := Lib.hid (HR.out.trans (by unfold packC; rw [if_neg h0] : packC l = { packK l l.length with first := (packK l l.length).first ++ [(l.length : Int)] }))
    clear h0 HR
    generalize packK l l.length = C at *
    have hm1 : C.first.length + 1 ≤ 8388608 := by omega
    obtain ⟨z0, z1, z2, z3⟩ := HP.out.bx
    obtain ⟨r0, r1, r2, r3⟩ := HP.out.rx
    go_upto_region 11 with (at_builtin; go_loud (refine own_pushG (v := vF) (hs := C.first) T_ki rfl (.tmp 58) (.tmp 61) rfl wr rfl HP.out.c4.f HP.out.le (l.length : Int) trivial rfl _ rfl rfl hm1 (by decide) ?_); intro v6 w6 hO6 hg6 hd6; obtain ⟨A6, n6, c6, rfl⟩ := own_fm hO6; have hP6 := HP.out.pushF hO6 hg6 (Nat.le_succ _) hd6; have zq := hP6.bx.2.1; have zf := hP6.fz.2.1; have hP7 := hP6.put1 (.slice A6 n6 c6); obtain ⟨w7, hw7⟩ : ∃ W, W = w6.setCell ⟨q3, 1, none⟩ (.slice A6 n6 c6) := ⟨_, rfl⟩; rw [← hw7] at hP7; have HP7 := Lib.hid hP7; clear hP6 hP7 hO6 hg6 hd6)
    rw [← hw7]
    clear hw7 HP z0 z1 z2 z3 r0 r1 r2 r3 zq zf
    obtain ⟨r0, r1, r2, r3⟩ := HP7.out.rx
    obtain ⟨f0, f1, f2, f3⟩ := HP7.out.rz
    obtain ⟨z0, z1, z2, z3⟩ := HP7.out.bx
    obtain ⟨A0, B0, C0, D0, k0, k1, k2, k3, e0, e1, e2, e3, -⟩ := HP7.out.c4.col ⟨(by show C.nodes.length ≤ 8000000; omega), (by show (C.first ++ [(l.length : Int)]).length ≤ 8000001; first | omega | (simp; omega)), (by show C.tos.length ≤ 8000000; omega), (by show C.edges.length ≤ 8000000; omega)⟩
    try cases e0
    try cases e2
    try cases e3
    have e9 : n6 = C.first.length + 1 := by
     injection e1 with _ h _
     rw [h]
     show (C.first ++ [(l.length : Int)]).length = _
     simp
    clear e1
    subst e9
    have hfin := HP7.out.fin HQX.out.1 HQX.out.2 (.slice A0 C.nodes.length k0) (.slice A6 (C.first.length + 1) c6) (.slice C0 C.tos.length k2) (.slice D0 C.edges.length k3)
    have hd := set4 HP7.out.rx (.slice A0 C.nodes.length k0) (.slice A6 (C.first.length + 1) c6) (.slice C0 C.tos.length k2) (.slice D0 C.edges.length k3)
    obtain ⟨w8, hw8⟩ : ∃ W, W = ((((w7.setCell ⟨q2, 0, none⟩ (.slice A0 C.nodes.length k0)).setCell ⟨q2, 1, none⟩ (.slice A6 (C.first.length + 1) c6)).setCell ⟨q2, 2, none⟩ (.slice C0 C.tos.length k2)).setCell ⟨q2, 3, none⟩ (.slice D0 C.edges.length k3)) := ⟨_, rfl⟩
    rw [← hw8] at hfin hd
    obtain ⟨d0, d1, d2, d3⟩ := hd
    have HF := Lib.hid hfin
    have HBB := Lib.hid (Nat.le_trans HQX.out.1.le HP7.out.hb)
    clear hfin
    go_wp2_with fail
    (try simp only [Exit.inBlock, Exit.then])
    rw [← hw8]
    clear hw8 r0 r1 r2 r3 f0 f1 f2 f3 z0 z1 z2 z3
    refine bodyPost_ret (v := .agg #[.slice A0 C.nodes.length k0, .slice A6 (C.first.length + 1) c6, .slice C0 C.tos.length k2, .slice D0 C.edges.length k3]) (by simp [results, Tryz.results23, go_sem, *]) rfl ?_
    rw [HPK.out]
    obtain ⟨A1, B1, C1, D1, j0, j1, j2, j3, e0, e1, e2, e3, hcol⟩ := HF.out.2.col ⟨(by show C.nodes.length ≤ 8000000; omega), (by show (C.first ++ [(l.length : Int)]).length ≤ 8000001; first | omega | (simp; omega)), (by show C.tos.length ≤ 8000000; omega), (by show C.edges.length ≤ 8000000; omega)⟩
    cases e0
    cases e2
    cases e3
    injection e1 with h1 h2 h3
    subst h1 h3
    first | exact ⟨A0, A6, C0, D0, k0, c6, k2, k3, (by simp [agC]), ⟨SliceR.mono hcol.n (fun _ _ _ _ hx => ⟨Nat.le_trans HBB.out hx.1, hx.2⟩), SliceR.mono hcol.f (fun _ _ _ _ hx => ⟨Nat.le_trans HBB.out hx.1, hx.2⟩), SliceR.mono hcol.t (fun _ _ _ _ hx => ⟨Nat.le_trans HBB.out hx.1, hx.2⟩), SliceR.mono hcol.e (fun _ _ _ _ hx => ⟨Nat.le_trans HBB.out hx.1, hx.2⟩)⟩, HF.out.1⟩ | exact ⟨A0, A6, C0, D0, ⟨k0, c6, k2, k3, (by simp [agC])⟩, ⟨SliceR.mono hcol.n (fun _ _ _ _ hx => ⟨Nat.le_trans HBB.out hx.1, hx.2⟩), SliceR.mono hcol.f (fun _ _ _ _ hx => ⟨Nat.le_trans HBB.out hx.1, hx.2⟩), SliceR.mono hcol.t (fun _ _ _ _ hx => ⟨Nat.le_trans HBB.out hx.1, hx.2⟩), SliceR.mono hcol.e (fun _ _ _ _ hx => ⟨Nat.le_trans HBB.out hx.1, hx.2⟩)⟩, HF.out.1⟩
end Go.Proofs.YtnheioehadldmaaGreat

/- THE WALK over the reference's Sorted. -/
namespace Go.Proofs.YtnheioehadldmaaGreat
open Go.RowKit
theorem OA.form {W : World} {base : Nat} {v : Value} {l : List Sh} (h : OA W base v l) (h0 : l ≠ []) : ∃ g c, v = .slice (some ⟨g, 0, none⟩) l.length c ∧ base ≤ g := by
 obtain ⟨A, c, rfl⟩ := OwnG.form h
 obtain ⟨g, rfl, hb, -⟩ := OwnG.cellAt h (i := 0) (List.length_pos_iff.2 h0)
 exact ⟨g, c, rfl, hb⟩
theorem OA.cells {W : World} {base g n c : Nat} {l : List Sh} (h : OA W base (.slice (some ⟨g, 0, none⟩) n c) l) {i : Nat} (hi : i < l.length) : (W.cell? ⟨g, i * 3, none⟩ = some (.int .i64 l[i]!.id) ∧ W.cell? ⟨g, i * 3 + 1, none⟩ = some (.int .i64 l[i]!.n) ∧ W.cell? ⟨g, i * 3 + 2, none⟩ = some (.int .i64 l[i]!.d)) ∧ W.frozen? ⟨g, i * 3, none⟩ = false ∧ W.frozen? ⟨g, i * 3 + 1, none⟩ = false ∧ W.frozen? ⟨g, i * 3 + 2, none⟩ = false := by
 obtain ⟨g', hg, -, -, -, -, hc⟩ := OwnG.cellAt h hi
 injection hg with hg
 injection hg with hg
 subst hg
 rw [getElem!_pos l i hi]
 exact ⟨⟨(hc 0 (by decide)).1, (hc 1 (by decide)).1, (hc 2 (by decide)).1⟩, (hc 0 (by decide)).2, (hc 1 (by decide)).2, (hc 2 (by decide)).2⟩
theorem OA.put {W : World} {base g n c : Nat} {l : List Sh} (h : OA W base (.slice (some ⟨g, 0, none⟩) n c) l) {i : Nat} (_hi : i < l.length) (y : Sh) : OA (((W.setCell ⟨g, i * 3, none⟩ (.int .i64 y.id)).setCell ⟨g, i * 3 + 1, none⟩ (.int .i64 y.n)).setCell ⟨g, i * 3 + 2, none⟩ (.int .i64 y.d)) base (.slice (some ⟨g, 0, none⟩) n c) (l.set i y) ∧ W.grownBy (((W.setCell ⟨g, i * 3, none⟩ (.int .i64 y.id)).setCell ⟨g, i * 3 + 1, none⟩ (.int .i64 y.n)).setCell ⟨g, i * 3 + 2, none⟩ (.int .i64 y.d)) (some g) := by
 obtain ⟨A, c', hv⟩ := OwnG.form h
 injection hv with h1 h2 h3
 subst h2
 obtain ⟨k0, g0⟩ := World.ownsRow.stored h.own (i * 3) (.int .i64 y.id)
 obtain ⟨k1, g1⟩ := World.ownsRow.stored k0 (i * 3 + 1) (.int .i64 y.n)
 obtain ⟨k2, g2⟩ := World.ownsRow.stored k1 (i * 3 + 2) (.int .i64 y.d)
 refine ⟨⟨?_, fun _ _ => trivial⟩, grown_two g0 (grown_two g1 g2)⟩
 have e : l.flatMap KA.enc = l.flatMap Sh.cells := rfl
 rw [e, flat_set3] at k2
 rw [List.length_set]
 exact k2
end Go.Proofs.YtnheioehadldmaaGreat

/- THE WALKS over slices.AppendSeq, slices.Collect over slices.Values of entries; slices.SortFunc at entries; slices.SortedFunc. -/
namespace Go.Proofs.YtnheioehadldmaaGreat
open Go.RowKit Go.Shelf
section
attribute [local go_sem] Oper.semAt_some
theorem cell_three (w : World) (a b c : Value) (t : TypeId) : ∀ j u, [a, b, c][j]? = some u → (w.alloc (.cells #[a, b, c] t)).cell? ((⟨w.heap.size, 0, none⟩ : Addr).add j) = some u := by
 intro j u hu
 rw [Addr.add_mid, Nat.zero_add]
 match j with
 | 0 => cases hu; go_simp
 | 1 => cases hu; go_simp
 | 2 => cases hu; go_simp
 | j + 3 => cases hu
set_option maxRecDepth 100000 in
set_option maxHeartbeats 2000000 in
theorem appendSeq_in (F : Fence) (n : Nat) (h65 : F.fn 86) (h54 : F.fn 70) (hro : F.round = none) (hn : 3 ≤ n) (Bs : Nat) (A : Option Addr) (cap : Nat) (zs : List Sh) (hz : zs.length ≤ 8000000) (w : World) (hBs : Bs < w.heap.size)
  (hc : w.cell? ⟨Bs, 0, none⟩ = some (.slice A zs.length cap)) (hI : Shares w (fun b => b < w.heap.size) A zs) :
  CallsIn F n Tryz.prog 86 #[.slice none 0 0, .func (.func 70) #[] #[.pointer (some ⟨Bs, 0, none⟩)]] w fun e W' => ∃ v, e = .returned v ∧ OA W' w.heap.size v zs ∧ Ext w W' := by
 have h1 : 1 ≤ n := by omega
 obtain ⟨z, hz0, hzc⟩ := (T_ka).hi
 obtain ⟨i0, hi, hi0, hi1, hi2⟩ := info_parts hz0
 have ht := (T_ka).ht
 have HZ := Lib.hid (⟨hi, hi0, hi1, hi2, hzc, ht⟩ : Tryz.prog.info? 41 = some i0 ∧ i0.zero = some z ∧ i0.size = KA.size ∧ i0.bytes = 24 ∧ z.cells.size = KA.size ∧ Tryz.prog.underlying 42 = some (.slice 41))
 clear hi hi0 hi1 hi2 hzc ht hz0
 refine callsIn_of_wp_marks Tryz.func86 rfl h65 ?_ hro
 simp only [Tryz.ntmps86, List.size_toArray, List.length_cons, List.length_nil, Nat.reduceAdd, Nat.reduceSub, Array.replicate_succ, Array.replicate_zero, List.push_toArray, List.append_toArray, List.nil_append, List.cons_append]
 gi_wp2
 have bQ := Boxed.new w 42 (.slice none 0 0)
 have hB0 : Below w.heap.size w (w.alloc (.cells #[.slice none 0 0] 42)) := (Below.refl _ w).alloc (Nat.le_refl _) _
 have hsz : (w.alloc (.cells #[.slice none 0 0] 42)).heap.size = w.heap.size + 1 := by simp
 obtain ⟨W0, hW0⟩ : ∃ W0, w.alloc (.cells #[.slice none 0 0] 42) = W0 := ⟨_, rfl⟩
 rw [hW0] at bQ hB0 hsz ⊢
 clear hW0
 have hI0 : Shares W0 (fun b => b < w.heap.size) A zs := SliceR.mono hI (fun b o x _ hx => ⟨hx.1, (hB0.cell (p := ⟨b, o, none⟩) hx.1).trans hx.2.1, (hB0.cell (p := ⟨b, o + 1, none⟩) hx.1).trans hx.2.2.1, (hB0.cell (p := ⟨b, o + 2, none⟩) hx.1).trans hx.2.2.2⟩)
 refine wpIn_rangeFunc_ownH hro h1 (gf := 70) (lb := #[.pointer (some ⟨Bs, 0, none⟩)]) rfl h54 (enters_of Tryz.func70 (by kernel_rfl) rfl)
  (values_stops F (n - 1) h54 hro (by omega) Bs w.heap.size A cap zs hz W0 (by omega) (by omega) ((hB0.cell (p := ⟨Bs, 0, none⟩) hBs).trans hc) hI0) belowK_t (belowK_b (by omega)) (Below.refl _ _) (fun _ => rfl)
  (fun pre W => (∃ v, Boxed W w.heap.size 42 v ∧ W.ownsRow w.heap.size 41 KA.size v pre.length (pre.flatMap KA.enc) ∧ True) ∧ Below w.heap.size w W)
  (fun _ _ _ => False)
  (OwnFrom.and (Own.from (holdsRow_own w.heap.size w.heap.size 42 41 KA.size (fun pre : List Sh => pre.length) (fun pre : List Sh => pre.flatMap KA.enc) (fun _ _ => True)) _) (ownFrom_below (Nat.le_refl _) (by omega)))
  (fun _ _ _ _ _ hs _ _ => hs)
  ⟨⟨_, bQ, World.ownsRow_nil _ _ _ _, trivial⟩, hB0⟩
  (fun x a' W => ∃ Bx, w.heap.size < Bx ∧ BoxA W Bx x ∧ a' = { tmps := #[.slice none 0 0, .func (.func 70) #[] #[.pointer (some ⟨Bs, 0, none⟩)], .pointer (some ⟨w.heap.size, 0, none⟩), undef, .slice none 0 0, .pointer (some ⟨Bx, 0, none⟩), .func (.func 70) #[] #[.pointer (some ⟨Bs, 0, none⟩)], .agg #[.int .i64 x.id, .int .i64 x.n, .int .i64 x.d], undef, undef, undef, undef, undef], defers := [] })
  (fun x a' _ X Y row hs hg hr => by obtain ⟨Bx, h1, h2, h3⟩ := hs; exact ⟨Bx, h1, boxA_own Bx (fun (_ : Unit) => x) () X Y row h2 hg (fun r e => (hr r e).2), h3⟩)
  ?assign ?body ?done ?stop
 case assign =>
  rintro l pre x W K ⟨⟨v, bV, hrow, -⟩, hB1⟩ hK
  gi_wp2
  exact hK _ _ ((KeepsOthers.alloc _ _).from _) ((Below.refl _ W).alloc hB1.size _) ⟨⟨v, bV.alloc _, hrow.alloc _, trivial⟩, hB1.alloc hB1.size _⟩ ⟨W.heap.size, bV.lt, World.alloc_heap_new W _, rfl⟩
 case body =>
  rintro l pre x a' W hl ⟨r, hr⟩ ⟨⟨v, hv, hrow, -⟩, hB⟩ ⟨Bx, hBx, bX, rfl⟩ hlt
  have hc := hv.cell
  obtain ⟨c0, c1, c2⟩ := bX.cells
  have HX := Lib.hid bX
  have HR := Lib.hid hr
  clear bX hr hc
  have hc := hv.cell
  gi_wp2_with (gi_at_builtin; refine wpListIn_append_own _ rfl _ _ 42 rfl w.heap.size 41 i0 z KA.size 24 HZ.out.2.2.2.2.2 HZ.out.1 HZ.out.2.1 HZ.out.2.2.1 HZ.out.2.2.2.1 HZ.out.2.2.2.2.1 (by decide) _ _ _ rfl (hrow.alloc _) ⟨W.heap.size, 0, none⟩ 1 1 (KA.enc x) rfl rfl (cell_three _ _ _ _ _) (fun u hu => x.cells_one u hu) (by unfold maxLen; omega) (by omega) (by have := hB.size; simp; omega) ?_; intro v' w1 hown' hgrow _; obtain ⟨g', cap', rfl⟩ := ownsRow_succ hown'; obtain ⟨hv1, hv2, hr2, hk2, hb2⟩ := hv.appended (by decide) hrow hB.size (Nat.le_refl _) hown' hgrow; have hc1 := hv1.cell; have hf1 := hv1.frozen)
  exact ⟨hk2.from _, hb2, ⟨_, hv2, by rw [List.length_append, List.flatMap_append]; simpa using hr2, trivial⟩, hB.trans hb2⟩
 case done =>
  rintro D ys W hD rfl ⟨⟨v, hv, hrow, -⟩, hB⟩ hK
  have hc := hv.cell
  gi_wp2
  refine ⟨by simp, .inl ⟨_, _, rfl, run_takeDeferred hK, ?_⟩⟩
  exact ⟨_, results_tmp rfl _ _ _, v, rfl, ⟨ownsRow_putObj hrow _ hK rfl, fun _ _ => trivial⟩, hB.trans (belowK_b (w := w) (Nat.le_refl _) W D _ _ (by omega) hK rfl rfl)⟩
 case stop =>
  rintro D c pre W _ _ h _
  exact h.elim
end
end Go.Proofs.YtnheioehadldmaaGreat

/- THE WALKS over slices.SortFunc at entries, slices.Collect, slices.SortedFunc. -/
namespace Go.Proofs.YtnheioehadldmaaGreat
open Go.RowKit Go.Shelf Go.Sort
theorem swo_adj : SWO (ltOf adjOrd) := by
 refine ⟨fun x => ?_, fun x y z h1 h2 => ?_, fun x y z h1 h2 => ?_⟩
 ·show decide (adjOrd x x < 0) = false
  rw [TotC.adj.refl]; rfl
 ·have h1' : adjOrd x y < 0 := of_decide_eq_true h1
  have h2' : adjOrd y z < 0 := of_decide_eq_true h2
  refine decide_eq_true (show adjOrd x z < 0 from ?_)
  have a1 := TotC.adj.anti x y
  have a2 := TotC.adj.anti y z
  have a3 := TotC.adj.trans x y z (by omega) (by omega)
  rcases TotC.adj.rng x z with h | h | h
  ·omega
  ·have := (TotC.adj.zero _ _).1 h
   rw [this] at h1'
   omega
  ·omega
 ·have h1' : ¬ adjOrd x y < 0 := of_decide_eq_false h1
  have h2' : ¬ adjOrd y z < 0 := of_decide_eq_false h2
  refine decide_eq_false (fun (h3 : adjOrd x z < 0) => ?_)
  have a1 := TotC.adj.anti x y
  have a2 := TotC.adj.anti y z
  have a3 := TotC.adj.anti x z
  have := TotC.adj.trans z y x (by omega) (by omega)
  omega
theorem eg_order (args : Array Value) (w : World) : (callFunc 42 args).run Tryz.prog w = .ok (.enter 42 args) w :=
 run_enter (c := Tryz.f42.body.get!) Tryz.func42 (by kernel_rfl) (by kernel_rfl) args w
theorem sortf_adj (hs : List Sh) (base : Nat) (g cap : Nat) (w : World) (h : OA w base (.slice (some ⟨g, 0, none⟩) hs.length cap) hs) (hl : hs.length ≤ 8000000) :
  Calls Tryz.prog 69 #[.slice (some ⟨g, 0, none⟩) hs.length cap, .func (.func 42) #[] #[]] w fun r w' => r = .returned (.tuple #[]) ∧ OA w' base (.slice (some ⟨g, 0, none⟩) hs.length cap) (sortO adjOrd hs) ∧ w.grownBy w' (some g) := by
 have H := own_sort (P := Tryz.prog) (K := KA) Tryz.laysSortAdj Tryz.isAgg41 Tryz.sizeOf41 ⟨0, 0, 0⟩ (fun _ _ => trivial) adjOrd swo_adj 42 w base (fun _ => False) g cap hs h hl eg_order (fun W x y _ _ _ => co_order x y W)
 refine (show Calls Tryz.prog 69 _ w _ from H).mono ?_
 rintro r w' ⟨rfl, hs', hp, hpw, hO, hG⟩
 have e : hs' = sortO adjOrd hs := sortO_eq TotC.adj hp (hpw.imp (fun {x y} h => by have := TotC.adj.anti x y; omega))
 subst e
 exact ⟨rfl, hO, hG⟩
theorem sortf_adj0 (fv : Value) (w : World) : Calls Tryz.prog 69 #[.slice none 0 0, fv] w fun e w' => e = .returned (.tuple #[]) ∧ Ext w w' := by
 have H := AnyF.slices_SortFunc_none (P := Tryz.prog) Tryz.laysSortAdj none 0 fv w
 exact (show Calls Tryz.prog 69 _ w _ from H).mono (fun e w' ⟨h1, h2⟩ => ⟨h1, by rw [h2]; exact Ext.refl _⟩)
theorem s_Values (a : Option Addr) (len cap : Nat) (w : World) :
  Calls Tryz.prog 41 #[.slice a len cap] w fun e w' => e = .returned (.func (.func 70) #[] #[.pointer (some ⟨w.heap.size, 0, none⟩)]) ∧ w' = w.alloc (.cells #[.slice a len cap] 42) :=
 callsIn_wide.1 (values_in Fence.wide 3 trivial rfl a len cap w)
theorem s_AppendSeq (Bs : Nat) (A : Option Addr) (cap : Nat) (zs : List Sh) (hz : zs.length ≤ 8000000) (w : World) (hBs : Bs < w.heap.size)
  (hc : w.cell? ⟨Bs, 0, none⟩ = some (.slice A zs.length cap)) (hI : Shares w (fun b => b < w.heap.size) A zs) :
  Calls Tryz.prog 86 #[.slice none 0 0, .func (.func 70) #[] #[.pointer (some ⟨Bs, 0, none⟩)]] w fun e W' => ∃ v, e = .returned v ∧ OA W' w.heap.size v zs ∧ Ext w W' :=
 callsIn_wide.1 (appendSeq_in Fence.wide 3 trivial trivial rfl (Nat.le_refl _) Bs A cap zs hz w hBs hc hI)
theorem s_Collect (Bs : Nat) (A : Option Addr) (cap : Nat) (zs : List Sh) (hz : zs.length ≤ 8000000) (w : World) (hBs : Bs < w.heap.size)
  (hc : w.cell? ⟨Bs, 0, none⟩ = some (.slice A zs.length cap)) (hI : Shares w (fun b => b < w.heap.size) A zs) :
  Calls Tryz.prog 68 #[.func (.func 70) #[] #[.pointer (some ⟨Bs, 0, none⟩)]] w fun e W' => ∃ v, e = .returned v ∧ OA W' w.heap.size v zs ∧ Ext w W' := by
 have HC := Lib.hid (s_AppendSeq Bs A cap zs hz w hBs hc hI)
 clear hc hI hBs hz
 go_enter Tryz.func68, Tryz.ntmps68
 go_wp2_with (go_at_call 86; ((with_reducible refine (HC.out).mono ?_); rintro e w2 ⟨v, rfl, hO, hx⟩))
 go_ret
 exact ⟨v, rfl, hO, hx⟩
set_option maxRecDepth 100000 in
theorem s_Sorted (Bs : Nat) (A : Option Addr) (cap : Nat) (zs : List Sh) (hz : zs.length ≤ 8000000) (w : World) (hBs : Bs < w.heap.size)
  (hc : w.cell? ⟨Bs, 0, none⟩ = some (.slice A zs.length cap)) (hI : Shares w (fun b => b < w.heap.size) A zs) :
  Calls Tryz.prog 40 #[.func (.func 70) #[] #[.pointer (some ⟨Bs, 0, none⟩)], .func (.func 42) #[] #[]] w fun e W' => ∃ v, e = .returned v ∧ OA W' w.heap.size v (sortO adjOrd zs) ∧ Ext w W' := by
 have HC := Lib.hid (s_Collect Bs A cap zs hz w hBs hc hI)
 have HZ := Lib.hid hz
 clear hc hI hBs hz
 go_enter Tryz.func40, Tryz.ntmps40
 go_upto_region 2 with (go_at_call 68; ((with_reducible refine (HC.out).mono ?_); rintro e w2 ⟨v, rfl, hO, hx⟩))
 have HO := Lib.hid hO
 rcases hO.own.2 with ⟨rfl, h0⟩ | ⟨g, cp, cur, rfl, hb, -, -⟩
 ·have hz0 : zs = [] := List.eq_nil_of_length_eq_zero (by first | exact h0 | simpa using h0)
  subst hz0
  clear hO h0
  go_wp2_with (go_at_call 69; ((with_reducible refine ((sortf_adj0 _ _)).mono ?_); rintro e w3 ⟨rfl, hx3⟩))
  go_ret
  exact ⟨_, rfl, OwnG.nil _ _ _ _ _, hx.trans hx3⟩
 ·have HS := Lib.hid (sortf_adj zs w.heap.size g cp w2 hO HZ.out)
  have HB := Lib.hid hb
  clear hO hb
  go_wp2_with (go_at_call 69; ((with_reducible refine (HS.out).mono ?_); rintro e w3 ⟨rfl, hO3, hg3⟩))
  go_ret
  exact ⟨_, rfl, hO3, hx.grown hg3 (fun k hk => by cases hk; exact HB.out)⟩
end Go.Proofs.YtnheioehadldmaaGreat
