/- PARTS OF THE WALKS, joined: PtH, PtI. -/
import Derived.Test.YtigmdddeplnciaaGreatDoorV12
import Derived.Test.YtigmdddeplnciaaGreatDoorV09
import Derived.Deep.Cut
import Derived.Deep.CutRange
/- THE WALKS over a value's node, edge, path; a slice at full capacity cut and appended to. -/
namespace Go.Proofs.YtigmdddeplnciaaGreatDoor
open Go.RowKit
theorem v_Node (i : Int) (w : World) : Calls Tryz.prog 26 #[.int .i64 i] w fun e w' => e = .returned (agV (nodeV i) none 0) ∧ Ext w w' := by
  go_enter Tryz.func26, Tryz.ntmps26
  go_wp2_with fail
  refine bodyPost_ret (v := .agg #[.int .i64 5, .int .i64 i, .int .i64 0, .string ByteArray.empty, .slice none 0 0]) (by simp [results, Tryz.results26, go_sem]; rfl) rfl ⟨rfl, (by repeat (first | with_reducible exact Ext.refl _ | with_reducible assumption | with_reducible refine Ext.drew ?_ | with_reducible refine Ext.drewN ?_ _ | with_reducible refine Ext.alloc ?_ _ | (with_reducible refine Ext.setCell ?_ (by first | omega | (simp; done) | (simp; omega)) _)))⟩
theorem v_Edge (i : Int) (w : World) : Calls Tryz.prog 61 #[.int .i64 i] w fun e w' => e = .returned (agV (edgeV i) none 0) ∧ Ext w w' := by
  go_enter Tryz.func61, Tryz.ntmps61
  go_wp2_with fail
  refine bodyPost_ret (v := .agg #[.int .i64 6, .int .i64 i, .int .i64 0, .string ByteArray.empty, .slice none 0 0]) (by simp [results, Tryz.results61, go_sem]; rfl) rfl ⟨rfl, (by repeat (first | with_reducible exact Ext.refl _ | with_reducible assumption | with_reducible refine Ext.drew ?_ | with_reducible refine Ext.drewN ?_ _ | with_reducible refine Ext.alloc ?_ _ | (with_reducible refine Ext.setCell ?_ (by first | omega | (simp; done) | (simp; omega)) _)))⟩
theorem r24_node (i : Int) (w : World) : Calls Tryz.prog 30 #[.int .i64 i] w fun e w' => e = .returned (agV (nodeV i) none 0) ∧ Ext w w' := by
  go_enter Tryz.func30, Tryz.ntmps30
  go_wp2_with fail
  refine bodyPost_ret (v := .agg #[.int .i64 5, .int .i64 i, .int .i64 0, .string ByteArray.empty, .slice none 0 0]) (by simp [results, Tryz.results30, go_sem]; rfl) rfl ⟨rfl, (by repeat (first | with_reducible exact Ext.refl _ | with_reducible assumption | with_reducible refine Ext.drew ?_ | with_reducible refine Ext.drewN ?_ _ | with_reducible refine Ext.alloc ?_ _ | (with_reducible refine Ext.setCell ?_ (by first | omega | (simp; done) | (simp; omega)) _)))⟩
theorem v_PathV (l : List Val) (ok : Nat → Prop) (A : Option Addr) (c : Nat) (w : World) (hm : wtL l ≤ 8000000) (hv : Vals w ok A l) :
    Calls Tryz.prog 59 #[.slice A l.length c] w fun e w' => ∃ A' c', e = .returned (agV (pathV l) A' c') ∧ l.length ≤ c' ∧ Vals w' (fun b => w.heap.size ≤ b) A' l ∧ Ext w w' := by
  have HC := Lib.hid (fun W (e : Ext w W) => v_copied l ok A c W hm (hv.ext e))
  clear hv
  go_enter Tryz.func59, Tryz.ntmps59
  obtain ⟨g, w1, hg, hw1, z0, z1, z2, z3, z4, f0, hx1⟩ : ∃ (g : Nat) (w1 : World), g = w.heap.size ∧ w1 = w.alloc (.cells #[.int .i64 0, .int .i64 0, .int .i64 0, .string ⟨#[]⟩, .slice none 0 0] 37) ∧ w1.cell? ⟨g, 0, none⟩ = some (.int .i64 0) ∧ w1.cell? ⟨g, 1, none⟩ = some (.int .i64 0) ∧ w1.cell? ⟨g, 2, none⟩ = some (.int .i64 0) ∧ w1.cell? ⟨g, 3, none⟩ = some (.string ⟨#[]⟩) ∧ w1.cell? ⟨g, 4, none⟩ = some (.slice none 0 0) ∧ (∀ j, w1.frozen? ⟨g, j, none⟩ = false) ∧ Ext w w1 := ⟨_, _, rfl, rfl, by go_simp, by go_simp, by go_simp, by go_simp, by go_simp, fun j => by go_simp, (by solve_by_elim [X0, X1, X2, X3])⟩
  go_upto_region 1 with (fail)
  rw [← hw1, ← hg]
  have hgw : w.heap.size ≤ g := Nat.le_of_eq hg.symm
  have hg1 : g < w1.heap.size := block_lt_of_cell z0
  clear hw1 hg
  go_wp2_with (go_at_call 96; ((with_reducible refine (HC.out _ hx1).mono ?_); rintro e w2 ⟨A2, c2, rfl, hc2, hV2, hx2⟩; have hf := fun j => (frz_heap (a := w1) (b := w2) (p := ⟨g, j, none⟩) (hx2.block g hg1)).trans (f0 j); replace z0 := hx2.cell z0; replace z1 := hx2.cell z1; replace z2 := hx2.cell z2; replace z3 := hx2.cell z3; replace z4 := hx2.cell z4))
  refine bodyPost_ret (v := .agg #[.int .i64 7, .int .i64 0, .int .i64 0, .string ByteArray.empty, .slice A2 l.length c2]) (by simp [results, Tryz.results59, go_sem, z0, z1, z2, z3, z4]; rfl) rfl ⟨A2, c2, rfl, hc2, ?_, ?_⟩
  · refine hV2.keep (fun b o x hb hc => ?_) (fun b hb => Nat.le_trans hx1.le hb)
    have hne : b ≠ g := fun e => by rw [e] at hb; exact absurd hb (by omega)
    have hh : ∀ (V : World) (j : Nat) (u : Value), (V.setCell ⟨g, j, none⟩ u).cell? ⟨b, o, none⟩ = V.cell? ⟨b, o, none⟩ := fun V j u => World.cell?_setCell_other _ _ _ _ (fun e => hne (by injection e with e1; exact e1.symm))
    repeat rw [hh]
    exact hc
  · exact (by have h3 := hx1.trans hx2; repeat (first | with_reducible assumption | (with_reducible refine Ext.setCell ?_ hgw _)))
/-- cut to its length, then appended to: always a new block -/
theorem run_appendFull {P : Program} {t e size bytes : Nat} (T : ElT P t e size bytes) (ty : TypeId) (W : World) (b : Addr) (n : Nat) (olds : List Value) (hlo : olds.length = n * size) (holds : ∀ j u, olds[j]? = some u → W.cell? (b.add j) = some u)
    (a : Addr) (m c : Nat) (news : List Value) (hl : news.length = m * size) (hnews : ∀ j u, news[j]? = some u → W.cell? (a.add j) = some u) (hm : 0 < m) (h63 : n + m ≤ 8388608) (hbytes : bytes ≤ 1000000) :
    ∃ v' w', (Builtin.append_ #[t, t] ty #[.slice (some b) n n, .slice (some a) m c]).run P W = .ok v' w' ∧ w'.ownsRow W.heap.size e size v' (n + m) (olds ++ news) ∧ Ext W w' := by
  obtain ⟨z, hz, hzc⟩ := T.hi
  obtain ⟨i, hi, hz0, hz1, hz2⟩ := info_parts hz
  subst hz1 hz2
  have hlen : (olds ++ news).length = (n + m) * i.size := by rw [List.length_append, hlo, hl, Nat.add_mul]
  have hmx : n + m ≤ maxLen := by unfold maxLen; omega
  have hge := grownCap_ge W (n + m) n e
  have hcm : grownCap W (n + m) n e ≤ maxLen := grownCap_le_maxLen W (n + m) n e hmx
  refine ⟨_, _, run_append_grow (P := P) W t ty e i z T.ht hi hz0 b n n olds hlo holds a m c news hl hnews (by omega) (by omega) (growslice_fits (by omega) (Nat.le_trans (Nat.mul_le_mul h63 hbytes) (by decide))), ⟨hlen, .inr ⟨W.heap.size, _, _, rfl, Nat.le_refl _, heap_alloc_new W.drew _, hge, hcm, ?_, ?_⟩⟩, ((Ext.refl _).drew).alloc _⟩
  · simp only [Array.size_append, List.size_toArray, size_zeroCells, hzc, hlo, hl, ← Nat.add_mul]
    congr 1
    omega
  · simp only [Array.toList_append, List.append_assoc]
    rw [← List.append_assoc, ← hlen]
    exact List.take_left
end Go.Proofs.YtigmdddeplnciaaGreatDoor

/- THE WALK over (*paths.search).visit: it goes deep first. -/
namespace Go.Proofs.YtigmdddeplnciaaGreatDoor
open Go.RowKit Go.Sort
theorem wtL_leafs : ∀ {l : List Val}, (∀ v ∈ l, v.l = []) → wtL l = l.length
  | [], _ => by rw [wtL]; rfl
  | v :: l, h => by
    have h1 := h v (by simp)
    rw [wtL_cons, wtL_leafs (fun x hx => h x (by simp [hx])), List.length_cons]
    unfold wtV
    rw [h1, wtL]; omega
theorem els_leafs (s : Int) (h : List Hop) : ∀ v ∈ elsP s h, v.l = [] := fun v hv => by
  unfold elsP tailP at hv
  rcases List.mem_cons.1 hv with e | e
  · rw [e]; rfl
  · obtain ⟨x, -, e⟩ := List.mem_flatMap.1 e
    simp only [List.mem_cons, List.not_mem_nil, or_false] at e
    rcases e with e | e <;> rw [e] <;> rfl
theorem els_id {s : Int} {h : List Hop} (hr : RngP s h) : ∀ i, i < (elsP s h).length → idOk (elsP s h)[i]!.n := fun i hi => by
  rw [elsP_len] at hi
  rcases Nat.mod_two_eq_zero_or_one i with h0 | h0
  · obtain ⟨j, rfl⟩ : ∃ j, i = 2 * j := ⟨i / 2, by omega⟩
    rw [elsP_node (by omega)]; exact hr.node (by omega)
  · obtain ⟨j, rfl⟩ : ∃ j, i = 2 * j + 1 := ⟨i / 2, by omega⟩
    rw [elsP_edge (by omega)]
    have hj : j < h.length := by omega
    rw [getElem!_pos h j hj]; exact (hr.2 _ (List.getElem_mem hj)).1
/-- the search's struct in block s -/
structure SrcC (W : World) (s : Nat) (A : Option Addr) (c : Nat) (B : Option Addr) (d : Nat) (T : Option Addr) (e : Nat) (g : GraphG) (tl : Nat) (dir mode mn mx : Int) (v : Value) : Prop where
  c0 : W.cell? ⟨s, 0, none⟩ = some (.slice A g.nodes.length c)
  c1 : W.cell? ⟨s, 1, none⟩ = some (.slice B g.edges.length d)
  c2 : W.cell? ⟨s, 2, none⟩ = some (.int .i64 g.nn)
  c3 : W.cell? ⟨s, 3, none⟩ = some (.int .i64 g.ne)
  c4 : W.cell? ⟨s, 4, none⟩ = some (.slice T tl e)
  c5 : W.cell? ⟨s, 5, none⟩ = some (.int .i64 dir)
  c6 : W.cell? ⟨s, 6, none⟩ = some (.int .i64 mode)
  c7 : W.cell? ⟨s, 7, none⟩ = some (.int .i64 mn)
  c8 : W.cell? ⟨s, 8, none⟩ = some (.int .i64 mx)
  c9 : W.cell? ⟨s, 9, none⟩ = some v
  fz : W.frozen? ⟨s, 9, none⟩ = false
section
variable {W W' : World} {s : Nat} {A : Option Addr} {c : Nat} {B : Option Addr} {d : Nat} {T : Option Addr} {e : Nat} {g : GraphG} {tl : Nat} {dir mode mn mx : Int} {v v' : Value}
theorem SrcC.grown {row : Option Nat} (h : SrcC W s A c B d T e g tl dir mode mn mx v) (hg : W.grownBy W' row) (hr : some s ≠ row) : SrcC W' s A c B d T e g tl dir mode mn mx v :=
  ⟨hg.cell h.c0 hr, hg.cell h.c1 hr, hg.cell h.c2 hr, hg.cell h.c3 hr, hg.cell h.c4 hr, hg.cell h.c5 hr, hg.cell h.c6 hr, hg.cell h.c7 hr, hg.cell h.c8 hr, hg.cell h.c9 hr, frz_grown hg h.c9 h.fz hr⟩
theorem SrcC.ext (h : SrcC W s A c B d T e g tl dir mode mn mx v) (x : Ext W W') : SrcC W' s A c B d T e g tl dir mode mn mx v := h.grown (x.gr none) (by simp)
theorem SrcC.put (h : SrcC W s A c B d T e g tl dir mode mn mx v) (v' : Value) : SrcC (W.setCell ⟨s, 9, none⟩ v') s A c B d T e g tl dir mode mn mx v' := by
  have f : ∀ {j : Nat} {u : Value}, j ≠ 9 → W.cell? ⟨s, j, none⟩ = some u → (W.setCell ⟨s, 9, none⟩ v').cell? ⟨s, j, none⟩ = some u := fun hj hc => by
    rw [World.cell?_setCell_other _ _ _ _ (fun e => by injection e with _ e2; exact hj e2.symm)]; exact hc
  exact ⟨f (by decide) h.c0, f (by decide) h.c1, f (by decide) h.c2, f (by decide) h.c3, f (by decide) h.c4, f (by decide) h.c5, f (by decide) h.c6, f (by decide) h.c7, f (by decide) h.c8, World.cell?_setCell_same' _ _ _ (by rw [h.c9]; rfl), by rw [World.frozen?_setCell]; exact h.fz⟩
end
/-- what lay outside block s and outside v's block lies as it lay, and is not in v' -/
structure FarS (s : Nat) (W : World) (v : Value) (W' : World) (v' : Value) : Prop where
  size : W.heap.size ≤ W'.heap.size
  blk : ∀ b, b < W.heap.size → b ≠ s → some b ≠ v.ownBlock → W'.heap[b]? = W.heap[b]? ∧ some b ≠ v'.ownBlock
theorem FarS.refl (s : Nat) (W : World) (v : Value) : FarS s W v W v := ⟨Nat.le_refl _, fun _ _ _ h => ⟨rfl, h⟩⟩
theorem FarS.of_ext {s : Nat} {W W' : World} (v : Value) (x : Ext W W') : FarS s W v W' v := ⟨x.le, fun b hb _ h => ⟨x.block b hb, h⟩⟩
theorem FarS.trans {s : Nat} {W W' W'' : World} {v v' v'' : Value} (h : FarS s W v W' v') (k : FarS s W' v' W'' v'') : FarS s W v W'' v'' :=
  ⟨Nat.le_trans h.size k.size, fun b hb hs hv => by
    obtain ⟨h1, h2⟩ := h.blk b hb hs hv
    obtain ⟨k1, k2⟩ := k.blk b (Nat.lt_of_lt_of_le hb h.size) hs h2
    exact ⟨k1.trans h1, k2⟩⟩
theorem FarS.cell {s : Nat} {W W' : World} {v v' : Value} (h : FarS s W v W' v') {b o : Nat} {x : Value} (hs : b ≠ s) (hv : some b ≠ v.ownBlock) (hc : W.cell? ⟨b, o, none⟩ = some x) : W'.cell? ⟨b, o, none⟩ = some x ∧ some b ≠ v'.ownBlock := by
  obtain ⟨h1, h2⟩ := h.blk b (block_lt_of_cell hc) hs hv
  exact ⟨(World.cell?_of_block (a := ⟨b, o, none⟩) h1).trans hc, h2⟩
/-- behind a push -/
theorem FarS.push {s : Nat} {w wA w9 W10 W11 : World} {v v9 : Value} (h1 : Ext w wA) (h2 : wA.grownBy w9 v.ownBlock) (hd : v9.ownBlock = v.ownBlock ∨ v9.ownBlock = some wA.heap.size) (h3 : w9.grownBy W10 v9.ownBlock) (h4 : W10.grownBy W11 (some s)) : FarS s w v W11 v9 :=
  ⟨Nat.le_trans h1.le (Nat.le_trans h2.size (Nat.le_trans h3.size h4.size)), fun b hb hs hv => by
    have hb1 := Nat.lt_of_lt_of_le hb h1.le
    have hb2 := Nat.lt_of_lt_of_le hb1 h2.size
    have hb3 := Nat.lt_of_lt_of_le hb2 h3.size
    have hv9 : some b ≠ v9.ownBlock := by
      rcases hd with e | e
      · rw [e]; exact hv
      · rw [e]; intro e2; injection e2 with e2; omega
    exact ⟨(h4.block b hb3 (fun e => hs (Option.some.inj e))).trans ((h3.block b hb2 hv9).trans ((h2.block b hb1 hv).trans (h1.block b hb))), hv9⟩⟩
def zHV : HV := ⟨none, 0, .mk 0 0 0 ⟨#[]⟩ []⟩
theorem zero_cells {W : World} {b : Nat} (h0 : W.cell? ⟨b, 0, none⟩ = some (.int .i64 0)) (h1 : W.cell? ⟨b, 1, none⟩ = some (.int .i64 0)) (h2 : W.cell? ⟨b, 2, none⟩ = some (.int .i64 0)) (h3 : W.cell? ⟨b, 3, none⟩ = some (.string ⟨#[]⟩)) (h4 : W.cell? ⟨b, 4, none⟩ = some (.slice none 0 0)) :
    ∀ j u, (KHV.enc zHV)[j]? = some u → W.cell? ((⟨b, 0, none⟩ : Addr).add j) = some u := fun j u hu => by
  rw [Addr.add_mid, Nat.zero_add]
  have hj : j < 5 := (List.getElem?_eq_some_iff.1 hu).1
  have hj' : j = 0 ∨ j = 1 ∨ j = 2 ∨ j = 3 ∨ j = 4 := by omega
  rcases hj' with rfl | rfl | rfl | rfl | rfl <;> (cases hu; assumption)
abbrev okS (s : Nat) (b : Nat) : Prop := s + 1 ≤ b
/-- a pushed zero is overwritten -/
theorem push_done {w9 : World} {s : Nat} {v9 : Value} {hs : List HV} (h : OwnV w9 (s + 1) (okS s) v9 (hs ++ [zHV])) (A5 : Option Addr) (c5 : Nat) (l : List Val) (k : Nat) (hk : l.length = k) (hc5 : k ≤ c5) (hV : Vals w9 (fun b => okS s b ∧ some b ≠ v9.ownBlock) A5 l) :
    ∃ g9 cp, v9 = .slice (some ⟨g9, 0, none⟩) (hs.length + 1) cp ∧ s + 1 ≤ g9 ∧ hs.length + 1 ≤ cp ∧ (w9.cell? ⟨g9, hs.length * 5, none⟩ = some (.int .i64 0) ∧ w9.cell? ⟨g9, hs.length * 5 + 1, none⟩ = some (.int .i64 0) ∧ w9.cell? ⟨g9, hs.length * 5 + 2, none⟩ = some (.int .i64 0) ∧ w9.cell? ⟨g9, hs.length * 5 + 3, none⟩ = some (.string ⟨#[]⟩) ∧ w9.cell? ⟨g9, hs.length * 5 + 4, none⟩ = some (.slice none 0 0)) ∧
      (w9.frozen? ⟨g9, hs.length * 5, none⟩ = false ∧ w9.frozen? ⟨g9, hs.length * 5 + 1, none⟩ = false ∧ w9.frozen? ⟨g9, hs.length * 5 + 2, none⟩ = false ∧ w9.frozen? ⟨g9, hs.length * 5 + 3, none⟩ = false ∧ w9.frozen? ⟨g9, hs.length * 5 + 4, none⟩ = false) ∧
      ∃ W10, W10 = (((((w9.setCell ⟨g9, hs.length * 5, none⟩ (.int .i64 7)).setCell ⟨g9, hs.length * 5 + 1, none⟩ (.int .i64 0)).setCell ⟨g9, hs.length * 5 + 2, none⟩ (.int .i64 0)).setCell ⟨g9, hs.length * 5 + 3, none⟩ (.string ByteArray.empty)).setCell ⟨g9, hs.length * 5 + 4, none⟩ (.slice A5 k c5)) ∧ OwnV W10 (s + 1) (okS s) v9 (hs ++ [⟨A5, c5, pathV l⟩]) ∧ w9.grownBy W10 v9.ownBlock := by
  subst hk
  have hlen : (hs ++ [zHV]).length = hs.length + 1 := by simp
  obtain ⟨g9, cp, rfl, hb, -, hcp⟩ := ownV_some h (by simp)
  have hi : hs.length < (hs ++ [zHV]).length := by simp
  obtain ⟨⟨q0, q1, q2, q3, q4⟩, f⟩ := own_cells5 h hi
  have hz : (hs ++ [zHV])[hs.length]'hi = zHV := by simp
  rw [hz] at q0 q1 q2 q3 q4
  obtain ⟨hO, hG⟩ := OwnG.put5 (K := KHV) rfl h hi (⟨A5, c5, pathV l⟩ : HV) (a0 := .int .i64 7) (a1 := .int .i64 0) (a2 := .int .i64 0) (a3 := .string ByteArray.empty) (a4 := .slice A5 l.length c5) rfl ⟨hc5, hV⟩
  refine ⟨g9, cp, by rw [hlen], hb, by rw [hlen] at hcp; exact hcp, ⟨q0, q1, q2, q3, q4⟩, f, _, rfl, ?_, hG⟩
  rwa [List.set_append_right _ _ (Nat.le_refl _), Nat.sub_self, List.set_cons_zero] at hO
set_option maxRecDepth 100000 in
theorem s_ClipV (b : Addr) (n c : Nat) (w : World) (hn : n ≤ c) : Calls Tryz.prog 60 #[.slice (some b) n c] w fun e w' => e = .returned (.slice (some b) n n) ∧ Ext w w' := by
  have hn' : (n : Int) ≤ (c : Int) := by omega
  go_enter Tryz.func60, Tryz.ntmps60
  go_wp2_with fail
  go_ret
  exact ⟨rfl, Ext.refl _⟩
/-- what a search keeps -/
structure SrcSt (w0 : World) (s : Nat) (A : Option Addr) (c : Nat) (B : Option Addr) (d : Nat) (T : Option Addr) (e : Nat) (g : GraphG) (tl : Nat) (dir mode mn mx : Int) (W : World) (v : Value) (hs : List HV) : Prop where
  ext : Ext w0 W
  lt : w0.heap.size ≤ s
  at_ : SrcC W s A c B d T e g tl dir mode mn mx v
  own : OwnV W (s + 1) (okS s) v hs
section
variable {w0 : World} {s : Nat} {A : Option Addr} {c : Nat} {B : Option Addr} {d : Nat} {T : Option Addr} {e : Nat} {g : GraphG} {tl : Nat} {dir mode mn mx : Int} {W W' : World} {v : Value} {hs : List HV}
theorem SrcSt.exts (h : SrcSt w0 s A c B d T e g tl dir mode mn mx W v hs) (x : Ext W W') : SrcSt w0 s A c B d T e g tl dir mode mn mx W' v hs := ⟨h.ext.trans x, h.lt, h.at_.ext x, h.own.ext x⟩
theorem SrcSt.ne (h : SrcSt w0 s A c B d T e g tl dir mode mn mx W v hs) : v.ownBlock ≠ some s := fun e => by have := (OwnG.lt h.own e).1; omega
theorem SrcSt.pushed {wA w9 W10 : World} {v9 : Value} {hs' : List HV} (h : SrcSt w0 s A c B d T e g tl dir mode mn mx W v hs) (h1 : Ext W wA) (h2 : wA.grownBy w9 v.ownBlock) (hd : v9.ownBlock = v.ownBlock ∨ v9.ownBlock = some wA.heap.size) (h3 : w9.grownBy W10 v9.ownBlock) (hO : OwnV W10 (s + 1) (okS s) v9 hs') :
    SrcC W10 s A c B d T e g tl dir mode mn mx v ∧ SrcSt w0 s A c B d T e g tl dir mode mn mx (W10.setCell ⟨s, 9, none⟩ v9) v9 hs' ∧ FarS s W v (W10.setCell ⟨s, 9, none⟩ v9) v9 := by
  have n1 : some s ≠ v.ownBlock := fun e => h.ne e.symm
  have n9 : some s ≠ v9.ownBlock := fun e => by have := (OwnG.lt hO e.symm).1; omega
  have hlt := h.lt
  have e9 : Ext w0 w9 := (h.ext.trans h1).grown h2 (fun k hk => by have := (OwnG.lt h.own hk).1; omega)
  have e10 : Ext w0 W10 := e9.grown h3 (fun k hk => by have := (OwnG.lt hO hk).1; omega)
  have hC := ((h.at_.ext h1).grown h2 n1).grown h3 n9
  refine ⟨hC, ⟨e10.setCell hlt _, hlt, hC.put v9, OwnG.grown hO (gr_set _ _ _ _) (.inr (fun e => n9 e.symm)) (fun b hb h => ?_)⟩, FarS.push h1 h2 hd h3 (gr_set _ _ _ _)⟩
  injection hb with hb
  exact absurd h (by unfold okS; omega)
theorem SrcSt.push_all {wA w9 : World} {v9 : Value} (h : SrcSt w0 s A c B d T e g tl dir mode mn mx W v hs) (h1 : Ext W wA) (h2 : wA.grownBy w9 v.ownBlock) (hd : v9.ownBlock = v.ownBlock ∨ v9.ownBlock = some wA.heap.size) (hO : OwnV w9 (s + 1) (okS s) v9 (hs ++ [zHV])) (A5 : Option Addr) (c5 : Nat) (l : List Val) (k : Nat) (hk : l.length = k) (hc5 : k ≤ c5) (hV : Vals w9 (fun b => okS s b ∧ some b ≠ v9.ownBlock) A5 l) :
    ∃ g9 cp, v9 = .slice (some ⟨g9, 0, none⟩) (hs.length + 1) cp ∧ s + 1 ≤ g9 ∧ hs.length + 1 ≤ cp ∧ (w9.cell? ⟨g9, hs.length * 5, none⟩ = some (.int .i64 0) ∧ w9.cell? ⟨g9, hs.length * 5 + 1, none⟩ = some (.int .i64 0) ∧ w9.cell? ⟨g9, hs.length * 5 + 2, none⟩ = some (.int .i64 0) ∧ w9.cell? ⟨g9, hs.length * 5 + 3, none⟩ = some (.string ⟨#[]⟩) ∧ w9.cell? ⟨g9, hs.length * 5 + 4, none⟩ = some (.slice none 0 0)) ∧
      (w9.frozen? ⟨g9, hs.length * 5, none⟩ = false ∧ w9.frozen? ⟨g9, hs.length * 5 + 1, none⟩ = false ∧ w9.frozen? ⟨g9, hs.length * 5 + 2, none⟩ = false ∧ w9.frozen? ⟨g9, hs.length * 5 + 3, none⟩ = false ∧ w9.frozen? ⟨g9, hs.length * 5 + 4, none⟩ = false) ∧ w9.cell? ⟨s, 9, none⟩ = some v ∧ w9.frozen? ⟨s, 9, none⟩ = false ∧
      (∃ W10, W10 = (((((w9.setCell ⟨g9, hs.length * 5, none⟩ (.int .i64 7)).setCell ⟨g9, hs.length * 5 + 1, none⟩ (.int .i64 0)).setCell ⟨g9, hs.length * 5 + 2, none⟩ (.int .i64 0)).setCell ⟨g9, hs.length * 5 + 3, none⟩ (.string ByteArray.empty)).setCell ⟨g9, hs.length * 5 + 4, none⟩ (.slice A5 k c5)) ∧ W10.cell? ⟨s, 9, none⟩ = some v ∧ W10.frozen? ⟨s, 9, none⟩ = false ∧ ∃ W11, W11 = W10.setCell ⟨s, 9, none⟩ v9 ∧ SrcSt w0 s A c B d T e g tl dir mode mn mx W11 v9 (hs ++ [⟨A5, c5, pathV l⟩]) ∧ FarS s W v W11 v9) ∧
      (∃ Y9, Y9 = w9.setCell ⟨s, 9, none⟩ v9 ∧ (Y9.cell? ⟨g9, hs.length * 5, none⟩ = some (.int .i64 0) ∧ Y9.cell? ⟨g9, hs.length * 5 + 1, none⟩ = some (.int .i64 0) ∧ Y9.cell? ⟨g9, hs.length * 5 + 2, none⟩ = some (.int .i64 0) ∧ Y9.cell? ⟨g9, hs.length * 5 + 3, none⟩ = some (.string ⟨#[]⟩) ∧ Y9.cell? ⟨g9, hs.length * 5 + 4, none⟩ = some (.slice none 0 0)) ∧
        (Y9.frozen? ⟨g9, hs.length * 5, none⟩ = false ∧ Y9.frozen? ⟨g9, hs.length * 5 + 1, none⟩ = false ∧ Y9.frozen? ⟨g9, hs.length * 5 + 2, none⟩ = false ∧ Y9.frozen? ⟨g9, hs.length * 5 + 3, none⟩ = false ∧ Y9.frozen? ⟨g9, hs.length * 5 + 4, none⟩ = false) ∧
        ∃ Y11, Y11 = (((((Y9.setCell ⟨g9, hs.length * 5, none⟩ (.int .i64 7)).setCell ⟨g9, hs.length * 5 + 1, none⟩ (.int .i64 0)).setCell ⟨g9, hs.length * 5 + 2, none⟩ (.int .i64 0)).setCell ⟨g9, hs.length * 5 + 3, none⟩ (.string ByteArray.empty)).setCell ⟨g9, hs.length * 5 + 4, none⟩ (.slice A5 k c5)) ∧ SrcSt w0 s A c B d T e g tl dir mode mn mx Y11 v9 (hs ++ [⟨A5, c5, pathV l⟩]) ∧ FarS s W v Y11 v9) := by
  have n1 : some s ≠ v.ownBlock := fun e => h.ne e.symm
  have n9 : some s ≠ v9.ownBlock := fun e => by have := (OwnG.lt hO e.symm).1; omega
  have hlt := h.lt
  have hC9 := (h.at_.ext h1).grown h2 n1
  have e9 : Ext w0 w9 := (h.ext.trans h1).grown h2 (fun k hk => by have := (OwnG.lt h.own hk).1; omega)
  obtain ⟨g9, cp, e1, hb, hcp, q, f, W10, hW10, hO10, hg10⟩ := push_done hO A5 c5 l k hk hc5 hV
  obtain ⟨hC10, hS11, hF11⟩ := h.pushed h1 h2 hd hg10 hO10
  have gS := gr_set w9 s 9 v9
  have hOY : OwnV (w9.setCell ⟨s, 9, none⟩ v9) (s + 1) (okS s) v9 (hs ++ [zHV]) := OwnG.grown hO gS (.inr (fun e => n9 e.symm)) (fun b hb h => by
    injection hb with hb
    exact absurd h (by unfold okS; omega))
  have hVY : Vals (w9.setCell ⟨s, 9, none⟩ v9) (fun b => okS s b ∧ some b ≠ v9.ownBlock) A5 l := hV.keep' (fun b o y hb hc => ⟨gS.cell hc (fun e => by
    have h1 := Option.some.inj e
    have h2 := hb.1
    have h3 : b = s := h1
    unfold okS at h2; omega), hb⟩)
  obtain ⟨g9', cp', e2, -, -, q', f', Y11, hY11, hO11, hg11⟩ := push_done hOY A5 c5 l k hk hc5 hVY
  rw [e1] at e2
  simp only [Value.slice.injEq, Option.some.injEq, Addr.mk.injEq, and_true, true_and] at e2
  obtain ⟨rfl, rfl⟩ := e2
  refine ⟨g9, cp, e1, hb, hcp, q, f, hC9.c9, hC9.fz, ⟨W10, hW10, hC10.c9, hC10.fz, _, rfl, hS11, hF11⟩, ⟨_, rfl, q', f', Y11, hY11, ⟨?_, hlt, (hC9.put v9).grown hg11 n9, hO11⟩, ?_⟩⟩
  · exact (e9.setCell hlt _).grown hg11 (fun k hk => by have := (OwnG.lt hO11 hk).1; omega)
  · exact ⟨Nat.le_trans h1.le (Nat.le_trans h2.size (Nat.le_trans gS.size hg11.size)), fun b hb hs hv => by
      have hb1 := Nat.lt_of_lt_of_le hb h1.le
      have hb2 := Nat.lt_of_lt_of_le hb1 h2.size
      have hb3 := Nat.lt_of_lt_of_le hb2 gS.size
      have hv9 : some b ≠ v9.ownBlock := by
        rcases hd with e | e
        · rw [e]; exact hv
        · rw [e]; intro e2; injection e2 with e2; omega
      exact ⟨(hg11.block b hb3 hv9).trans ((gS.block b hb2 (fun e => hs (Option.some.inj e))).trans ((h2.block b hb1 hv).trans (h1.block b hb))), hv9⟩⟩
end
/-- the contract of visit with f hops to go -/
def VisitAt (w0 : World) (s : Nat) (A : Option Addr) (c : Nat) (B : Option Addr) (d : Nat) (T : Option Addr) (e : Nat) (g : GraphG) (types : List ByteArray) (dir mode mn : Int) (mx : Nat) (s0 : Int) (f : Nat) : Prop := ∀ (h : List Hop) (W : World) (v : Value) (hs : List HV) (L : Option Addr) (cl m : Nat), m = 2 * h.length → h.length + f = mx → RngP s0 h → SrcSt w0 s A c B d T e g types.length dir mode mn (mx : Int) W v hs → m + 1 ≤ cl → Vals W (fun b => okS s b ∧ some b ≠ v.ownBlock) L (elsP s0 h) → hs.length + (dfsP mode s0 (stepsL g types dir) mn f h).length ≤ 8000000 →
  Calls Tryz.prog 25 #[.pointer (some ⟨s, 0, none⟩), .slice L (m + 1) cl] W fun r W' => r = .returned (.tuple #[]) ∧ ∃ v' hs', SrcSt w0 s A c B d T e g types.length dir mode mn (mx : Int) W' v' (hs ++ hs') ∧ hs'.map HV.v = (dfsP mode s0 (stepsL g types dir) mn f h).map (fun h => pathV (elsP s0 h)) ∧ FarS s W v W' v'
theorem copy_leafs {W : World} {ok : Nat → Prop} {l : List Val} {cs : List (List Value)} (h : CopyTo W ok l cs) (hl : ∀ v ∈ l, v.l = []) (W' : World) : CopyTo W' (fun _ => False) l cs := fun i hi => by
  obtain ⟨h', A, c, e1, e2, -⟩ := h i hi
  exact ⟨h', A, c, e1, e2, by rw [hl _ (List.getElem_mem h')]; exact SliceR.nil _ _ _⟩
theorem copy_two {W : World} {ok : Nat → Prop} {l : List Val} {cs : List (List Value)} (h : CopyTo W ok l cs) (hl : cs.length = l.length) (a b : Val) (ha : a.l = []) (hb : b.l = []) : CopyTo W ok (l ++ [a, b]) (cs ++ [a.cells none 0, b.cells none 0]) := fun i hi => by
  have hi2 : i < cs.length + 2 := by simpa using hi
  by_cases h1 : i < cs.length
  · obtain ⟨h', A, c, e1, e2, e3⟩ := h i h1
    refine ⟨by simp; omega, A, c, ?_, ?_, ?_⟩
    · rw [List.getElem_append_left h1, e1, List.getElem_append_left h']
    · rw [List.getElem_append_left h']; exact e2
    · rw [List.getElem_append_left h']; exact e3
  · have h3 : i = cs.length ∨ i = cs.length + 1 := by omega
    rcases h3 with rfl | rfl
    · refine ⟨by simp; omega, none, 0, ?_, ?_, ?_⟩
      · simp [hl]
      · simp [hl, ha]
      · simp only [hl, List.getElem_append_right (Nat.le_refl _), Nat.sub_self, List.getElem_cons_zero, ha]; exact SliceR.nil _ _ _
    · refine ⟨by simp; omega, none, 0, ?_, ?_, ?_⟩
      · simp [hl]
      · simp [hl, hb]
      · have e : (l ++ [a, b])[cs.length + 1]'(by simp; omega) = b := by simp [hl]
        rw [e, hb]; exact SliceR.nil _ _ _
/-- the longer path, in its new block -/
theorem long_vals {W W' : World} {ok : Nat → Prop} {s0 : Int} {h : List Hop} {cs : List (List Value)} {v : Value} {base m : Nat} (hc : CopyTo W ok (elsP s0 h) cs) (hl : cs.length = (elsP s0 h).length) (x : Hop) (hm : m = 2 * h.length) (h12 : m ≤ 1000) (hO : W'.ownsRow base 37 5 v (m + 1 + 2) (cs.flatten ++ ((edgeV x.1).cells none 0 ++ (nodeV x.2).cells none 0))) :
    ∃ L c, v = .slice L (m + 2 + 1) c ∧ m + 2 + 1 ≤ c ∧ Vals W' (fun b => base ≤ b) L (elsP s0 (h ++ [x])) := by
  have h1 := copy_two (copy_leafs hc (els_leafs s0 h) W') hl (edgeV x.1) (nodeV x.2) rfl rfl
  rw [← elsP_snoc] at h1
  have hlen : (elsP s0 (h ++ [x])).length = m + 2 + 1 := by rw [elsP_len, List.length_append, List.length_singleton]; omega
  obtain ⟨L, c, e, h2, h3⟩ := h1.done (base := base) (v := v) (by
    rw [hlen, List.flatten_append]
    have : [(edgeV x.1).cells none 0, (nodeV x.2).cells none 0].flatten = (edgeV x.1).cells none 0 ++ (nodeV x.2).cells none 0 := by simp
    rw [this, show m + 2 + 1 = m + 1 + 2 by omega]; exact hO) (by rw [hlen, List.length_append, hl, elsP_len, hm]; simp) (by rw [hlen]; omega) (fun b hb => hb.elim)
  exact ⟨L, c, by rw [e, hlen], by rw [← hlen]; exact h2, h3⟩
/-- two values appended to a path at full capacity -/
theorem visit_long {W w8 : World} {ok : Nat → Prop} {s0 : Int} {h : List Hop} {cs : List (List Value)} {m bl ol : Nat} (hc : CopyTo W ok (elsP s0 h) cs) (hl : cs.length = (elsP s0 h).length) (hcf : ∀ j u, cs.flatten[j]? = some u → W.cell? ((⟨bl, ol, none⟩ : Addr).add j) = some u) (x : Hop) (hm : m = 2 * h.length) (h12 : m ≤ 1000) (hx : Ext W w8) :
    ∃ L c w10, (Builtin.append_ #[32, 32] 32 #[.slice (some ⟨bl, ol, none⟩) (m + 1) (m + 1), .slice (some ⟨w8.heap.size, 0, none⟩) 2 2]).run Tryz.prog (w8.alloc (.cells #[.int .i64 6, .int .i64 x.1, .int .i64 0, .string ByteArray.empty, .slice none 0 0, .int .i64 5, .int .i64 x.2, .int .i64 0, .string ByteArray.empty, .slice none 0 0] 37)) = .ok (.slice L (m + 2 + 1) c) w10 ∧ m + 2 + 1 ≤ c ∧ Vals w10 (fun b => W.heap.size ≤ b) L (elsP s0 (h ++ [x])) ∧ Ext w8 w10 := by
  obtain ⟨v, w10, hr, hO, hx10⟩ := run_appendFull (P := Tryz.prog) T_val 32 (w8.alloc (.cells #[.int .i64 6, .int .i64 x.1, .int .i64 0, .string ByteArray.empty, .slice none 0 0, .int .i64 5, .int .i64 x.2, .int .i64 0, .string ByteArray.empty, .slice none 0 0] 37)) ⟨bl, ol, none⟩ (m + 1) cs.flatten (by rw [flatten_len hc.size, hl, elsP_len, hm]) (fun j u hu => ((Ext.refl w8).alloc _).cell (hx.cell (hcf j u hu))) ⟨w8.heap.size, 0, none⟩ 2 2 ((edgeV x.1).cells none 0 ++ (nodeV x.2).cells none 0) rfl (fun j u hu => by
    rw [Addr.add_mid, cell_of_row _ _ _ _ _ _ (heap_alloc_new w8 _)]
    rw [Nat.zero_add, List.getElem?_toArray]; exact hu) (by decide) (by omega) (by decide)
  obtain ⟨L, c, rfl, h2, h3⟩ := long_vals hc hl x hm h12 hO
  exact ⟨L, c, w10, hr, h2, h3.to (fun b hb => Nat.le_trans hx.le (Nat.le_trans (Nat.le_trans (Nat.le_succ _) (by simp)) hb)), ((Ext.refl _).alloc _).trans hx10⟩
theorem fm_bound {α β : Type} [Inhabited α] (F : α → List β) {S : List α} {i : Nat} (hi : i < S.length) : ((S.take i).flatMap F).length + (F S[i]!).length ≤ (S.flatMap F).length := by
  conv => rhs; rw [← List.take_append_drop i S]
  rw [List.flatMap_append, List.length_append, List.drop_eq_getElem_cons hi, List.flatMap_cons, List.length_append, getElem!_pos S i hi]; omega
theorem fm_take {α β : Type} [Inhabited α] (F : α → List β) {S : List α} {i : Nat} (hi : i < S.length) : (S.take (i + 1)).flatMap F = (S.take i).flatMap F ++ F S[i]! := by
  rw [List.take_succ_eq_append_getElem hi, List.flatMap_append, List.flatMap_singleton, getElem!_pos S i hi]
theorem box_adj (w : World) (x : Sh) (t : TypeId) : ∃ (q : Nat) (w1 : World), q = w.heap.size ∧ w1 = w.alloc (.cells #[.int .i64 x.id, .int .i64 x.n, .int .i64 x.d] t) ∧ (w1.cell? ⟨q, 0, none⟩ = some (.int .i64 x.id) ∧ w1.cell? ⟨q, 1, none⟩ = some (.int .i64 x.n) ∧ w1.cell? ⟨q, 2, none⟩ = some (.int .i64 x.d)) ∧ Ext w w1 :=
  ⟨_, _, rfl, rfl, ⟨by go_simp, by go_simp, by go_simp⟩, (Ext.refl _).alloc _⟩
theorem two_cells {W : World} {b : Nat} {e f : Int} (h : ∀ j : Nat, j < 10 → W.cell? ⟨b, j, none⟩ = (((edgeV e).cells none 0 ++ (nodeV f).cells none 0)[j]?)) : ∀ (j : Nat) u, ((edgeV e).cells none 0 ++ (nodeV f).cells none 0)[j]? = some u → W.cell? ((⟨b, 0, none⟩ : Addr).add j) = some u := fun j u hu => by
  rw [Addr.add_mid, Nat.zero_add, h j (List.getElem?_eq_some_iff.1 hu).1]; exact hu
theorem Shares.to' {w : World} {ok ok' : Nat → Prop} {A : Option Addr} {l : List Sh} (h : Shares w ok A l) (ho : ∀ b, ok b → ok' b) : Shares w ok' A l := SliceR.mono h (fun _ _ _ _ hx => ⟨ho _ hx.1, hx.2⟩)
set_option maxRecDepth 100000 in
set_option maxHeartbeats 12800000 in
theorem p_visitStep (w0 : World) (s : Nat) (A : Option Addr) (c : Nat) (B : Option Addr) (d : Nat) (T : Option Addr) (e : Nat) (g : GraphG) (types : List ByteArray) (dir mode mn : Int) (mx : Nat) (s0 : Int) (ok ok' : Nat → Prop) (hgd : GoodG g) (hE : Edges w0 ok B g.edges) (hT : Strs w0 ok' T types) (h6 : mx ≤ 6) (f : Nat) (ih : ∀ f', f = f' + 1 → VisitAt w0 s A c B d T e g types dir mode mn mx s0 f') : VisitAt w0 s A c B d T e g types dir mode mn mx s0 f := by
  intro h W v hs L cl m hm hf hr hst hcl hV hbd
  have hlen : (elsP s0 h).length = m + 1 := by rw [elsP_len, hm]
  have HAL := Lib.hid (fun V (e : Ext W V) => (by have := p_allowed (elsP s0 h) mode _ L cl V (by rw [hlen]; omega) (by omega) (hV.ext e) (els_id hr); rwa [allow_els, hlen] at this : Calls Tryz.prog 36 #[.slice L (m + 1) cl, .int .i64 mode] V fun e w' => e = .returned (.bool (allowH s0 h mode)) ∧ Ext V w'))
  have HPV := Lib.hid (fun V (e : Ext W V) => v_PathV (elsP s0 h) _ L cl V (by rw [wtL_leafs (els_leafs s0 h), hlen]; omega) (hV.ext e))
  have HD0 := Lib.hid (fun (hal : allowH s0 h mode = false) => dfs_no mode s0 (stepsL g types dir) mn f h hal)
  obtain ⟨bl, ol, rfl, hcells⟩ := hV.atB (i := 0) (by omega)
  obtain ⟨⟨hbs, hbv⟩, A', c', ⟨-, hla, -⟩, -⟩ := hcells m (by omega)
  have hlast : (elsP s0 h)[m]!.n = lastP s0 h := by rw [hm, elsP_node (Nat.le_refl _), lastP_node]; rfl
  rw [hlast] at hla
  have HST := Lib.hid hst
  have hsW : s < W.heap.size := block_lt_of_cell hst.at_.c0
  have HB0 := Lib.hid (show s + 1 ≤ W.heap.size by omega)
  have HHF := Lib.hid hf
  have HHM := Lib.hid hm
  have HR := Lib.hid hr
  have HV0 := Lib.hid hV
  have HLEN := Lib.hid hlen
  have HBD := Lib.hid hbd
  have HBS := Lib.hid hbs
  have HBV := Lib.hid hbv
  have HLA := Lib.hid hla
  obtain ⟨c0, c1, c2, c3, c4, c5, c6, c7, c8, c9, fz⟩ := hst.at_
  have hkb : hs.length + 1 ≤ 8388608 := by omega
  have hn6 : h.length ≤ 6 := by omega
  have hm8 : m + 1 ≤ 8000000 := by omega
  obtain ⟨n, hn⟩ : ∃ n, n = h.length := ⟨_, rfl⟩
  have hq : ((m : Int) + 1) / 2 = (n : Int) := by omega
  have HQ := Lib.hid hq
  obtain ⟨Av, cv, hve⟩ := OwnG.form hst.own
  subst hve
  have HN := Lib.hid hn
  clear hst hV hcells hbs hbv hla hlast hm hf hr hlen hbd hn6 hn c0 c1 c2 c3 c4 c5 c8
  go_enter Tryz.func25, Tryz.ntmps25
  cases hal : allowH s0 h mode
  · rw [hal] at HAL
    have HD := Lib.hid (HD0.out hal)
    clear hal
    go_wp2_with (go_at_call 36; ((with_reducible refine (HAL.out _ (Ext.refl _)).mono ?_); rintro r w1 ⟨rfl, hx1⟩))
    (try simp only [Exit.inBlock, Exit.then]); refine bodyPost_ret (results_none rfl _ _ _) rfl ?_
    exact ⟨rfl, (.slice Av hs.length cv), [], by rw [List.append_nil]; exact HST.out.exts hx1, by rw [HD.out]; rfl, FarS.of_ext (.slice Av hs.length cv) hx1⟩
  · rw [hal] at HAL
    have HAW := Lib.hid hal
    clear hal HD0
    go_upto_if 22 with (go_at_call 36; ((with_reducible refine (HAL.out _ (Ext.refl _)).mono ?_); rintro r w1 ⟨rfl, hx1⟩; replace c7 := hx1.cell c7; replace c9 := hx1.cell c9))
    have HX1 := Lib.hid hx1
    go_cut [4] from 5 to 78 (fun x4 wx => x4 = .int .i64 (n : Int) ∧ ∃ (v1 : Value) (hs1 : List HV), Hid (SrcSt w0 s A c B d T e g types.length dir mode mn (mx : Int) wx v1 (hs ++ hs1)) ∧ Hid (hs1.map HV.v = (if mn ≤ (n : Int) then [h] else []).map (fun h => pathV (elsP s0 h))) ∧ Hid (FarS s W (.slice Av hs.length cv) wx v1))
    case first =>
      clear hq
      by_cases hmn : mn ≤ (n : Int)
      · have HMN := Lib.hid hmn
        go_upto_region 3 with (fail)
        have fz1 := frz_ext hx1 HST.out.at_.c9 HST.out.at_.fz
        replace HST := Lib.hid (HST.out.exts hx1)
        replace HB0 := Lib.hid (Nat.le_trans HB0.out hx1.le)
        have HB1 := Lib.hid (fun b (hb : w1.heap.size ≤ b) => (Nat.le_trans HB0.out hb : okS s b))
        replace HPV := Lib.hid (fun V (e : Ext w1 V) => HPV.out V (hx1.trans e))
        have MK3 := Lib.hid (fun V (e : Ext w1 V) => (⟨e.cell c9, frz_ext e c9 fz1⟩ : V.cell? ⟨s, 9, none⟩ = some (.slice Av hs.length cv) ∧ V.frozen? ⟨s, 9, none⟩ = false))
        obtain ⟨l, hl⟩ : ∃ l, l = elsP s0 h := ⟨_, rfl⟩
        have HLV := Lib.hid (show pathV l = pathV (elsP s0 h) by rw [hl])
        have hll : l.length = m + 1 := by rw [hl]; exact HLEN.out
        rw [← hl] at HPV
        have HLL := Lib.hid hll
        simp only [agV, pathV, Val.kind, Val.n, Val.d, Val.s, Val.l] at HPV
        rw [hll] at HPV
        clear hx1 hl hll hmn c7 HAL fz
        refine AnyE.start (S := (fun V => V.cell? ⟨s, 9, none⟩ = some (.slice Av hs.length cv) ∧ V.frozen? ⟨s, 9, none⟩ = false)) (E := 8) (by kernel_rfl) ?hs7001 (fun hHeld => ?go7001)
        case hs7001 => (exact MK3.out _ (by solve_by_elim [X0, X1, X2, X3]))
        refine AnyE.takeP (i := 0) (oi := ⟨_, _, _, _, _, _⟩) (v := ?v7002) rfl (by kernel_rfl) (by kernel_rfl) (by kernel_rfl) (fun _ _ _ h => h) rfl (Or.inl ⟨rfl, ?hy7002⟩) (fun _ => hHeld) ?_
        case hy7002 => (intro w _; go_simp <;> rfl)
        (try simp only [PU])
        refine AnyE.takeP (i := 1) (oi := ⟨_, _, _, _, _, _⟩) (v := ?v7003) rfl (by kernel_rfl) (by kernel_rfl) (by kernel_rfl) (fun _ _ _ h => h) rfl (Or.inl ⟨rfl, ?hy7003⟩) (fun _ => hHeld) ?_
        case hy7003 => (intro w _; go_simp <;> first | with_reducible rfl | rw [if_neg (by omega)] | rw [if_pos (by omega)])
        (try simp only [PU])
        refine AnyE.takeP (i := 2) (oi := ⟨_, _, _, _, _, _⟩) (v := ?v7004) rfl (by kernel_rfl) (by kernel_rfl) (by kernel_rfl) (fun _ _ _ h => h) rfl (Or.inl ⟨rfl, ?hy7004⟩) (fun _ => hHeld) ?_
        case hy7004 => (intro w _; go_simp <;> rfl)
        (try simp only [PU])
        refine AnyE.take (i := 3) (oi := ⟨_, _, _, _, _, _⟩) (v := ?v7005) rfl (by kernel_rfl) (by kernel_rfl) (by kernel_rfl) (fun _ _ _ h => h) (by kernel_rfl) rfl (by kernel_rfl) (Or.inl ⟨rfl, ?hy7005⟩) hHeld ?_
        case hy7005 => (intro w hSw; (try dsimp only at hSw); go_simp <;> first | with_reducible rfl | rw [if_neg (by omega)] | rw [if_pos (by omega)])
        (try simp only [PU])
        refine AnyE.takeP (i := 4) (oi := ⟨_, _, _, _, _, _⟩) (v := ?v7006) rfl (by kernel_rfl) (by kernel_rfl) (by kernel_rfl) (fun _ _ _ h => h) rfl (Or.inl ⟨rfl, ?hy7006⟩) (fun _ => hHeld) ?_
        case hy7006 => (intro w _; go_simp <;> rfl)
        (try simp only [PU])
        refine AnyE.takeP (i := 6) (oi := ⟨_, _, _, _, _, _⟩) (v := ?v7007) rfl (by kernel_rfl) (by kernel_rfl) (by kernel_rfl) (fun _ _ _ h => h) rfl (Or.inl ⟨rfl, ?hy7007⟩) (fun _ => hHeld) ?_
        case hy7007 => (intro w _; go_simp <;> first | with_reducible rfl | rw [if_neg (by omega)] | rw [if_pos (by omega)])
        (try simp only [PU])
        refine AnyE.ready (rs := [5, 7]) (by kernel_rfl) (by simp) ?_
        refine AllE.cons (o := ⟨_, _, _, _, _, _⟩) rfl (fun K hK => ?step7008x0) ?more7008x0
        case more7008x0 =>
          refine AllE.cons (o := ⟨_, _, _, _, _, _⟩) rfl (fun K hK => ?step7008x1) ?more7008x1
          case more7008x1 => exact AllE.nil
          go_simp
          refine hK.out _ _ ?hS7008x1 (fun H7008 => ?_)
          case hS7008x1 => intro _; first | (exact MK3.out _ (by solve_by_elim [X0, X1, X2, X3])) | ((try dsimp only); (exact MK3.out _ (by solve_by_elim [X0, X1, X2, X3])))
          clear hK K
          clear hHeld
          (try simp only [PU])
          refine AnyE.ready (rs := [5]) (by kernel_rfl) (by simp) ?_
          refine AllE.cons (o := ⟨_, _, _, _, _, _⟩) rfl (fun K hK => ?step7009x0) ?more7009x0
          case more7009x0 => exact AllE.nil
          go_simp
          (refine (HPV.out _ (by solve_by_elim [X0, X1, X2, X3])).mono ?_; rintro r w5 ⟨A5, c5, rfl, hc5, hV5, hx5⟩; have zz0 := hx5.cell (p := ⟨w1.drew.heap.size, 0, none⟩) (v := .int .i64 0) (by go_simp); have zz1 := hx5.cell (p := ⟨w1.drew.heap.size, 1, none⟩) (v := .int .i64 0) (by go_simp); have zz2 := hx5.cell (p := ⟨w1.drew.heap.size, 2, none⟩) (v := .int .i64 0) (by go_simp); have zz3 := hx5.cell (p := ⟨w1.drew.heap.size, 3, none⟩) (v := .string ⟨#[]⟩) (by go_simp); have zz4 := hx5.cell (p := ⟨w1.drew.heap.size, 4, none⟩) (v := .slice none 0 0) (by go_simp); replace hV5 := hV5.to (ok' := fun b => w1.heap.size ≤ b) (fun b hb => Nat.le_trans (Ext.le (a := w1) (by solve_by_elim [X0, X1, X2, X3])) hb); replace hx5 : Ext w1 w5 := Ext.trans (by solve_by_elim [X0, X1, X2, X3]) hx5)
          refine hK.out _ _ ?hS7009x0 (fun H7009 => ?_)
          case hS7009x0 => intro _; first | (exact MK3.out _ (by solve_by_elim [X0, X1, X2, X3])) | ((try dsimp only); (exact MK3.out _ (by solve_by_elim [X0, X1, X2, X3])))
          clear hK K
          clear H7008
          (try simp only [PU])
          refine AnyE.ready (rs := [8]) (by kernel_rfl) (by simp) ?_
          refine AllE.cons (o := ⟨_, _, _, _, _, _⟩) rfl (fun K hK => ?step7010x0) ?more7010x0
          case more7010x0 => exact AllE.nil
          (refine step_pushAt T_hv rfl (.tmp 26) (.tmp 30) rfl rfl (OwnG.ext HST.out.own (Ext.trans hx5 (Ext.refl w5))) (Nat.le_trans HB0.out (Ext.le (hx5.trans (Ext.refl w5)))) zHV ⟨Nat.le_refl _, SliceR.nil _ _ _⟩ ⟨_, 0, none⟩ 1 rfl (zero_cells zz0 zz1 zz2 zz3 zz4) hkb (by decide) ?_; intro v9 w9 hO9 hg9 hd9; have hxA := hx5.trans (Ext.refl w5); have hV9 := hV5.keep' (w' := w9) (ok' := fun b => okS s b ∧ some b ≠ v9.ownBlock) (fun b o y hb hc => ⟨hg9.cell ((Ext.refl w5).cell hc) (fun e2 => by have h1 : b < w1.heap.size := (OwnG.lt HST.out.own e2.symm).2; omega), HB1.out b hb, fun e2 => by have h4 : b < w5.heap.size := block_lt_of_cell hc; rcases hd9 with e3 | e3 <;> rw [e3] at e2 <;> first | (have h1 : b < w1.heap.size := (OwnG.lt HST.out.own e2.symm).2; omega) | (have h1 := Option.some.inj e2; first | omega | (simp at h1; omega))⟩); obtain ⟨g9, cp9, rfl, hb9, hcp9, ⟨q0, q1, q2, q3, q4⟩, ⟨f0, f1, f2, f3, f4⟩, k9, kf, ⟨W10, hW10, k10, kf10, W11, hW11, hS11, hF11⟩, ⟨Y9, hY9, ⟨y0, y1, y2, y3, y4⟩, ⟨yf0, yf1, yf2, yf3, yf4⟩, Y11, hY11, hSY, hFY⟩⟩ := HST.out.push_all hxA hg9 hd9 hO9 A5 c5 l (m + 1) HLL.out hc5 hV9; have HS11 := Lib.hid hS11; have HF11 := Lib.hid hF11; have HSY := Lib.hid hSY; have HFY := Lib.hid hFY; have hil : hs.length < hs.length + 1 := (by omega); clear hO9 hS11 hF11 hSY hFY hV5 hV9 hg9 hd9)
          refine hK.out _ _ ?hS7010x0 (fun H7010 => ?_)
          case hS7010x0 => first | (intro h; exact absurd h (by decide)) | (intro h; simp at h)
          clear hK K
          clear H7009
          (try simp only [PU])
          refine AnyE.takeP (i := 9) (oi := ⟨_, _, _, _, _, _⟩) (v := ?v7011) rfl (by kernel_rfl) (by kernel_rfl) (by kernel_rfl) (fun _ _ _ h => h) rfl (Or.inl ⟨rfl, ?hy7011⟩) (by first | (intro h; exact absurd h (by decide)) | (intro h; simp at h)) ?_
          case hy7011 => (intro w _; go_simp <;> first | with_reducible rfl | rw [if_neg (by omega)] | rw [if_pos (by omega)])
          (try simp only [PU])
          refine AnyE.takeP (i := 11) (oi := ⟨_, _, _, _, _, _⟩) (v := ?v7012) rfl (by kernel_rfl) (by kernel_rfl) (by kernel_rfl) (fun _ _ _ h => h) rfl (Or.inl ⟨rfl, ?hy7012⟩) (by first | (intro h; exact absurd h (by decide)) | (intro h; simp at h)) ?_
          case hy7012 => (intro w _; go_simp <;> first | with_reducible rfl | rw [if_neg (by omega)] | rw [if_pos (by omega)])
          (try simp only [PU])
          refine AnyE.takeP (i := 12) (oi := ⟨_, _, _, _, _, _⟩) (v := ?v7013) rfl (by kernel_rfl) (by kernel_rfl) (by kernel_rfl) (fun _ _ _ h => h) rfl (Or.inl ⟨rfl, ?hy7013⟩) (by first | (intro h; exact absurd h (by decide)) | (intro h; simp at h)) ?_
          case hy7013 => (intro w _; go_simp <;> rfl)
          (try simp only [PU])
          refine AnyE.ready (rs := [10, 13]) (by kernel_rfl) (by simp) ?_
          refine AllE.cons (o := ⟨_, _, _, _, _, _⟩) rfl (fun K hK => ?step7014x0) ?more7014x0
          case more7014x0 =>
            refine AllE.cons (o := ⟨_, _, _, _, _, _⟩) rfl (fun K hK => ?step7014x1) ?more7014x1
            case more7014x1 => exact AllE.nil
            go_simp
            (rw [← hY9]; clear hY9)
            refine hK.out _ _ ?hS7014x1 (fun H7014 => ?_)
            case hS7014x1 => first | (intro h; exact absurd h (by decide)) | (intro h; simp at h)
            clear hK K
            clear H7010
            refine AnyE.ready (rs := [10]) (by kernel_rfl) (by simp) ?_
            refine AllE.cons (o := ⟨_, _, _, _, _, _⟩) rfl (fun K hK => ?step7015x0) ?more7015x0
            case more7015x0 => exact AllE.nil
            go_simp
            (rw [← hY11]; clear hY11)
            refine hK.out _ _ ?hS7015x0 (fun H7015 => ?_)
            case hS7015x0 => first | (intro h; exact absurd h (by decide)) | (intro h; simp at h)
            clear hK K
            clear H7014
            refine AnyE.done (by kernel_rfl) ?_ _
            clear H7015
            go_wp2_with fail
            go_meet
            case rel => exact ⟨congrArg (Value.int .i64) HQ.out, _, [⟨A5, c5, pathV l⟩], HSY, Lib.hid (by rw [if_pos HMN.out, HLV.out]; rfl), Lib.hid ((FarS.of_ext (.slice Av hs.length cv) HX1.out).trans HFY.out)⟩
          go_simp
          (rw [← hW10]; clear hW10)
          refine hK.out _ _ ?hS7014x0 (fun H7014 => ?_)
          case hS7014x0 => first | (intro h; exact absurd h (by decide)) | (intro h; simp at h)
          clear hK K
          clear H7010
          refine AnyE.ready (rs := [13]) (by kernel_rfl) (by simp) ?_
          refine AllE.cons (o := ⟨_, _, _, _, _, _⟩) rfl (fun K hK => ?step7016x0) ?more7016x0
          case more7016x0 => exact AllE.nil
          go_simp
          (rw [← hW11]; clear hW11)
          refine hK.out _ _ ?hS7016x0 (fun H7016 => ?_)
          case hS7016x0 => first | (intro h; exact absurd h (by decide)) | (intro h; simp at h)
          clear hK K
          clear H7014
          refine AnyE.done (by kernel_rfl) ?_ _
          clear H7016
          go_wp2_with fail
          go_meet
          case rel => exact ⟨congrArg (Value.int .i64) HQ.out, _, [⟨A5, c5, pathV l⟩], HS11, Lib.hid (by rw [if_pos HMN.out, HLV.out]; rfl), Lib.hid ((FarS.of_ext (.slice Av hs.length cv) HX1.out).trans HF11.out)⟩
        go_simp
        (refine (HPV.out _ (by solve_by_elim [X0, X1, X2, X3])).mono ?_; rintro r w5 ⟨A5, c5, rfl, hc5, hV5, hx5⟩; replace hV5 := hV5.to (ok' := fun b => w1.heap.size ≤ b) (fun b hb => Nat.le_trans (Ext.le (a := w1) (by solve_by_elim [X0, X1, X2, X3])) hb); replace hx5 : Ext w1 w5 := Ext.trans (by solve_by_elim [X0, X1, X2, X3]) hx5)
        refine hK.out _ _ ?hS7008x0 (fun H7008 => ?_)
        case hS7008x0 => intro _; first | (exact MK3.out _ (by solve_by_elim [X0, X1, X2, X3])) | ((try dsimp only); (exact MK3.out _ (by solve_by_elim [X0, X1, X2, X3])))
        clear hK K
        clear hHeld
        (try simp only [PU])
        refine AnyE.ready (rs := [7]) (by kernel_rfl) (by simp) ?_
        refine AllE.cons (o := ⟨_, _, _, _, _, _⟩) rfl (fun K hK => ?step7017x0) ?more7017x0
        case more7017x0 => exact AllE.nil
        go_simp
        refine hK.out _ _ ?hS7017x0 (fun H7017 => ?_)
        case hS7017x0 => intro _; first | (exact MK3.out _ (by solve_by_elim [X0, X1, X2, X3])) | ((try dsimp only); (exact MK3.out _ (by solve_by_elim [X0, X1, X2, X3])))
        clear hK K
        clear H7008
        (try simp only [PU])
        refine AnyE.ready (rs := [8]) (by kernel_rfl) (by simp) ?_
        refine AllE.cons (o := ⟨_, _, _, _, _, _⟩) rfl (fun K hK => ?step7018x0) ?more7018x0
        case more7018x0 => exact AllE.nil
        (refine step_pushAt T_hv rfl (.tmp 26) (.tmp 30) rfl rfl (OwnG.ext HST.out.own (Ext.trans hx5 ((Ext.refl w5).alloc (.cells #[.int .i64 0, .int .i64 0, .int .i64 0, .string ⟨#[]⟩, .slice none 0 0] 37)))) (Nat.le_trans HB0.out (Ext.le (hx5.trans ((Ext.refl w5).alloc (.cells #[.int .i64 0, .int .i64 0, .int .i64 0, .string ⟨#[]⟩, .slice none 0 0] 37))))) zHV ⟨Nat.le_refl _, SliceR.nil _ _ _⟩ ⟨_, 0, none⟩ 1 rfl (zero_cells (by go_simp) (by go_simp) (by go_simp) (by go_simp) (by go_simp)) hkb (by decide) ?_; intro v9 w9 hO9 hg9 hd9; have hxA := hx5.trans ((Ext.refl w5).alloc (.cells #[.int .i64 0, .int .i64 0, .int .i64 0, .string ⟨#[]⟩, .slice none 0 0] 37)); have hV9 := hV5.keep' (w' := w9) (ok' := fun b => okS s b ∧ some b ≠ v9.ownBlock) (fun b o y hb hc => ⟨hg9.cell (((Ext.refl w5).alloc (.cells #[.int .i64 0, .int .i64 0, .int .i64 0, .string ⟨#[]⟩, .slice none 0 0] 37)).cell hc) (fun e2 => by have h1 : b < w1.heap.size := (OwnG.lt HST.out.own e2.symm).2; omega), HB1.out b hb, fun e2 => by have h4 : b < w5.heap.size := block_lt_of_cell hc; rcases hd9 with e3 | e3 <;> rw [e3] at e2 <;> first | (have h1 : b < w1.heap.size := (OwnG.lt HST.out.own e2.symm).2; omega) | (have h1 := Option.some.inj e2; first | omega | (simp at h1; omega))⟩); obtain ⟨g9, cp9, rfl, hb9, hcp9, ⟨q0, q1, q2, q3, q4⟩, ⟨f0, f1, f2, f3, f4⟩, k9, kf, ⟨W10, hW10, k10, kf10, W11, hW11, hS11, hF11⟩, ⟨Y9, hY9, ⟨y0, y1, y2, y3, y4⟩, ⟨yf0, yf1, yf2, yf3, yf4⟩, Y11, hY11, hSY, hFY⟩⟩ := HST.out.push_all hxA hg9 hd9 hO9 A5 c5 l (m + 1) HLL.out hc5 hV9; have HS11 := Lib.hid hS11; have HF11 := Lib.hid hF11; have HSY := Lib.hid hSY; have HFY := Lib.hid hFY; have hil : hs.length < hs.length + 1 := (by omega); clear hO9 hS11 hF11 hSY hFY hV5 hV9 hg9 hd9)
        refine hK.out _ _ ?hS7018x0 (fun H7018 => ?_)
        case hS7018x0 => first | (intro h; exact absurd h (by decide)) | (intro h; simp at h)
        clear hK K
        clear H7017
        (try simp only [PU])
        refine AnyE.takeP (i := 9) (oi := ⟨_, _, _, _, _, _⟩) (v := ?v7019) rfl (by kernel_rfl) (by kernel_rfl) (by kernel_rfl) (fun _ _ _ h => h) rfl (Or.inl ⟨rfl, ?hy7019⟩) (by first | (intro h; exact absurd h (by decide)) | (intro h; simp at h)) ?_
        case hy7019 => (intro w _; go_simp <;> first | with_reducible rfl | rw [if_neg (by omega)] | rw [if_pos (by omega)])
        (try simp only [PU])
        refine AnyE.takeP (i := 11) (oi := ⟨_, _, _, _, _, _⟩) (v := ?v7020) rfl (by kernel_rfl) (by kernel_rfl) (by kernel_rfl) (fun _ _ _ h => h) rfl (Or.inl ⟨rfl, ?hy7020⟩) (by first | (intro h; exact absurd h (by decide)) | (intro h; simp at h)) ?_
        case hy7020 => (intro w _; go_simp <;> first | with_reducible rfl | rw [if_neg (by omega)] | rw [if_pos (by omega)])
        (try simp only [PU])
        refine AnyE.takeP (i := 12) (oi := ⟨_, _, _, _, _, _⟩) (v := ?v7021) rfl (by kernel_rfl) (by kernel_rfl) (by kernel_rfl) (fun _ _ _ h => h) rfl (Or.inl ⟨rfl, ?hy7021⟩) (by first | (intro h; exact absurd h (by decide)) | (intro h; simp at h)) ?_
        case hy7021 => (intro w _; go_simp <;> rfl)
        (try simp only [PU])
        refine AnyE.ready (rs := [10, 13]) (by kernel_rfl) (by simp) ?_
        refine AllE.cons (o := ⟨_, _, _, _, _, _⟩) rfl (fun K hK => ?step7022x0) ?more7022x0
        case more7022x0 =>
          refine AllE.cons (o := ⟨_, _, _, _, _, _⟩) rfl (fun K hK => ?step7022x1) ?more7022x1
          case more7022x1 => exact AllE.nil
          go_simp
          (rw [← hY9]; clear hY9)
          refine hK.out _ _ ?hS7022x1 (fun H7022 => ?_)
          case hS7022x1 => first | (intro h; exact absurd h (by decide)) | (intro h; simp at h)
          clear hK K
          clear H7018
          refine AnyE.ready (rs := [10]) (by kernel_rfl) (by simp) ?_
          refine AllE.cons (o := ⟨_, _, _, _, _, _⟩) rfl (fun K hK => ?step7023x0) ?more7023x0
          case more7023x0 => exact AllE.nil
          go_simp
          (rw [← hY11]; clear hY11)
          refine hK.out _ _ ?hS7023x0 (fun H7023 => ?_)
          case hS7023x0 => first | (intro h; exact absurd h (by decide)) | (intro h; simp at h)
          clear hK K
          clear H7022
          refine AnyE.done (by kernel_rfl) ?_ _
          clear H7023
          go_wp2_with fail
          go_meet
          case rel => exact ⟨congrArg (Value.int .i64) HQ.out, _, [⟨A5, c5, pathV l⟩], HSY, Lib.hid (by rw [if_pos HMN.out, HLV.out]; rfl), Lib.hid ((FarS.of_ext (.slice Av hs.length cv) HX1.out).trans HFY.out)⟩
        go_simp
        (rw [← hW10]; clear hW10)
        refine hK.out _ _ ?hS7022x0 (fun H7022 => ?_)
        case hS7022x0 => first | (intro h; exact absurd h (by decide)) | (intro h; simp at h)
        clear hK K
        clear H7018
        refine AnyE.ready (rs := [13]) (by kernel_rfl) (by simp) ?_
        refine AllE.cons (o := ⟨_, _, _, _, _, _⟩) rfl (fun K hK => ?step7024x0) ?more7024x0
        case more7024x0 => exact AllE.nil
        go_simp
        (rw [← hW11]; clear hW11)
        refine hK.out _ _ ?hS7024x0 (fun H7024 => ?_)
        case hS7024x0 => first | (intro h; exact absurd h (by decide)) | (intro h; simp at h)
        clear hK K
        clear H7022
        refine AnyE.done (by kernel_rfl) ?_ _
        clear H7024
        go_wp2_with fail
        go_meet
        case rel => exact ⟨congrArg (Value.int .i64) HQ.out, _, [⟨A5, c5, pathV l⟩], HS11, Lib.hid (by rw [if_pos HMN.out, HLV.out]; rfl), Lib.hid ((FarS.of_ext (.slice Av hs.length cv) HX1.out).trans HF11.out)⟩
      · have HMN := Lib.hid hmn
        go_wp2_with fail
        go_meet
        case rel => exact ⟨congrArg (Value.int .i64) HQ.out, (.slice Av hs.length cv), [], Lib.hid (by rw [List.append_nil]; exact HST.out.exts hx1), Lib.hid (by rw [if_neg (show ¬ mn ≤ (n : Int) by have := HMN.out; omega)]; rfl), Lib.hid (FarS.of_ext (.slice Av hs.length cv) hx1)⟩
    case rest =>
      obtain ⟨rfl, v1, hs1, HS1, HM1, HF1⟩ := hcut
      clear HX1 HAL hx1 c6 c7 c9 fz HPV HB0
      obtain ⟨c0, c1, c2, c3, c4, c5, -, -, c8, -, -⟩ := HS1.out.at_
      cases f with
      | zero =>
        have hnm : n = mx := by have := HHF.out; have := HN.out; omega
        go_wp2_with fail
        (try simp only [Exit.inBlock, Exit.then]); refine bodyPost_ret (results_none rfl _ _ _) rfl ?_
        exact ⟨rfl, v1, hs1, HS1.out, by rw [HM1.out, dfsP, if_pos HAW.out, HN.out], HF1.out⟩
      | succ f' =>
        have hnm : ¬ n = mx := by have := HHF.out; have := HN.out; omega
        have heq : ((n : Int) == (mx : Int)) = false := by simp; omega
        have hla := (HF1.out.cell (fun e => by have h1 := HBS.out; rw [e] at h1; unfold okS at h1; omega) HBV.out HLA.out).1
        have HSTP := Lib.hid (fun V (e' : Ext wc V) => gr_Steps g types (lastP s0 h) dir ok ok' A B T c d e V (hE.ext (HS1.out.ext.trans e')) (hT.ext (HS1.out.ext.trans e')) (by have := hgd.elen; omega))
        have HSM := Lib.hid (fun a (ha : a ∈ stepsL g types dir (lastP s0 h)) => hops_rng hgd ((stepsL_perm g types dir (lastP s0 h)).mem_iff.1 ha))
        obtain ⟨S, hS⟩ : ∃ S, S = stepsL g types dir (lastP s0 h) := ⟨_, rfl⟩
        obtain ⟨la, hla2⟩ : ∃ la, la = lastP s0 h := ⟨_, rfl⟩
        have HSD := Lib.hid (show dfsP mode s0 (stepsL g types dir) mn (f' + 1) h = (if mn ≤ (n : Int) then [h] else []) ++ S.flatMap (fun a => dfsP mode s0 (stepsL g types dir) mn f' (h ++ [a])) by rw [dfsP, if_pos HAW.out, hS, HN.out])
        rw [← hS] at HSM HSTP
        rw [← hla2] at HSTP hla
        have HIH := Lib.hid (ih f' rfl)
        have MK5 := Lib.hid (fun V (e' : Ext wc V) => (⟨⟨e'.cell c0, e'.cell c1, e'.cell c2, e'.cell c3⟩, e'.cell c4, e'.cell c5, e'.cell hla⟩ : (V.cell? ⟨s, 0, none⟩ = some (.slice A g.nodes.length c) ∧ V.cell? ⟨s, 1, none⟩ = some (.slice B g.edges.length d) ∧ V.cell? ⟨s, 2, none⟩ = some (.int .i64 g.nn) ∧ V.cell? ⟨s, 3, none⟩ = some (.int .i64 g.ne)) ∧ V.cell? ⟨s, 4, none⟩ = some (.slice T types.length e) ∧ V.cell? ⟨s, 5, none⟩ = some (.int .i64 dir) ∧ V.cell? ⟨bl, ol + m * 5 + 1, none⟩ = some (.int .i64 la)))
        have HSL := Lib.hid (show S.length ≤ 4000 by rw [hS]; have := stepsL_len g types dir (lastP s0 h); have := hgd.elen; omega)
        have HSW := Lib.hid (show s < wc.heap.size from block_lt_of_cell c0)
        have wm : IntKind.i64.wrap (m : Int) = (m : Int) := by rw [IntKind.wrap_i64]; omega
        clear hS hla2 hE hT ih hgd hq
        go_upto_region 5 with (fail)
        clear c0 c1 c2 c3 c4 c5 c8 hla
        refine wp_region_held_drew (S := (fun V => (V.cell? ⟨s, 0, none⟩ = some (.slice A g.nodes.length c) ∧ V.cell? ⟨s, 1, none⟩ = some (.slice B g.edges.length d) ∧ V.cell? ⟨s, 2, none⟩ = some (.int .i64 g.nn) ∧ V.cell? ⟨s, 3, none⟩ = some (.int .i64 g.ne)) ∧ V.cell? ⟨s, 4, none⟩ = some (.slice T types.length e) ∧ V.cell? ⟨s, 5, none⟩ = some (.int .i64 dir) ∧ V.cell? ⟨bl, ol + m * 5 + 1, none⟩ = some (.int .i64 la))) (by kernel_rfl) ?hs7025 (fun hHeld => ?go7025)
        case hs7025 => (exact MK5.out _ (by solve_by_elim [X0, X1, X2, X3]))
        refine TK 0 (v := ?v7026) hHeld ?hy7026 ?_
        case hy7026 => (intro w _; go_simp <;> rfl)
        (try simp only [PU])
        refine TK 1 (v := ?v7027) hHeld ?hy7027 ?_
        case hy7027 => (intro w _; go_simp <;> first | with_reducible rfl | rw [if_neg (by omega)] | rw [if_pos (by omega)])
        (try simp only [PU])
        refine TK 2 (v := ?v7028) hHeld ?hy7028 ?_
        case hy7028 => (intro w _; go_simp <;> rfl)
        (try simp only [PU])
        refine TK 3 (v := ?v7029) hHeld ?hy7029 ?_
        case hy7029 => (intro w hSw; (try dsimp only at hSw); go_simp <;> first | with_reducible rfl | rw [if_neg (by omega)] | rw [if_pos (by omega)])
        (try simp only [PU])
        refine TK 4 (v := ?v7030) hHeld ?hy7030 ?_
        case hy7030 => (intro w _; go_simp <;> rfl)
        (try simp only [PU])
        refine TK 5 (v := ?v7031) hHeld ?hy7031 ?_
        case hy7031 => (intro w _; go_simp <;> rfl)
        (try simp only [PU])
        refine TK 6 (v := ?v7032) hHeld ?hy7032 ?_
        case hy7032 => (intro w _; go_simp <;> first | with_reducible rfl | rw [if_neg (by omega)] | rw [if_pos (by omega)])
        (try simp only [PU])
        refine TK 7 (v := ?v7033) hHeld ?hy7033 ?_
        case hy7033 => (intro w _; go_simp <;> first | with_reducible rfl | rw [if_neg (by omega)] | rw [if_pos (by omega)])
        (try simp only [PU])
        refine TK 8 (v := ?v7034) hHeld ?hy7034 ?_
        case hy7034 => (intro w _; go_simp <;> first | with_reducible rfl | rw [if_neg (by omega)] | rw [if_pos (by omega)])
        (try simp only [PU])
        refine TK 9 (v := ?v7035) hHeld ?hy7035 ?_
        case hy7035 => (intro w _; go_simp <;> rfl)
        (try simp only [PU])
        refine TK 10 (v := ?v7036) hHeld ?hy7036 ?_
        case hy7036 => (intro w hSw; (try dsimp only at hSw); go_simp <;> first | with_reducible rfl | rw [if_neg (by omega)] | rw [if_pos (by omega)])
        (try simp only [PU])
        refine TK 11 (v := ?v7037) hHeld ?hy7037 ?_
        case hy7037 => (intro w _; go_simp <;> rfl)
        (try simp only [PU])
        refine TK 12 (v := ?v7038) hHeld ?hy7038 ?_
        case hy7038 => (intro w _; go_simp <;> first | with_reducible rfl | rw [if_neg (by omega)] | rw [if_pos (by omega)])
        (try simp only [PU])
        refine TK 13 (v := ?v7039) hHeld ?hy7039 ?_
        case hy7039 => (intro w _; go_simp <;> rfl)
        (try simp only [PU])
        refine TK 14 (v := ?v7040) hHeld ?hy7040 ?_
        case hy7040 => (intro w hSw; (try dsimp only at hSw); go_simp <;> first | with_reducible rfl | rw [if_neg (by omega)] | rw [if_pos (by omega)])
        (try simp only [PU])
        refine TK 15 (v := ?v7041) hHeld ?hy7041 ?_
        case hy7041 => (intro w _; go_simp <;> rfl)
        (try simp only [PU])
        refine TK 16 (v := ?v7042) hHeld ?hy7042 ?_
        case hy7042 => (intro w _; go_simp <;> first | with_reducible rfl | rw [if_neg (by omega)] | rw [if_pos (by omega)])
        (try simp only [PU])
        refine TK 17 (v := ?v7043) hHeld ?hy7043 ?_
        case hy7043 => (intro w _; go_simp <;> rfl)
        (try simp only [PU])
        refine TK 18 (v := ?v7044) hHeld ?hy7044 ?_
        case hy7044 => (intro w hSw; (try dsimp only at hSw); go_simp <;> first | with_reducible rfl | rw [if_neg (by omega)] | rw [if_pos (by omega)])
        (try simp only [PU])
        refine TK 21 (v := ?v7045) hHeld ?hy7045 ?_
        case hy7045 => (intro w _; go_simp <;> rfl)
        (try simp only [PU])
        refine wpAnyH_ready (rs := [19]) (by kernel_rfl) (by simp) ?_
        refine AllReadyH.cons (o := ⟨_, _, _, _, _, _⟩) rfl (fun K hK => ?step7046x0) ?more7046x0
        case more7046x0 => exact AllReadyH.nil
        go_simp
        (refine (HSTP.out _ (by solve_by_elim [X0, X1, X2, X3])).mono ?_; rintro r w4 ⟨A4, c4, rfl, hc4, hS4, hx4⟩; replace hS4 := hS4.to' (ok' := fun b => wc.heap.size ≤ b) (fun b hb => Nat.le_trans (Ext.le (a := wc) (by solve_by_elim [X0, X1, X2, X3])) hb); replace hx4 : Ext wc w4 := Ext.trans (by solve_by_elim [X0, X1, X2, X3]) hx4)
        refine hK.out _ _ ?hS7046x0 (fun H7046 => ?_)
        case hS7046x0 => first | (exact MK5.out _ (by solve_by_elim [X0, X1, X2, X3])) | ((try dsimp only); (exact MK5.out _ (by solve_by_elim [X0, X1, X2, X3])))
        clear hK K
        clear hHeld
        (try simp only [PU])
        refine TK 20 (v := ?v7047) H7046 ?hy7047 ?_
        case hy7047 => (intro w _; go_simp <;> first | with_reducible rfl | rw [if_neg (by omega)] | rw [if_pos (by omega)])
        (try simp only [PU])
        refine wpAnyH_done (by kernel_rfl) ?_ _
        clear H7046
        go_wp2_with fail
        have HS4 := Lib.hid hS4
        clear hS4
        clear MK5 HSTP heq hnm
        have hSl : S.length ≤ 8000000 := by have := HSL.out; omega
        go_loopw [62] (fun u V => ∃ (i : Nat) (v2 : Value) (hs2 : List HV), u = .int .i64 i ∧ i ≤ S.length ∧ Hid (SrcSt w0 s A c B d T e g types.length dir mode mn (mx : Int) V v2 (hs ++ hs1 ++ hs2)) ∧ Hid (hs2.map HV.v = ((S.take i).flatMap (fun a => dfsP mode s0 (stepsL g types dir) mn f' (h ++ [a]))).map (fun h => pathV (elsP s0 h))) ∧ Hid (FarS s w4 v1 V v2)) (fun u _ => S.length - (intOf u).toNat)
        case atStart => exact ⟨0, v1, [], rfl, Nat.zero_le _, Lib.hid (by rw [List.append_nil]; exact HS1.out.exts hx4), Lib.hid rfl, Lib.hid (FarS.refl _ _ _)⟩
        case round =>
          obtain ⟨i, v2, hs2, rfl, hi, HS2, HM2, HF2⟩ := hrel
          by_cases hlt : i < S.length
          · obtain ⟨bS, oS, rfl, hcS⟩ := HS4.out.at_ (i := i) (by rw [List.length_map]; exact hlt)
            obtain ⟨hbw, d0, d1, d2⟩ := hcS i (by rw [List.length_map]; exact hlt)
            have HAI := Lib.hid (show (S.map (adjOf la))[i]! = adjOf la S[i]! by rw [getElem!_pos _ i (by rw [List.length_map]; exact hlt), List.getElem_map, getElem!_pos S i hlt])
            rw [HAI.out] at d0 d1 d2
            have hsb : bS ≠ s := fun e => by have h1 := HSW.out; omega
            have hvb : some bS ≠ v1.ownBlock := fun e => by have h1 := (OwnG.lt HS1.out.own e.symm).2; omega
            replace d0 := (HF2.out.cell hsb hvb d0).1
            replace d1 := (HF2.out.cell hsb hvb d1).1
            replace d2 := (HF2.out.cell hsb hvb d2).1
            have HA := Lib.hid (HSM.out S[i]! (by rw [getElem!_pos S i hlt]; exact List.getElem_mem hlt))
            have HB2 := Lib.hid (fm_bound (fun a => dfsP mode s0 (stepsL g types dir) mn f' (h ++ [a])) hlt)
            have HT2 := Lib.hid (fm_take (fun a => dfsP mode s0 (stepsL g types dir) mn f' (h ++ [a])) hlt)
            have HF3 := Lib.hid ((HF1.out.trans (FarS.of_ext v1 hx4)).trans HF2.out)
            have hkL : ∀ b o y, (okS s b ∧ some b ≠ (Value.slice Av hs.length cv).ownBlock) → W.cell? ⟨b, o, none⟩ = some y → wr.cell? ⟨b, o, none⟩ = some y ∧ (okS s b ∧ some b ≠ v2.ownBlock) := fun b o y hb hc => by
              have h1 := HF3.out.cell (fun e => by have h2 := hb.1; rw [e] at h2; unfold okS at h2; omega) hb.2 hc
              exact ⟨h1.1, hb.1, h1.2⟩
            have hVr := HV0.out.keep' hkL
            obtain ⟨cs, hcl2, hct, hcf⟩ := hVr.flat
            generalize S[i]! = a at *
            obtain ⟨y, w7, hy, hw7, ⟨p0, p1, p2⟩, hx7⟩ := box_adj wr (adjOf la a) 65
            have HW7 := Lib.hid hw7
            have HYS := Lib.hid (show y ≠ s from fun e => by have h1 : s < wr.heap.size := block_lt_of_cell HS2.out.at_.c0; omega)
            have HYV := Lib.hid (show some y ≠ v2.ownBlock from fun e => by have h1 := (OwnG.lt HS2.out.own e.symm).2; omega)
            have HY := Lib.hid hy
            have HLAW := Lib.hid (fun (w8c : World) (h8c : Ext w7 w8c) => (visit_long (W := wr) hct hcl2 (fun j u hu => hcf _ rfl j u hu) a HHM.out (by have := HHF.out; have := HHM.out; omega) (hx7.trans h8c)))
            have HIHX := Lib.hid (fun (w10 : World) (L' : Option Addr) (c' : Nat) (e10 : Ext wr w10) (hle : m + 2 + 1 ≤ c') (hVn : Vals w10 (fun b => wr.heap.size ≤ b) L' (elsP s0 (h ++ [a]))) => HIH.out (h ++ [a]) w10 v2 (hs ++ hs1 ++ hs2) L' c' (m + 2) (by rw [List.length_append, List.length_singleton]; have := HHM.out; omega) (by rw [List.length_append, List.length_singleton]; have := HHF.out; omega) ⟨HR.out.1, fun x hx => by
              rcases List.mem_append.1 hx with h1 | h1
              · exact HR.out.2 x h1
              · rw [List.mem_singleton.1 h1]; exact HA.out⟩ (HS2.out.exts e10) hle (hVn.to (fun b hb => ⟨by have h1 : s < wr.heap.size := block_lt_of_cell HS2.out.at_.c0; unfold okS; omega, fun e => by have h1 := (OwnG.lt HS2.out.own e.symm).2; omega⟩)) (by
              have e1 := congrArg List.length HM1.out
              have e2 := congrArg List.length HM2.out
              have e3 := congrArg List.length HSD.out
              have e4 := HBD.out
              have e5 := HB2.out
              rw [List.length_map, List.length_map] at e1 e2
              rw [List.length_append] at e3
              rw [List.length_append, List.length_append]
              omega))
            clear hw7 hy hkL hVr hct hcf hcl2 hcS hbw
            go_upto_region 8 with (fail)
            rw [← HW7.out, ← HY.out]
            have MK8 := Lib.hid (fun V (e' : Ext w7 V) => (⟨e'.cell p1, e'.cell p2⟩ : V.cell? ⟨y, 1, none⟩ = some (.int .i64 a.2) ∧ V.cell? ⟨y, 2, none⟩ = some (.int .i64 a.1)))
            clear HW7 HY d0 d1 d2 p0 p1 p2
            refine wp_region_held_drew (S := (fun V => V.cell? ⟨y, 1, none⟩ = some (.int .i64 a.2) ∧ V.cell? ⟨y, 2, none⟩ = some (.int .i64 a.1))) (by kernel_rfl) ?hs7048 (fun hHeld => ?go7048)
            case hs7048 => (first | exact ⟨k1, k2⟩ | exact MK8.out _ (by solve_by_elim [X0, X1, X2, X3]))
            refine TK 0 (v := ?v7049) hHeld ?hy7049 ?_
            case hy7049 => (intro w _; go_simp <;> rfl)
            (try simp only [PU])
            refine TK 1 (v := ?v7050) hHeld ?hy7050 ?_
            case hy7050 => (intro w _; go_simp <;> rfl)
            (try simp only [PU])
            refine TK 3 (v := ?v7051) hHeld ?hy7051 ?_
            case hy7051 => (intro w _; go_simp <;> rfl)
            (try simp only [PU])
            refine TK 4 (v := ?v7052) hHeld ?hy7052 ?_
            case hy7052 => (intro w hSw; (try dsimp only at hSw); go_simp <;> first | with_reducible rfl | rw [if_neg (by omega)] | rw [if_pos (by omega)])
            (try simp only [PU])
            refine TK 6 (v := ?v7053) hHeld ?hy7053 ?_
            case hy7053 => (intro w _; go_simp <;> rfl)
            (try simp only [PU])
            refine TK 7 (v := ?v7054) hHeld ?hy7054 ?_
            case hy7054 => (intro w hSw; (try dsimp only at hSw); go_simp <;> first | with_reducible rfl | rw [if_neg (by omega)] | rw [if_pos (by omega)])
            (try simp only [PU])
            refine wpAnyH_ready (rs := [2]) (by kernel_rfl) (by simp) ?_
            refine AllReadyH.cons (o := ⟨_, _, _, _, _, _⟩) rfl (fun K hK => ?step7055x0) ?more7055x0
            case more7055x0 => exact AllReadyH.nil
            go_simp
            (refine (s_ClipV ⟨bl, ol, none⟩ (m + 1) cl _ hcl).mono ?_; rintro r w8a ⟨rfl, h8a⟩; replace h8a : Ext w7 w8a := Ext.trans (by solve_by_elim [X0, X1, X2, X3]) h8a)
            refine hK.out _ _ ?hS7055x0 (fun H7055 => ?_)
            case hS7055x0 => first | (first | exact ⟨k1, k2⟩ | exact MK8.out _ (by solve_by_elim [X0, X1, X2, X3])) | ((try dsimp only); (first | exact ⟨k1, k2⟩ | exact MK8.out _ (by solve_by_elim [X0, X1, X2, X3])))
            clear hK K
            clear hHeld
            (try simp only [PU])
            refine wpAnyH_ready (rs := [5]) (by kernel_rfl) (by simp) ?_
            refine AllReadyH.cons (o := ⟨_, _, _, _, _, _⟩) rfl (fun K hK => ?step7056x0) ?more7056x0
            case more7056x0 => exact AllReadyH.nil
            go_simp
            (refine (v_Edge _ _).mono ?_; rintro r w8b ⟨rfl, h8b⟩; replace h8b : Ext w7 w8b := Ext.trans (by solve_by_elim [X0, X1, X2, X3]) h8b)
            refine hK.out _ _ ?hS7056x0 (fun H7056 => ?_)
            case hS7056x0 => first | (first | exact ⟨k1, k2⟩ | exact MK8.out _ (by solve_by_elim [X0, X1, X2, X3])) | ((try dsimp only); (first | exact ⟨k1, k2⟩ | exact MK8.out _ (by solve_by_elim [X0, X1, X2, X3])))
            clear hK K
            clear H7055
            (try simp only [PU])
            refine wpAnyH_ready (rs := [8]) (by kernel_rfl) (by simp) ?_
            refine AllReadyH.cons (o := ⟨_, _, _, _, _, _⟩) rfl (fun K hK => ?step7057x0) ?more7057x0
            case more7057x0 => exact AllReadyH.nil
            go_simp
            (refine (v_Node _ _).mono ?_; rintro r w8c ⟨rfl, h8c⟩; replace h8c : Ext w7 w8c := Ext.trans (by solve_by_elim [X0, X1, X2, X3]) h8c)
            refine hK.out _ _ ?hS7057x0 (fun H7057 => ?_)
            case hS7057x0 => first | (first | exact ⟨k1, k2⟩ | exact MK8.out _ (by solve_by_elim [X0, X1, X2, X3])) | ((try dsimp only); (first | exact ⟨k1, k2⟩ | exact MK8.out _ (by solve_by_elim [X0, X1, X2, X3])))
            clear hK K
            clear H7056
            (try simp only [PU])
            refine wpAnyH_ready (rs := [9]) (by kernel_rfl) (by simp) ?_
            refine AllReadyH.cons (o := ⟨_, _, _, _, _, _⟩) rfl (fun K hK => ?step7058x0) ?more7058x0
            case more7058x0 => exact AllReadyH.nil
            go_simp
            refine hK.out _ _ ?hS7058x0 (fun H7058 => ?_)
            case hS7058x0 => first | (first | exact ⟨k1, k2⟩ | exact MK8.out _ (by solve_by_elim [X0, X1, X2, X3])) | ((try dsimp only); (first | exact ⟨k1, k2⟩ | exact MK8.out _ (by solve_by_elim [X0, X1, X2, X3])))
            clear hK K
            clear H7057
            (try simp only [PU])
            refine wpAnyH_ready (rs := [10]) (by kernel_rfl) (by simp) ?_
            refine AllReadyH.cons (o := ⟨_, _, _, _, _, _⟩) rfl (fun K hK => ?step7059x0) ?more7059x0
            case more7059x0 => exact AllReadyH.nil
            (obtain ⟨L', c', w10, hr10, hlc', hVn, hx10⟩ := HLAW.out w8c h8c; have h10 : Ext w7 w10 := h8c.trans hx10; refine step_append_run' rfl (.tmp 68) (.tmp 75) _ _ rfl (.slice (some ⟨bl, ol, none⟩) (m + 1) (m + 1)) (.slice (some ⟨w8c.heap.size, 0, none⟩) 2 2) rfl rfl hr10 ?_)
            refine hK.out _ _ ?hS7059x0 (fun H7059 => ?_)
            case hS7059x0 => first | (first | exact ⟨k1, k2⟩ | exact MK8.out _ (by solve_by_elim [X0, X1, X2, X3])) | ((try dsimp only); (first | exact ⟨k1, k2⟩ | exact MK8.out _ (by solve_by_elim [X0, X1, X2, X3])))
            clear hK K
            clear H7058
            (try simp only [PU])
            refine wpAnyH_ready (rs := [11]) (by kernel_rfl) (by simp) ?_
            refine AllReadyH.cons (o := ⟨_, _, _, _, _, _⟩) rfl (fun K hK => ?step7060x0) ?more7060x0
            case more7060x0 => exact AllReadyH.nil
            go_simp
            (refine (HIHX.out w10 L' c' (hx7.trans (h8c.trans hx10)) hlc' hVn).mono ?_; rintro r w11 ⟨rfl, v3, hs3, hS3, hm3, hF3⟩; have k1 := (hF3.cell HYS.out HYV.out (MK8.out _ h10).1).1; have k2 := (hF3.cell HYS.out HYV.out (MK8.out _ h10).2).1)
            refine hK.out _ _ ?hS7060x0 (fun H7060 => ?_)
            case hS7060x0 => first | (first | exact ⟨k1, k2⟩ | exact MK8.out _ (by solve_by_elim [X0, X1, X2, X3])) | ((try dsimp only); (first | exact ⟨k1, k2⟩ | exact MK8.out _ (by solve_by_elim [X0, X1, X2, X3])))
            clear hK K
            clear H7059
            (try simp only [PU])
            refine wpAnyH_done (by kernel_rfl) ?_ _
            clear H7060
            go_wp2_with fail
            have HS3 := Lib.hid hS3
            have HM3 := Lib.hid hm3
            have HF4 := Lib.hid (HF2.out.trans ((FarS.of_ext v2 (hx7.trans (h8c.trans hx10))).trans hF3))
            clear hS3 hm3 hF3 HIHX HLAW MK8 hVn
            go_roundw
            case rel => exact ⟨i + 1, v3, hs2 ++ hs3, by go_num, by omega, Lib.hid (by rw [← List.append_assoc]; exact HS3.out), Lib.hid (by rw [List.map_append, HM2.out, HM3.out, HT2.out, List.map_append]), HF4⟩
            case measure => simp [intOf]; omega
          · have hie : i = S.length := by omega
            have HRES := Lib.hid (show hs1.map HV.v ++ hs2.map HV.v = (dfsP mode s0 (stepsL g types dir) mn (f' + 1) h).map (fun h => pathV (elsP s0 h)) by rw [HM1.out, HM2.out, hie, List.take_length, HSD.out, List.map_append])
            have HFE := Lib.hid (((HF1.out.trans (FarS.of_ext v1 hx4)).trans HF2.out))
            clear hie
            go_wp2_with fail
            go_end0
            exact ⟨rfl, v2, hs1 ++ hs2, by rw [← List.append_assoc]; exact HS2.out, by rw [List.map_append]; exact HRES.out, HFE.out⟩
end Go.Proofs.YtigmdddeplnciaaGreatDoor
