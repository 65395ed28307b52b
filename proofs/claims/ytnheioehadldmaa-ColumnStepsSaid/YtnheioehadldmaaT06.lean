/- PARTS OF THE WALKS, joined: GrF, PtA, PtB, CoC, CoD, Merge. -/
import Derived.Test.YtnheioehadldmaaT03
import Derived.Test.YtnheioehadldmaaT05
import Derived.Sort.LotA
import Derived.Test.YtnheioehadldmaaT00
/- PLAIN: what a valid graph bears. No program in sight. -/
namespace Go.Proofs.Ytnheioehadldmaa
open Go.RowKit
/-- ids rise, all numbers are ids, edges lead from nodes to nodes -/
structure GoodG (g : GraphG) : Prop where
 nlt : ∀ i j, i < j → j < g.nodes.length → g.nodes[i]!.id < g.nodes[j]!.id
 elt : ∀ i j, i < j → j < g.edges.length → g.edges[i]!.id < g.edges[j]!.id
 nid : ∀ n ∈ g.nodes, 1 ≤ n.id ∧ n.id ≤ 1000000
 eid : ∀ e ∈ g.edges, 1 ≤ e.id ∧ e.id ≤ 1000000
 ends : ∀ e ∈ g.edges, (∃ n ∈ g.nodes, n.id = e.frm) ∧ ∃ n ∈ g.nodes, n.id = e.to_
 nlen : g.nodes.length ≤ 2000
 elen : g.edges.length ≤ 4000
theorem gf_parts {g : GraphG} (h : chkG g = 0) : headE g = 0 ∧ nodesE g = 0 ∧ edgesE g = 0 := by
 unfold chkG at h
 split at h
 ·rename_i h1
  split at h
  ·rename_i h2; exact ⟨h1, h2, h⟩
  ·rename_i h2; exact absurd h h2
 ·rename_i h1; exact absurd h h1
theorem gf_head {g : GraphG} (h : headE g = 0) : g.nodes.length ≤ 2000 ∧ g.edges.length ≤ 4000 ∧ 1 ≤ g.nn ∧ g.nn ≤ 1000001 ∧ 1 ≤ g.ne ∧ g.ne ≤ 1000001 := by
 unfold headE at h
 split at h
 ·cases h
 ·split at h
  ·cases h
  ·omega
theorem gf_has {l : List NodeG} {i : Int} : hasN l i = true ↔ ∃ n ∈ l, n.id = i := by
 unfold hasN
 rw [List.any_eq_true]
 exact ⟨fun ⟨x, hx, he⟩ => ⟨x, hx, of_decide_eq_true he⟩, fun ⟨x, hx, he⟩ => ⟨x, hx, decide_eq_true he⟩⟩
theorem gf_edge {g : GraphG} (h : edgesE g = 0) {i : Nat} (hi : i < g.edges.length) : (0 < i → g.edges[i - 1]!.id < g.edges[i]!.id) ∧ 1 ≤ g.edges[i]!.id ∧ g.edges[i]!.id < g.ne ∧ hasN g.nodes g.edges[i]!.frm = true ∧ hasN g.nodes g.edges[i]!.to_ = true ∧ nameB g.edges[i]!.typ = true ∧ partsE [] g.edges[i]!.props = 0 := by
 have h1 := firstE_all h i hi
 unfold edgeE at h1
 split at h1
 ·cases h1
 ·rename_i h2
  split at h1
  ·cases h1
  ·rename_i h3
   split at h1
   ·rename_i h4
    rw [Bool.and_eq_true] at h4
    split at h1
    ·rename_i h5; exact ⟨fun hp => by omega, by omega, by omega, h4.1, h4.2, h5, h1⟩
    ·cases h1
   ·cases h1
theorem gf_node {g : GraphG} (h : nodesE g = 0) {i : Nat} (hi : i < g.nodes.length) : (0 < i → g.nodes[i - 1]!.id < g.nodes[i]!.id) ∧ 1 ≤ g.nodes[i]!.id ∧ g.nodes[i]!.id < g.nn ∧ partsE g.nodes[i]!.labels g.nodes[i]!.props = 0 := by
 have h1 := firstE_all h i hi
 unfold nodeE at h1
 split at h1
 ·cases h1
 ·rename_i h2
  split at h1
  ·cases h1
  ·rename_i h3; exact ⟨fun hp => by omega, by omega, by omega, h1⟩
theorem gf_rise {n : Nat} {f : Nat → Int} (h : ∀ i, 0 < i → i < n → f (i - 1) < f i) : ∀ {i j : Nat}, i < j → j < n → f i < f j := by
 intro i j hij
 induction j with
 | zero => omega
 | succ j ih =>
  intro hj
  have h1 := h (j + 1) (by omega) hj
  rw [Nat.add_sub_cancel] at h1
  rcases Nat.lt_or_eq_of_le (Nat.le_of_lt_succ hij) with h2 | h2
  ·have := ih h2 (by omega); omega
  ·rw [h2]; exact h1
theorem gf_mem {α : Type} [Inhabited α] {l : List α} {x : α} (h : x ∈ l) : ∃ i, i < l.length ∧ l[i]! = x := by
 obtain ⟨i, hi, rfl⟩ := List.getElem_of_mem h
 exact ⟨i, hi, getElem!_pos l i hi⟩
theorem good_of {g : GraphG} (h : chkG g = 0) : GoodG g := by
 obtain ⟨h0, h1, h2⟩ := gf_parts h
 obtain ⟨a1, a2, a3, a4, a5, a6⟩ := gf_head h0
 refine ⟨fun i j hij hj => gf_rise (n := g.nodes.length) (f := fun i => g.nodes[i]!.id) (fun i hp hi => (gf_node h1 hi).1 hp) hij hj, fun i j hij hj => gf_rise (n := g.edges.length) (f := fun i => g.edges[i]!.id) (fun i hp hi => (gf_edge h2 hi).1 hp) hij hj, fun n hn => ?_, fun e he => ?_, fun e he => ?_, a1, a2⟩
 ·obtain ⟨i, hi, rfl⟩ := gf_mem hn
  have := gf_node h1 hi
  omega
 ·obtain ⟨i, hi, rfl⟩ := gf_mem he
  have := gf_edge h2 hi
  omega
 ·obtain ⟨i, hi, rfl⟩ := gf_mem he
  have := gf_edge h2 hi
  exact ⟨gf_has.1 this.2.2.2.1, gf_has.1 this.2.2.2.2.1⟩
theorem GoodG.endr {g : GraphG} (h : GoodG g) {e : EdgeG} (he : e ∈ g.edges) : (1 ≤ e.frm ∧ e.frm ≤ 1000000) ∧ 1 ≤ e.to_ ∧ e.to_ ≤ 1000000 := by
 obtain ⟨⟨n, hn, e1⟩, m, hm, e2⟩ := h.ends e he
 have := h.nid n hn
 have := h.nid m hm
 omega
theorem pw_bang {α : Type} [Inhabited α] {R : α → α → Prop} {l : List α} (h : ∀ i j, i < j → j < l.length → R l[i]! l[j]!) : l.Pairwise R :=
 List.pairwise_iff_getElem.2 (fun i j hi hj hij => by have := h i j hij hj; rwa [getElem!_pos l i hi, getElem!_pos l j hj] at this)
theorem GoodG.epw {g : GraphG} (h : GoodG g) : g.edges.Pairwise (fun a b => a.id < b.id) := pw_bang h.elt
theorem GoodG.npw {g : GraphG} (h : GoodG g) : g.nodes.Pairwise (fun a b => a.id < b.id) := pw_bang h.nlt
end Go.Proofs.Ytnheioehadldmaa

/- PLAIN: paths: steps, modes, what lies within some hops, and its order. No program in sight. -/
namespace Go.Proofs.Ytnheioehadldmaa
open Go.RowKit
/- lists -/
theorem fm_cong {α β : Type} {f g : α → List β} : ∀ {m : List α}, (∀ z ∈ m, (f z).Perm (g z)) → (m.flatMap f).Perm (m.flatMap g)
 | [], _ => .nil
 | z :: m, h => by rw [List.flatMap_cons, List.flatMap_cons]; exact (h z (by simp)).append (fm_cong (fun y hy => h y (by simp [hy])))
theorem fm_split {α β : Type} {f g : α → List β} : ∀ m : List α, (m.flatMap (fun a => f a ++ g a)).Perm (m.flatMap f ++ m.flatMap g)
 | [] => .nil
 | z :: m => by
  rw [List.flatMap_cons, List.flatMap_cons, List.flatMap_cons, List.append_assoc, List.append_assoc]
  refine List.Perm.append_left _ ?_
  have h1 := (fm_split (f := f) (g := g) m).append_left (g z)
  refine h1.trans ?_
  rw [← List.append_assoc, ← List.append_assoc]
  exact List.perm_append_comm.append_right _
theorem fm_none {α β : Type} : ∀ m : List α, m.flatMap (fun _ => ([] : List β)) = []
 | [] => rfl
 | x :: m => by rw [List.flatMap_cons, fm_none m]; rfl
theorem fm_swap {α β γ : Type} (f : α → β → List γ) (m : List β) : ∀ l : List α, (l.flatMap (fun a => m.flatMap (f a))).Perm (m.flatMap (fun b => l.flatMap (fun a => f a b)))
 | [] => by
  simp only [List.flatMap_nil, fm_none]; exact .nil
 | a :: l => by
  simp only [List.flatMap_cons]
  exact ((fm_swap f m l).append_left _).trans (fm_split (f := f a) (g := fun b => l.flatMap (fun a => f a b)) m).symm
/- steps and modes -/
abbrev Hop := Int × Int
/-- the node to which an edge leads from n -/
def toE (types : List ByteArray) (dir n : Int) (e : EdgeG) : Option Int :=
 if typB types e.typ = true then (if (dir = 1 ∨ dir = 3) ∧ e.frm = n then some e.to_ else if (dir = 2 ∨ dir = 3) ∧ e.to_ = n then some e.frm else none) else none
def hopE (types : List ByteArray) (dir n : Int) (e : EdgeG) : Option Hop := (toE types dir n e).map (fun t => (e.id, t))
def hopsE (g : GraphG) (types : List ByteArray) (dir n : Int) : List Hop := g.edges.filterMap (hopE types dir n)
/-- the nodes of a path -/
def nodeP (s : Int) (h : List Hop) (i : Nat) : Int := (s :: h.map Prod.snd)[i]!
/- what lies within some hops -/
section
variable (g : GraphG) (types : List ByteArray) (dir mode s : Int)
end
end Go.Proofs.Ytnheioehadldmaa

/- PLAIN: the order of paths: what the reference lists rises. No program in sight. -/
namespace Go.Proofs.Ytnheioehadldmaa
open Go.RowKit
/-- the hops of a value -/
def hopsV (v : Val) : Int := if v.kind = 7 ∧ validV v = true then ((v.l.length / 2 : Nat) : Int) else -1
def ordP (a b : Val) : Int := thenC (Lib.compareInt (hopsV a) (hopsV b)) (ordV a b)
theorem TotC.path : TotC ordP :=
 (TotC.lex TotC.int TotC.val).pull (fun v => (hopsV v, v)) (fun _ _ h => (Prod.mk.inj h).2)
def idOk (i : Int) : Prop := 1 ≤ i ∧ i ≤ 1000000
/-- all numbers of a path are ids -/
def RngP (s : Int) (h : List Hop) : Prop := idOk s ∧ ∀ x ∈ h, idOk x.1 ∧ idOk x.2
theorem RngP.node {s : Int} {h : List Hop} (hr : RngP s h) {i : Nat} (hi : i ≤ h.length) : idOk (nodeP s h i) := by
 unfold nodeP
 rw [getElem!_pos _ i (by simp; omega)]
 cases i with
 | zero => exact hr.1
 | succ i => rw [List.getElem_cons_succ, List.getElem_map]; exact (hr.2 _ (List.getElem_mem _)).2
section
variable {g : GraphG} {types : List ByteArray} {dir mode s : Int}
end
end Go.Proofs.Ytnheioehadldmaa

/- PLAIN: packing undoes spreading, and spreading undoes packing; valid columns. -/
namespace Go.Proofs.Ytnheioehadldmaa
open Go.RowKit
theorem bang_of {α : Type} [Inhabited α] {l : List α} {i : Nat} {x : α} (h : l[i]? = some x) : l[i]! = x := by rw [getElem!_def, h]
theorem some_bang {α : Type} [Inhabited α] {l : List α} {i : Nat} (h : i < l.length) : l[i]? = some l[i]! := by rw [getElem!_pos l i h]; exact List.getElem?_eq_getElem h
theorem ext_bang {α : Type} [Inhabited α] {l m : List α} (hl : l.length = m.length) (h : ∀ i, i < m.length → l[i]! = m[i]!) : l = m := by
 apply List.ext_getElem hl
 intro i h1 h2
 have := h i h2
 rwa [getElem!_pos l i h1, getElem!_pos m i h2] at this
theorem flat_at {c : Col} (h : ShapeC c) {i k : Nat} (hi : i < c.nodes.length) (h1 : c.first[i]!.toNat ≤ k) (h2 : k < c.first[i + 1]!.toNat) : (flatC c)[k]! = entC c i k := bang_of (flatK_at h (Nat.le_refl _) hi h1 h2)
end Go.Proofs.Ytnheioehadldmaa

/- PLAIN: what is packed spreads out as it was; valid columns are the packed good lists. -/
namespace Go.Proofs.Ytnheioehadldmaa
open Go.RowKit
theorem heads_rise (l : List Sh) (k : Nat) : (headsK l k).Pairwise (· < ·) := List.Pairwise.filter _ List.pairwise_lt_range
theorem heads_mem {l : List Sh} {k i : Nat} : i ∈ headsK l k ↔ i < k ∧ headB l i = true := by unfold headsK; rw [List.mem_filter, List.mem_range]
theorem heads_zero {l : List Sh} {k : Nat} (hk : 0 < k) : (headsK l k)[0]! = 0 := by
 have h0 : 0 ∈ headsK l k := heads_mem.2 ⟨hk, rfl⟩
 obtain ⟨j, hj, e⟩ := List.getElem_of_mem h0
 have hp : 0 < (headsK l k).length := by omega
 rw [getElem!_pos _ 0 hp]
 rcases Nat.eq_zero_or_pos j with h | h
 ·subst h; exact e
 ·have := List.pairwise_iff_getElem.1 (heads_rise l k) 0 j hp hj h
  omega
/-- the row's first entry at or behind which k lies -/
def cutK (l : List Sh) (i : Nat) : Nat := ((headsK l l.length)[i]?).getD l.length
theorem cut_in {l : List Sh} {i : Nat} (h : i < (headsK l l.length).length) : cutK l i = (headsK l l.length)[i] := by unfold cutK; rw [List.getElem?_eq_getElem h]; rfl
theorem cut_end (l : List Sh) : cutK l (headsK l l.length).length = l.length := by unfold cutK; rw [List.getElem?_eq_none (Nat.le_refl _)]; rfl
theorem cut_rise {l : List Sh} {i : Nat} (h : i < (headsK l l.length).length) : cutK l i < cutK l (i + 1) := by
 rw [cut_in h]
 rcases Nat.lt_or_ge (i + 1) (headsK l l.length).length with h1 | h1
 ·rw [cut_in h1]
  exact List.pairwise_iff_getElem.1 (heads_rise l l.length) i (i + 1) h h1 (by omega)
 ·have : i + 1 = (headsK l l.length).length := by omega
  rw [this, cut_end]
  exact (heads_mem.1 (List.getElem_mem h)).1
theorem cut_inner {l : List Sh} {i k : Nat} (h : i < (headsK l l.length).length) (h1 : cutK l i < k) (h2 : k < cutK l (i + 1)) : headB l k = false := by
 cases hb : headB l k
 ·rfl
 ·exfalso
  have hk : k < l.length := by
   rcases Nat.lt_or_ge (i + 1) (headsK l l.length).length with h3 | h3
   ·rw [cut_in h3] at h2
    have := (heads_mem.1 (List.getElem_mem h3)).1; omega
   ·have : i + 1 = (headsK l l.length).length := by omega
    rw [this, cut_end] at h2; exact h2
  obtain ⟨j, hj, e⟩ := List.getElem_of_mem (heads_mem.2 ⟨hk, hb⟩)
  rw [cut_in h] at h1
  have hr := List.pairwise_iff_getElem.1 (heads_rise l l.length)
  rcases Nat.lt_trichotomy j i with h3 | h3 | h3
  ·have := hr j i hj h h3; omega
  ·subst h3; omega
  ·rcases Nat.eq_or_lt_of_le (show i + 1 ≤ j from h3) with h4 | h4
   ·subst h4; rw [cut_in hj] at h2; omega
   ·have := hr (i + 1) j (by omega) hj h4
    rw [cut_in (show i + 1 < (headsK l l.length).length by omega)] at h2; omega
theorem cut_same {l : List Sh} {i : Nat} (h : i < (headsK l l.length).length) : ∀ d : Nat, cutK l i + d < cutK l (i + 1) → l[cutK l i + d]!.id = l[cutK l i]!.id
 | 0, _ => rfl
 | d + 1, hd => by
  have h1 := cut_inner h (k := cutK l i + (d + 1)) (by omega) hd
  unfold headB at h1
  rw [Bool.or_eq_false_iff] at h1
  have h2 : l[cutK l i + (d + 1)]!.id = l[cutK l i + (d + 1) - 1]!.id := by simpa using h1.2
  rw [h2, show cutK l i + (d + 1) - 1 = cutK l i + d by omega]
  exact cut_same h d (by omega)
theorem pack_nodes {l : List Sh} {i : Nat} (h : i < (headsK l l.length).length) : (packC l).nodes[i]! = l[cutK l i]!.id := by
 show ((headsK l l.length).map (fun i => l[i]!.id))[i]! = _
 rw [getElem!_pos _ i (by simpa using h), List.getElem_map, cut_in h]
theorem pack_nlen (l : List Sh) : (packC l).nodes.length = (headsK l l.length).length := List.length_map _
theorem pack_tos (l : List Sh) : (packC l).tos = l.map Sh.n := by show (l.take l.length).map Sh.n = _; rw [List.take_length]
theorem pack_edges (l : List Sh) : (packC l).edges = l.map Sh.d := by show (l.take l.length).map Sh.d = _; rw [List.take_length]
theorem pack_first {l : List Sh} (h0 : l ≠ []) {i : Nat} (hi : i ≤ (headsK l l.length).length) : (packC l).first[i]! = (cutK l i : Int) := by
 show ((headsK l l.length).map (fun i : Nat => (i : Int)) ++ (if l = [] then [] else [(l.length : Int)]))[i]! = _
 rw [if_neg h0, getElem!_pos _ i (by simp; omega)]
 rcases Nat.lt_or_ge i (headsK l l.length).length with h1 | h1
 ·rw [List.getElem_append_left (by simpa using h1), List.getElem_map, cut_in h1]
 ·have e : i = (headsK l l.length).length := by omega
  subst e
  rw [List.getElem_append_right (by simp), cut_end]; simp
theorem pack_shape {l : List Sh} (h0 : l ≠ []) : ShapeC (packC l) where
 len := by
  show ((headsK l l.length).map (fun i : Nat => (i : Int)) ++ (if l = [] then [] else [(l.length : Int)])).length = ((headsK l l.length).map _).length + 1
  rw [if_neg h0]; simp
 zero := by
  rw [pack_first h0 (Nat.zero_le _)]
  have hp : 0 < l.length := List.length_pos_iff.2 h0
  have hh : 0 < (headsK l l.length).length := List.length_pos_iff.2 (fun e => by have := heads_mem.2 (show 0 < l.length ∧ headB l 0 = true from ⟨hp, rfl⟩); rw [e] at this; cases this)
  have := heads_zero (l := l) hp
  rw [getElem!_pos _ 0 hh] at this
  rw [cut_in hh, this]; rfl
 same := by rw [pack_tos, pack_edges, List.length_map, List.length_map]
 last := by rw [pack_nlen, pack_first h0 (Nat.le_refl _), cut_end, pack_tos, List.length_map]
 rise := fun i hi => by
  rw [pack_nlen] at hi
  rw [pack_first h0 (by omega), pack_first h0 (by omega)]
  have := cut_rise hi
  omega
theorem flat_pack (l : List Sh) : flatC (packC l) = l := by
 by_cases h0 : l = []
 ·subst h0; rfl
 ·have hS := pack_shape h0
  have hl := flatC_len hS
  rw [pack_tos, List.length_map] at hl
  refine ext_bang hl (fun k hk => ?_)
  obtain ⟨i, h1, h2, h3, h4⟩ := flatC_nd hS (k := k) (by rw [pack_tos, List.length_map]; exact hk)
  rw [pack_nlen] at h1
  rw [pack_first h0 (by omega)] at h2 h3
  rw [h4]
  unfold entC
  have h5 := cut_same h1 (k - cutK l i) (by omega)
  rw [show cutK l i + (k - cutK l i) = k by omega] at h5
  rw [pack_nodes h1, pack_tos, pack_edges, getElem!_pos _ k (by simpa using hk), getElem!_pos (l.map Sh.d) k (by simpa using hk), List.getElem_map, List.getElem_map, ← getElem!_pos l k hk, ← h5]
/-- a list of entries that a valid column may bear -/
structure GoodL (l : List Sh) : Prop where
 ids : ∀ a ∈ l, idOk a.id ∧ idOk a.n ∧ idOk a.d
 rise : l.Pairwise (fun a b => adjOrd a b < 0)
 once : (l.map Sh.d).Nodup
def validP (c : Col) : Prop := (c.nodes = [] ∧ c.first = [] ∧ c.tos = [] ∧ c.edges = []) ∨ (ShapeC c ∧ c.nodes.Pairwise (· < ·) ∧ GoodL (flatC c))
theorem ord_id {a b : Sh} (h : adjOrd a b < 0) : a.id ≤ b.id := by
 unfold adjOrd thenC Lib.compareInt at h
 split at h <;> (try split at h) <;> (try split at h) <;> omega
theorem pack_valid {l : List Sh} (h : GoodL l) : validP (packC l) := by
 by_cases h0 : l = []
 ·subst h0; exact .inl ⟨rfl, rfl, rfl, rfl⟩
 ·refine .inr ⟨pack_shape h0, ?_, by rw [flat_pack]; exact h⟩
  rw [List.pairwise_iff_getElem]
  intro i j hi hj hij
  have hi' := hi; have hj' := hj
  rw [pack_nlen] at hi' hj'
  rw [← getElem!_pos _ i hi, ← getElem!_pos _ j hj, pack_nodes hi', pack_nodes hj', cut_in hi', cut_in hj']
  have h1 := List.pairwise_iff_getElem.1 (heads_rise l l.length) i j hi' hj' hij
  obtain ⟨h2, h3⟩ := heads_mem.1 (List.getElem_mem hj')
  have hr := List.pairwise_iff_getElem.1 h.rise
  unfold headB at h3
  generalize (headsK l l.length)[i] = x at *
  generalize (headsK l l.length)[j] = y at *
  have h4 : l[y]!.id ≠ l[y - 1]!.id := by simpa [show y ≠ 0 by omega] using h3
  have h5 : l[y - 1]!.id ≤ l[y]!.id := by
   have := ord_id (hr (y - 1) y (by omega) h2 (by omega))
   rwa [← getElem!_pos l y h2, ← getElem!_pos l (y - 1) (by omega)] at this
  have h6 : l[x]!.id ≤ l[y - 1]!.id := by
   rcases Nat.eq_or_lt_of_le (show x ≤ y - 1 by omega) with e | e
   ·rw [e]; omega
   ·have := ord_id (hr x (y - 1) (by omega) (by omega) e)
    rwa [← getElem!_pos l x (by omega), ← getElem!_pos l (y - 1) (by omega)] at this
  omega
end Go.Proofs.Ytnheioehadldmaa

/- PLAIN: MERGING IN PLACE, as slices.SortStableFunc does it: what its parts make of a row. No program in sight. -/
namespace Go.Proofs.Ytnheioehadldmaa
open Go.Sort
variable {α : Type} [Inhabited α] {lt : α → α → Bool}
theorem swp_at (d : Array α) {i j : Nat} (hi : i < d.size) (hj : j < d.size) (k : Nat) : (swp d i j)[k]! = if k = j then d[i]! else if k = i then d[j]! else d[k]! := swp_get d hi hj k
/-- where the exchange of two ranges takes place x from -/
def swS (a b n x : Nat) : Nat := if a ≤ x ∧ x < a + n then x - a + b else if b ≤ x ∧ x < b + n then x - b + a else x
theorem swS_zero (a b x : Nat) : swS a b 0 x = x := by unfold swS; rw [if_neg (by omega), if_neg (by omega)]
theorem swS_step (d e : Array α) {a b n i : Nat} (hs : e.size = d.size) (hab : a + n ≤ b) (hi : i < n) (hb : b + n ≤ d.size) (h : ∀ x, e[x]! = d[swS a b i x]!) (x : Nat) : (swp e (a + i) (b + i))[x]! = d[swS a b (i + 1) x]! := by
 rw [swp_at e (by omega) (by omega)]
 split
 ·rename_i hx
  rw [h]; congr 1; subst hx; unfold swS
  repeat' split
  all_goals omega
 ·split
  ·rename_i hx
   rw [h]; congr 1; subst hx; unfold swS
   repeat' split
   all_goals omega
  ·rw [h]; congr 1; unfold swS
   repeat' split
   all_goals omega
/-- where a rotation takes place x from -/
def rotS (a m b x : Nat) : Nat := if a ≤ x ∧ x < b then (if x < a + (b - m) then m + (x - a) else x - (b - m)) else x
theorem rotS_left {m i j x : Nat} (hi : i ≤ m) (hij : j < i) : swS (m - i) m j (rotS (m - (i - j)) m (m + j) x) = rotS (m - i) m (m + j) x := by
 unfold rotS swS
 repeat' split
 all_goals omega
theorem rotS_right {m i j x : Nat} (hi : i ≤ m) (hij : i < j) : swS (m - i) (m + j - i) i (rotS (m - i) m (m + (j - i)) x) = rotS (m - i) m (m + j) x := by
 unfold rotS swS
 repeat' split
 all_goals omega
theorem rotS_end {m i x : Nat} (hi : i ≤ m) : swS (m - i) m i x = rotS (m - i) m (m + i) x := by
 unfold rotS swS
 repeat' split
 all_goals omega
theorem rotS_idl (m b x : Nat) : rotS m m b x = x := by
 unfold rotS
 repeat' split
 all_goals omega
theorem rotS_idr (a m x : Nat) : rotS a m m x = x := by
 unfold rotS
 repeat' split
 all_goals omega
/-- nothing of [m, b) is less than anything of [a, m) -/
def Cross (lt : α → α → Bool) (a m b : Nat) (d : Array α) : Prop := ∀ i j, a ≤ i → i < m → m ≤ j → j < b → lt d[j]! d[i]! = false
theorem srt_sub {a b a' b' : Nat} {d : Array α} (h : SortedIn lt a b d) (ha : a ≤ a') (hb : b' ≤ b) : SortedIn lt a' b' d := fun i j h1 h2 h3 => h i j (by omega) h2 (by omega)
theorem srt_kept {a b lo hi : Nat} {d e : Array α} (h : SortedIn lt a b d) (hp : PermIn lo hi d e) (ho : b ≤ lo ∨ hi ≤ a) : SortedIn lt a b e := fun i j h1 h2 h3 => by
 rw [hp.2.1 i (by omega), hp.2.1 j (by omega)]; exact h i j h1 h2 h3
theorem srt_glue {a m b : Nat} {d : Array α} (h1 : SortedIn lt a m d) (h2 : SortedIn lt m b d) (h : Cross lt a m b d) : SortedIn lt a b d := fun i j hi hij hj => by
 by_cases hm : j < m
 ·exact h1 i j hi hij hm
 ·by_cases hm' : m ≤ i
  ·exact h2 i j hm' hij hj
  ·exact h i j hi (by omega) (by omega) hj
theorem srt_le (hS : SWO lt) {a b : Nat} {d : Array α} (h : SortedIn lt a b d) {i j : Nat} (hi : a ≤ i) (hij : i ≤ j) (hj : j < b) : lt d[j]! d[i]! = false := by
 rcases Nat.lt_or_eq_of_le hij with h1 | h1
 ·exact h i j hi h1 hj
 ·subst h1; exact hS.irrefl _
theorem Cross.left {a m b : Nat} {d e : Array α} (hm : m ≤ d.size) (h : Cross lt a m b d) (hp : PermIn a m d e) : Cross lt a m b e := fun i j h1 h2 h3 h4 => by
 rw [hp.2.1 j (by omega)]
 exact permIn_all d e a m (fun u => lt d[j]! u = false) hm hp (fun i h1 h2 => h i j h1 h2 h3 h4) i h1 h2
theorem Cross.right {a m b : Nat} {d e : Array α} (hb : b ≤ d.size) (h : Cross lt a m b d) (hp : PermIn m b d e) : Cross lt a m b e := fun i j h1 h2 h3 h4 => by
 rw [hp.2.1 i (by omega)]
 exact permIn_all d e m b (fun u => lt u d[i]! = false) hb hp (fun j h3 h4 => h i j h1 h2 h3 h4) j h3 h4
/-- less and not less: 'x < y ≤ z' -/
theorem lt_le {β : Type} {lt : β → β → Bool} (hS : SWO lt) {x y z : β} (h1 : lt x y = true) (h2 : lt z y = false) : lt x z = true := by
 cases hz : lt x z with
 | true => rfl
 | false =>
  -- z ≤ x, x < y: but y ≤ z
  have := hS.ntrans x z y hz h2
  rw [h1] at this; cases this
theorem le_lt {β : Type} {lt : β → β → Bool} (hS : SWO lt) {x y z : β} (h1 : lt y x = false) (h2 : lt y z = true) : lt x z = true := by
 cases hz : lt x z with
 | true => rfl
 | false =>
  have := hS.ntrans y x z h1 hz
  rw [h2] at this; cases this
/-- THE SEARCH OF symMerge: where it begins and ends -/
def symLo (a m b : Nat) : Nat := if m > (a + b) / 2 then (a + b) / 2 + m - b else a
def symHi (a m b : Nat) : Nat := if m > (a + b) / 2 then (a + b) / 2 else m
theorem sym_rng {a m b : Nat} (h1 : a < m) (h2 : m < b) : a ≤ symLo a m b ∧ symLo a m b ≤ symHi a m b ∧ symHi a m b ≤ m ∧ symHi a m b ≤ (a + b) / 2 ∧ (a + b) / 2 + m - symLo a m b ≤ b ∧ b ≤ (a + b) / 2 + m + (b - m) := by
 unfold symLo symHi; split <;> omega
/-- what is known of the place s that it finds -/
structure SymAt (lt : α → α → Bool) (a m b s : Nat) (d : Array α) : Prop where
 lo : symLo a m b ≤ s
 hi : s ≤ symHi a m b
 up : symLo a m b < s → lt d[(a + b) / 2 + m - s]! d[s - 1]! = false
 dn : s < symHi a m b → lt d[(a + b) / 2 + m - s - 1]! d[s]! = true
theorem sym_cross (hS : SWO lt) {a m b s : Nat} {d : Array α} (h1 : a < m) (h2 : m < b) (hl : SortedIn lt a m d) (hr : SortedIn lt m b d) (h : SymAt lt a m b s d) :
  ∀ x y, (a ≤ x ∧ x < s ∨ m ≤ x ∧ x < (a + b) / 2 + m - s) → (s ≤ y ∧ y < m ∨ (a + b) / 2 + m - s ≤ y ∧ y < b) → lt d[y]! d[x]! = false := by
 have hlo := h.lo
 have hhi := h.hi
 have hr0 := sym_rng h1 h2
 intro x y hx hy
 rcases hx with hx | hx <;> rcases hy with hy | hy
 ·exact hl x y hx.1 (by omega) hy.2
 ·have hs : symLo a m b < s := by
   rcases Nat.lt_or_eq_of_le hlo with e | e
   ·exact e
   ·exfalso; unfold symLo at e; split at e <;> omega
  have e1 := srt_le hS hl hx.1 (show x ≤ s - 1 by omega) (show s - 1 < m by omega)
  have e2 := h.up hs
  have e3 := srt_le hS hr (show m ≤ (a + b) / 2 + m - s by omega) hy.1 hy.2
  exact hS.ntrans _ _ _ e3 (hS.ntrans _ _ _ e2 e1)
 ·have hs : s < symHi a m b := by
   rcases Nat.lt_or_eq_of_le hhi with e | e
   ·exact e
   ·exfalso; unfold symHi at e; split at e <;> omega
  have e1 := srt_le hS hr hx.1 (show x ≤ (a + b) / 2 + m - s - 1 by omega) (by omega)
  have e2 := hS.asymmA (h.dn hs)
  have e3 := srt_le hS hl (show a ≤ s by omega) hy.1 hy.2
  exact hS.ntrans _ _ _ e3 (hS.ntrans _ _ _ e2 e1)
 ·exact hr x y hx.1 (by omega) hy.2
/-- behind the rotation: four runs, and the two halves part -/
structure SymCut (lt : α → α → Bool) (a m b s : Nat) (e : Array α) : Prop where
 r1 : SortedIn lt a s e
 r2 : SortedIn lt s ((a + b) / 2) e
 r3 : SortedIn lt ((a + b) / 2) ((a + b) / 2 + m - s) e
 r4 : SortedIn lt ((a + b) / 2 + m - s) b e
 cross : Cross lt a ((a + b) / 2) b e
theorem sym_cut (hS : SWO lt) {a m b s : Nat} {d e : Array α} (h1 : a < m) (h2 : m < b) (hl : SortedIn lt a m d) (hr : SortedIn lt m b d) (h : SymAt lt a m b s d)
  (he : ∀ x, e[x]! = d[rotS s m ((a + b) / 2 + m - s) x]!) : SymCut lt a m b s e := by
 have hc := sym_cross hS h1 h2 hl hr h
 have hlo := h.lo
 have hhi := h.hi
 have hr0 := sym_rng h1 h2
 have src : ∀ x, rotS s m ((a + b) / 2 + m - s) x = if x < s then x else if x < (a + b) / 2 then m + (x - s) else if x < (a + b) / 2 + m - s then x - ((a + b) / 2 - s) else x := by
  intro x; unfold rotS
  repeat' split
  all_goals omega
 refine ⟨?_, ?_, ?_, ?_, ?_⟩
 ·intro i j hi hij hj
  rw [he, he, src, src, if_pos (by omega), if_pos (by omega)]
  exact hl i j hi hij (by omega)
 ·intro i j hi hij hj
  rw [he, he, src, src, if_neg (by omega), if_pos (by omega), if_neg (by omega), if_pos (by omega)]
  exact hr _ _ (by omega) (by omega) (by omega)
 ·intro i j hi hij hj
  rw [he, he, src, src, if_neg (by omega), if_neg (by omega), if_pos (by omega), if_neg (by omega), if_neg (by omega), if_pos (by omega)]
  exact hl _ _ (by omega) (by omega) (by omega)
 ·intro i j hi hij hj
  rw [he, he, src, src, if_neg (by omega), if_neg (by omega), if_neg (by omega), if_neg (by omega), if_neg (by omega), if_neg (by omega)]
  exact hr _ _ (by omega) (by omega) (by omega)
 ·intro i j hi him hmj hj
  rw [he, he]
  refine hc _ _ ?_ ?_
  ·rw [src]
   by_cases his : i < s
   ·rw [if_pos his]; exact .inl ⟨by omega, by omega⟩
   ·rw [if_neg his, if_pos (by omega)]; exact .inr ⟨by omega, by omega⟩
  ·rw [src, if_neg (by omega), if_neg (by omega)]
   split
   ·exact .inl ⟨by omega, by omega⟩
   ·exact .inr ⟨by omega, by omega⟩
/-- THE LEFT RUN HAS ONE ELEMENT: it goes behind all that are less -/
theorem ins_left (hS : SWO lt) {a b i : Nat} {d e : Array α} (hai : a + 1 ≤ i) (hib : i ≤ b) (hr : SortedIn lt (a + 1) b d) (hlt : ∀ x, a + 1 ≤ x → x < i → lt d[x]! d[a]! = true) (hge : ∀ x, i ≤ x → x < b → lt d[x]! d[a]! = false)
  (he : ∀ x, e[x]! = if a ≤ x ∧ x < i - 1 then d[x + 1]! else if x = i - 1 then d[a]! else d[x]!) : SortedIn lt a b e := by
 intro p q hp hpq hq
 rw [he, he]
 repeat' split
 all_goals first | omega | skip
 ·exact hr _ _ (by omega) (by omega) (by omega)
 ·exact hS.asymmA (hlt _ (by omega) (by omega))
 ·exact hr _ _ (by omega) (by omega) (by omega)
 ·exact hge _ (by omega) (by omega)
 ·exact hr _ _ (by omega) (by omega) (by omega)
/-- THE RIGHT RUN HAS ONE ELEMENT: it goes ahead of all that are greater -/
theorem ins_right (hS : SWO lt) {a m i : Nat} {d e : Array α} (hai : a ≤ i) (him : i ≤ m) (hl : SortedIn lt a m d) (hle : ∀ x, a ≤ x → x < i → lt d[m]! d[x]! = false) (hgt : ∀ x, i ≤ x → x < m → lt d[m]! d[x]! = true)
  (he : ∀ x, e[x]! = if i < x ∧ x ≤ m then d[x - 1]! else if x = i then d[m]! else d[x]!) : SortedIn lt a (m + 1) e := by
 intro p q hp hpq hq
 rw [he, he]
 repeat' split
 all_goals first | omega | skip
 ·exact hl _ _ (by omega) (by omega) (by omega)
 ·exact hS.asymmA (hgt _ (by omega) (by omega))
 ·exact hl _ _ (by omega) (by omega) (by omega)
 ·exact hle _ (by omega) (by omega)
 ·exact hl _ _ (by omega) (by omega) (by omega)
/-- one exchange to the right, one to the left -/
theorem shiftR_step {d e : Array α} {a k : Nat} (hs : e.size = d.size) (hk : k + 1 < d.size) (hak : a ≤ k) (h : ∀ x, e[x]! = if a ≤ x ∧ x < k then d[x + 1]! else if x = k then d[a]! else d[x]!) (x : Nat) :
  (swp e k (k + 1))[x]! = if a ≤ x ∧ x < k + 1 then d[x + 1]! else if x = k + 1 then d[a]! else d[x]! := by
 rw [swp_at e (by omega) (by omega), h, h, h]
 repeat' split
 all_goals first | omega | rfl | skip
 all_goals (congr 1; omega)
theorem shiftL_step {d e : Array α} {m k : Nat} (hs : e.size = d.size) (hm : m < d.size) (hkm : k + 1 ≤ m) (h : ∀ x, e[x]! = if k + 1 < x ∧ x ≤ m then d[x - 1]! else if x = k + 1 then d[m]! else d[x]!) (x : Nat) :
  (swp e (k + 1) k)[x]! = if k < x ∧ x ≤ m then d[x - 1]! else if x = k then d[m]! else d[x]! := by
 rw [swp_at e (by omega) (by omega), h, h, h]
 repeat' split
 all_goals first | omega | rfl | skip
 all_goals (congr 1; omega)
/-- BLOCKS: runs of bs elements each rise -/
def Blocks (lt : α → α → Bool) (bs n : Nat) (d : Array α) : Prop := ∀ q, SortedIn lt (q * bs) (min (q * bs + bs) n) d
/-- behind some rounds of a level: runs of 2 bs up to a, runs of bs from there -/
structure Level (lt : α → α → Bool) (bs n a : Nat) (d : Array α) : Prop where
 two : ∀ q, q * (2 * bs) + 2 * bs ≤ a → SortedIn lt (q * (2 * bs)) (q * (2 * bs) + 2 * bs) d
 one : ∀ q, a ≤ q * bs → SortedIn lt (q * bs) (min (q * bs + bs) n) d
theorem Level.start {bs n : Nat} {d : Array α} (hb : 0 < bs) (h : Blocks lt bs n d) : Level lt bs n 0 d := ⟨fun q hq => by omega, fun q _ => h q⟩
theorem Level.step {bs n q : Nat} {d e : Array α} (hb : 0 < bs) (h : Level lt bs n (q * (2 * bs)) d) (hn : q * (2 * bs) + 2 * bs ≤ n) (hp : PermIn (q * (2 * bs)) (q * (2 * bs) + 2 * bs) d e) (hs : SortedIn lt (q * (2 * bs)) (q * (2 * bs) + 2 * bs) e) :
  Level lt bs n ((q + 1) * (2 * bs)) e := by
 have e1 : (q + 1) * (2 * bs) = q * (2 * bs) + 2 * bs := by rw [Nat.add_mul, Nat.one_mul]
 rw [e1]
 refine ⟨fun p hpq => ?_, fun p hpq => ?_⟩
 ·rcases Nat.lt_trichotomy p q with h1 | h1 | h1
  ·have h2 : (p + 1) * (2 * bs) ≤ q * (2 * bs) := Nat.mul_le_mul_right _ h1
   rw [Nat.add_mul, Nat.one_mul] at h2
   exact srt_kept (h.two p h2) hp (.inl h2)
  ·subst h1; exact hs
  ·have h2 : (q + 1) * (2 * bs) ≤ p * (2 * bs) := Nat.mul_le_mul_right _ h1
   omega
 ·exact srt_kept (h.one p (by omega)) hp (.inr hpq)
/-- the last round of a level -/
theorem Level.last {bs n q : Nat} {d e : Array α} (h : Level lt bs n (q * (2 * bs)) d) (hn : n < q * (2 * bs) + 2 * bs) (ha : q * (2 * bs) ≤ n) (hp : PermIn (q * (2 * bs)) n d e) (hs : SortedIn lt (q * (2 * bs)) n e) : Blocks lt (bs * 2) n e := by
 intro p
 rw [Nat.mul_comm bs 2]
 rcases Nat.lt_trichotomy p q with h1 | h1 | h1
 ·have h2 : (p + 1) * (2 * bs) ≤ q * (2 * bs) := Nat.mul_le_mul_right _ h1
  rw [Nat.add_mul, Nat.one_mul] at h2
  exact srt_sub (srt_kept (h.two p h2) hp (.inl h2)) (Nat.le_refl _) (by omega)
 ·subst h1; exact srt_sub hs (Nat.le_refl _) (by omega)
 ·have h2 : (q + 1) * (2 * bs) ≤ p * (2 * bs) := Nat.mul_le_mul_right _ h1
  rw [Nat.add_mul, Nat.one_mul] at h2
  intro i j hi hij hj
  omega
theorem Level.runs {bs n q : Nat} {d : Array α} (h : Level lt bs n (q * (2 * bs)) d) : SortedIn lt (q * (2 * bs)) (min (q * (2 * bs) + bs) n) d ∧ SortedIn lt (q * (2 * bs) + bs) (min (q * (2 * bs) + bs + bs) n) d := by
 have e1 : 2 * q * bs = q * (2 * bs) := by rw [Nat.mul_comm 2 q, Nat.mul_assoc]
 have e2 : (2 * q + 1) * bs = q * (2 * bs) + bs := by rw [Nat.add_mul, Nat.one_mul, e1]
 have h1 := h.one (2 * q) (by omega)
 have h2 := h.one (2 * q + 1) (by omega)
 rw [e1] at h1
 rw [e2] at h2
 exact ⟨h1, h2⟩
theorem Blocks.done {bs n : Nat} {d : Array α} (h : Blocks lt bs n d) (hn : n ≤ bs) : SortedIn lt 0 n d := by
 have := h 0
 rw [Nat.zero_mul] at this
 exact srt_sub this (Nat.le_refl _) (by omega)
/-- THE FIRST LEVEL: blocks sorted by insertion -/
def First (lt : α → α → Bool) (bs a : Nat) (d : Array α) : Prop := ∀ q, q * bs + bs ≤ a → SortedIn lt (q * bs) (q * bs + bs) d
theorem First.step {bs q : Nat} {d e : Array α} (h : First lt bs (q * bs) d) (hp : PermIn (q * bs) (q * bs + bs) d e) (hs : SortedIn lt (q * bs) (q * bs + bs) e) : First lt bs ((q + 1) * bs) e := by
 have e1 : (q + 1) * bs = q * bs + bs := by rw [Nat.add_mul, Nat.one_mul]
 rw [e1]
 intro p hpq
 rcases Nat.lt_trichotomy p q with h1 | h1 | h1
 ·have h2 : (p + 1) * bs ≤ q * bs := Nat.mul_le_mul_right _ h1
  rw [Nat.add_mul, Nat.one_mul] at h2
  exact srt_kept (h p h2) hp (.inl h2)
 ·subst h1; exact hs
 ·have h2 : (q + 1) * bs ≤ p * bs := Nat.mul_le_mul_right _ h1
  intro i j hi hij hj
  omega
theorem First.last {bs n q : Nat} {d e : Array α} (h : First lt bs (q * bs) d) (hn : n < q * bs + bs) (hp : PermIn (q * bs) n d e) (hs : SortedIn lt (q * bs) n e) : Blocks lt bs n e := by
 intro p
 rcases Nat.lt_trichotomy p q with h1 | h1 | h1
 ·have h2 : (p + 1) * bs ≤ q * bs := Nat.mul_le_mul_right _ h1
  rw [Nat.add_mul, Nat.one_mul] at h2
  exact srt_sub (srt_kept (h p h2) hp (.inl h2)) (Nat.le_refl _) (by omega)
 ·subst h1; exact srt_sub hs (Nat.le_refl _) (by omega)
 ·have h2 : (q + 1) * bs ≤ p * bs := Nat.mul_le_mul_right _ h1
  rw [Nat.add_mul, Nat.one_mul] at h2
  intro i j hi hij hj
  omega
end Go.Proofs.Ytnheioehadldmaa
