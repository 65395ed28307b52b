/- PARTS OF THE WALKS, joined: CoB, GrF, PtA, PtB, CoC, CoD. -/
import Derived.Test.YtnheioehadldmaaGreatS05
import Derived.Test.YtnheioehadldmaaGreatS00
import Derived.Test.YtnheioehadldmaaGreatS03
/- PLAIN: columns; entries packed, spread out again. -/
namespace Go.Proofs.YtnheioehadldmaaGreat
open Go.RowKit
structure Col where
 nodes : List Int
 first : List Int
 tos : List Int
 edges : List Int
deriving Inhabited
def adjOrd (a b : Sh) : Int := thenC (Lib.compareInt a.id b.id) (thenC (Lib.compareInt a.n b.n) (Lib.compareInt a.d b.d))
theorem TotC.adj : TotC adjOrd := (TotC.lex TotC.int (TotC.lex TotC.int TotC.int)).pull (fun a : Sh => (a.id, a.n, a.d)) (fun a b h => by
 obtain ⟨h1, h2⟩ := Prod.mk.inj h
 obtain ⟨h2, h3⟩ := Prod.mk.inj h2
 cases a; cases b; cases h1; cases h2; cases h3; rfl)
/-- does a row begin here -/
def headB (l : List Sh) (i : Nat) : Bool := decide (i = 0) || !decide (l[i]!.id = l[i - 1]!.id)
def headsK (l : List Sh) (k : Nat) : List Nat := (List.range k).filter (headB l)
def packK (l : List Sh) (k : Nat) : Col := ⟨(headsK l k).map (fun i => l[i]!.id), (headsK l k).map (fun i : Nat => (i : Int)), (l.take k).map Sh.n, (l.take k).map Sh.d⟩
def packC (l : List Sh) : Col := { packK l l.length with first := (packK l l.length).first ++ (if l = [] then [] else [(l.length : Int)]) }
theorem headsK_yes {l : List Sh} {k : Nat} (h : headB l k = true) : headsK l (k + 1) = headsK l k ++ [k] := by
 unfold headsK
 rw [List.range_succ, List.filter_append]; simp [h]
theorem headsK_no {l : List Sh} {k : Nat} (h : headB l k = false) : headsK l (k + 1) = headsK l k := by
 unfold headsK
 rw [List.range_succ, List.filter_append]; simp [h]
/-- an entry of a column -/
def entC (c : Col) (i k : Nat) : Sh := ⟨c.nodes[i]!, c.tos[k]!, c.edges[k]!⟩
/-- the entries of row i up to k -/
def rowK (c : Col) (i k : Nat) : List Sh := (List.range' c.first[i]!.toNat (k - c.first[i]!.toNat)).map (entC c i)
def flatK (c : Col) (i : Nat) : List Sh := (List.range i).flatMap (fun i => rowK c i c.first[i + 1]!.toNat)
def flatC (c : Col) : List Sh := flatK c c.nodes.length
theorem rowK_start (c : Col) (i : Nat) : rowK c i c.first[i]!.toNat = [] := by unfold rowK; rw [Nat.sub_self]; rfl
theorem rowK_snoc {c : Col} {i k : Nat} (h : c.first[i]!.toNat ≤ k) : rowK c i (k + 1) = rowK c i k ++ [entC c i k] := by
 unfold rowK
 rw [show k + 1 - c.first[i]!.toNat = (k - c.first[i]!.toNat) + 1 by omega, List.range'_1_concat, List.map_append, show c.first[i]!.toNat + (k - c.first[i]!.toNat) = k by omega]
 rfl
theorem flatK_succ (c : Col) (i : Nat) : flatK c (i + 1) = flatK c i ++ rowK c i c.first[i + 1]!.toNat := by
 unfold flatK
 rw [List.range_succ, List.flatMap_append]; simp
/-- the lists of a column fit together -/
structure ShapeC (c : Col) : Prop where
 len : c.first.length = c.nodes.length + 1
 zero : c.first[0]! = 0
 same : c.tos.length = c.edges.length
 last : c.first[c.nodes.length]! = (c.tos.length : Int)
 rise : ∀ i, i < c.nodes.length → c.first[i]! < c.first[i + 1]!
theorem ShapeC.nn {c : Col} (h : ShapeC c) : ∀ {i : Nat}, i ≤ c.nodes.length → 0 ≤ c.first[i]!
 | 0, _ => by rw [h.zero]; decide
 | i + 1, hi => by have := h.rise i (by omega); have := h.nn (i := i) (by omega); omega
theorem ShapeC.mono {c : Col} (h : ShapeC c) : ∀ {i j : Nat}, i ≤ j → j ≤ c.nodes.length → c.first[i]! ≤ c.first[j]!
 | i, 0, hi, _ => by rw [Nat.le_zero.1 hi]; omega
 | i, j + 1, hi, hj => by
  rcases Nat.eq_or_lt_of_le hi with e | e
  ·rw [e]; omega
  ·have := h.mono (i := i) (j := j) (by omega) (by omega); have := h.rise j (by omega); omega
theorem ShapeC.lt {c : Col} (h : ShapeC c) {i j : Nat} (hij : i < j) (hj : j ≤ c.nodes.length) : c.first[i]! < c.first[j]! := by
 have := h.rise i (by omega); have := h.mono (i := i + 1) (j := j) hij hj; omega
theorem ShapeC.le {c : Col} (h : ShapeC c) {i : Nat} (hi : i ≤ c.nodes.length) : c.first[i]! ≤ (c.tos.length : Int) := by rw [← h.last]; exact h.mono hi (Nat.le_refl _)
theorem flatK_len {c : Col} (h : ShapeC c) : ∀ {i : Nat}, i ≤ c.nodes.length → (flatK c i).length = c.first[i]!.toNat
 | 0, _ => by rw [h.zero]; rfl
 | i + 1, hi => by
  rw [flatK_succ, List.length_append, flatK_len h (i := i) (by omega)]
  unfold rowK
  rw [List.length_map, List.length_range']
  have := h.rise i (by omega); have := h.nn (i := i) (by omega); omega
theorem flatC_len {c : Col} (h : ShapeC c) : (flatC c).length = c.tos.length := by
 unfold flatC; rw [flatK_len h (Nat.le_refl _), h.last]; omega
theorem flatK_at {c : Col} (h : ShapeC c) : ∀ {n i k : Nat}, n ≤ c.nodes.length → i < n → c.first[i]!.toNat ≤ k → k < c.first[i + 1]!.toNat → (flatK c n)[k]? = some (entC c i k)
 | 0, _, _, _, hi, _, _ => absurd hi (by omega)
 | n + 1, i, k, hn, hi, h1, h2 => by
  rw [flatK_succ]
  have hl := flatK_len h (i := n) (by omega)
  have h0 := h.nn (i := n) (by omega)
  by_cases e : i = n
  ·subst e
   rw [List.getElem?_append_right (by omega), hl]
   unfold rowK
   rw [List.getElem?_map, List.getElem?_range' (by omega)]
   show some (entC c i (c.first[i]!.toNat + 1 * (k - c.first[i]!.toNat))) = _
   rw [show c.first[i]!.toNat + 1 * (k - c.first[i]!.toNat) = k by omega]
  ·have := h.mono (i := i + 1) (j := n) (by omega) (by omega)
   rw [List.getElem?_append_left (by omega)]
   exact flatK_at h (by omega) (by omega) h1 h2
/-- the row in which an entry lies -/
theorem ShapeC.row {c : Col} (h : ShapeC c) : ∀ {n k : Nat}, n ≤ c.nodes.length → k < c.first[n]!.toNat → ∃ i, i < n ∧ c.first[i]!.toNat ≤ k ∧ k < c.first[i + 1]!.toNat
 | 0, k, _, hk => by rw [h.zero] at hk; exact absurd hk (by simp)
 | n + 1, k, hn, hk => by
  by_cases e : k < c.first[n]!.toNat
  ·obtain ⟨i, h1, h2⟩ := h.row (n := n) (by omega) e
   exact ⟨i, by omega, h2⟩
  ·exact ⟨n, by omega, by omega, hk⟩
theorem flatC_nd {c : Col} (h : ShapeC c) {k : Nat} (hk : k < c.tos.length) : ∃ i, i < c.nodes.length ∧ c.first[i]!.toNat ≤ k ∧ k < c.first[i + 1]!.toNat ∧ (flatC c)[k]! = entC c i k := by
 obtain ⟨i, h1, h2, h3⟩ := h.row (n := c.nodes.length) (k := k) (Nat.le_refl _) (by rw [h.last]; omega)
 refine ⟨i, h1, h2, h3, ?_⟩
 have h4 := flatK_at h (Nat.le_refl _) h1 h2 h3
 rw [getElem!_def]
 unfold flatC
 rw [h4]
end Go.Proofs.YtnheioehadldmaaGreat

/- PLAIN: what a valid graph bears. No program in sight. -/
namespace Go.Proofs.YtnheioehadldmaaGreat
open Go.RowKit
/-- ids rise, all numbers are ids, edges lead from nodes to nodes -/
structure GoodG (g : GraphG) : Prop where
 nlt : ∀ i j, i < j → j < g.nodes.length → g.nodes[i]!.id < g.nodes[j]!.id
 elt : ∀ i j, i < j → j < g.edges.length → g.edges[i]!.id < g.edges[j]!.id
 nid : ∀ n ∈ g.nodes, 1 ≤ n.id ∧ n.id ≤ 1000000
 eid : ∀ e ∈ g.edges, 1 ≤ e.id ∧ e.id ≤ 1000000
 ends : ∀ e ∈ g.edges, (∃ n ∈ g.nodes, n.id = e.frm) ∧ ∃ n ∈ g.nodes, n.id = e.to_
 nlen : g.nodes.length ≤ 2000
 elen : g.edges.length ≤ 4000
theorem gf_parts {g : GraphG} (h : chkG g = 0) : headE g = 0 ∧ nodesE g = 0 ∧ edgesE g = 0 := by
 unfold chkG at h
 split at h
 ·rename_i h1
  split at h
  ·rename_i h2; exact ⟨h1, h2, h⟩
  ·rename_i h2; exact absurd h h2
 ·rename_i h1; exact absurd h h1
theorem gf_head {g : GraphG} (h : headE g = 0) : g.nodes.length ≤ 2000 ∧ g.edges.length ≤ 4000 ∧ 1 ≤ g.nn ∧ g.nn ≤ 1000001 ∧ 1 ≤ g.ne ∧ g.ne ≤ 1000001 := by
 unfold headE at h
 split at h
 ·cases h
 ·split at h
  ·cases h
  ·omega
theorem gf_has {l : List NodeG} {i : Int} : hasN l i = true ↔ ∃ n ∈ l, n.id = i := by
 unfold hasN
 rw [List.any_eq_true]
 exact ⟨fun ⟨x, hx, he⟩ => ⟨x, hx, of_decide_eq_true he⟩, fun ⟨x, hx, he⟩ => ⟨x, hx, decide_eq_true he⟩⟩
theorem gf_edge {g : GraphG} (h : edgesE g = 0) {i : Nat} (hi : i < g.edges.length) : (0 < i → g.edges[i - 1]!.id < g.edges[i]!.id) ∧ 1 ≤ g.edges[i]!.id ∧ g.edges[i]!.id < g.ne ∧ hasN g.nodes g.edges[i]!.frm = true ∧ hasN g.nodes g.edges[i]!.to_ = true ∧ nameB g.edges[i]!.typ = true ∧ partsE [] g.edges[i]!.props = 0 := by
 have h1 := firstE_all h i hi
 unfold edgeE at h1
 split at h1
 ·cases h1
 ·rename_i h2
  split at h1
  ·cases h1
  ·rename_i h3
   split at h1
   ·rename_i h4
    rw [Bool.and_eq_true] at h4
    split at h1
    ·rename_i h5; exact ⟨fun hp => by omega, by omega, by omega, h4.1, h4.2, h5, h1⟩
    ·cases h1
   ·cases h1
theorem gf_node {g : GraphG} (h : nodesE g = 0) {i : Nat} (hi : i < g.nodes.length) : (0 < i → g.nodes[i - 1]!.id < g.nodes[i]!.id) ∧ 1 ≤ g.nodes[i]!.id ∧ g.nodes[i]!.id < g.nn ∧ partsE g.nodes[i]!.labels g.nodes[i]!.props = 0 := by
 have h1 := firstE_all h i hi
 unfold nodeE at h1
 split at h1
 ·cases h1
 ·rename_i h2
  split at h1
  ·cases h1
  ·rename_i h3; exact ⟨fun hp => by omega, by omega, by omega, h1⟩
theorem gf_rise {n : Nat} {f : Nat → Int} (h : ∀ i, 0 < i → i < n → f (i - 1) < f i) : ∀ {i j : Nat}, i < j → j < n → f i < f j := by
 intro i j hij
 induction j with
 | zero => omega
 | succ j ih =>
  intro hj
  have h1 := h (j + 1) (by omega) hj
  rw [Nat.add_sub_cancel] at h1
  rcases Nat.lt_or_eq_of_le (Nat.le_of_lt_succ hij) with h2 | h2
  ·have := ih h2 (by omega); omega
  ·rw [h2]; exact h1
theorem gf_mem {α : Type} [Inhabited α] {l : List α} {x : α} (h : x ∈ l) : ∃ i, i < l.length ∧ l[i]! = x := by
 obtain ⟨i, hi, rfl⟩ := List.getElem_of_mem h
 exact ⟨i, hi, getElem!_pos l i hi⟩
theorem good_of {g : GraphG} (h : chkG g = 0) : GoodG g := by
 obtain ⟨h0, h1, h2⟩ := gf_parts h
 obtain ⟨a1, a2, a3, a4, a5, a6⟩ := gf_head h0
 refine ⟨fun i j hij hj => gf_rise (n := g.nodes.length) (f := fun i => g.nodes[i]!.id) (fun i hp hi => (gf_node h1 hi).1 hp) hij hj, fun i j hij hj => gf_rise (n := g.edges.length) (f := fun i => g.edges[i]!.id) (fun i hp hi => (gf_edge h2 hi).1 hp) hij hj, fun n hn => ?_, fun e he => ?_, fun e he => ?_, a1, a2⟩
 ·obtain ⟨i, hi, rfl⟩ := gf_mem hn
  have := gf_node h1 hi
  omega
 ·obtain ⟨i, hi, rfl⟩ := gf_mem he
  have := gf_edge h2 hi
  omega
 ·obtain ⟨i, hi, rfl⟩ := gf_mem he
  have := gf_edge h2 hi
  exact ⟨gf_has.1 this.2.2.2.1, gf_has.1 this.2.2.2.2.1⟩
theorem pw_bang {α : Type} [Inhabited α] {R : α → α → Prop} {l : List α} (h : ∀ i j, i < j → j < l.length → R l[i]! l[j]!) : l.Pairwise R :=
 List.pairwise_iff_getElem.2 (fun i j hi hj hij => by have := h i j hij hj; rwa [getElem!_pos l i hi, getElem!_pos l j hj] at this)
theorem GoodG.npw {g : GraphG} (h : GoodG g) : g.nodes.Pairwise (fun a b => a.id < b.id) := pw_bang h.nlt
end Go.Proofs.YtnheioehadldmaaGreat

/- PLAIN: paths: steps, modes, what lies within some hops, and its order. No program in sight. -/
namespace Go.Proofs.YtnheioehadldmaaGreat
open Go.RowKit
/- lists -/
theorem fm_cong {α β : Type} {f g : α → List β} : ∀ {m : List α}, (∀ z ∈ m, (f z).Perm (g z)) → (m.flatMap f).Perm (m.flatMap g)
 | [], _ => .nil
 | z :: m, h => by rw [List.flatMap_cons, List.flatMap_cons]; exact (h z (by simp)).append (fm_cong (fun y hy => h y (by simp [hy])))
theorem fm_split {α β : Type} {f g : α → List β} : ∀ m : List α, (m.flatMap (fun a => f a ++ g a)).Perm (m.flatMap f ++ m.flatMap g)
 | [] => .nil
 | z :: m => by
  rw [List.flatMap_cons, List.flatMap_cons, List.flatMap_cons, List.append_assoc, List.append_assoc]
  refine List.Perm.append_left _ ?_
  have h1 := (fm_split (f := f) (g := g) m).append_left (g z)
  refine h1.trans ?_
  rw [← List.append_assoc, ← List.append_assoc]
  exact List.perm_append_comm.append_right _
theorem fm_none {α β : Type} : ∀ m : List α, m.flatMap (fun _ => ([] : List β)) = []
 | [] => rfl
 | x :: m => by rw [List.flatMap_cons, fm_none m]; rfl
theorem fm_swap {α β γ : Type} (f : α → β → List γ) (m : List β) : ∀ l : List α, (l.flatMap (fun a => m.flatMap (f a))).Perm (m.flatMap (fun b => l.flatMap (fun a => f a b)))
 | [] => by
  simp only [List.flatMap_nil, fm_none]; exact .nil
 | a :: l => by
  simp only [List.flatMap_cons]
  exact ((fm_swap f m l).append_left _).trans (fm_split (f := f a) (g := fun b => l.flatMap (fun a => f a b)) m).symm
/- steps and modes -/
abbrev Hop := Int × Int
/-- the node to which an edge leads from n -/
def toE (types : List ByteArray) (dir n : Int) (e : EdgeG) : Option Int :=
 if typB types e.typ = true then (if (dir = 1 ∨ dir = 3) ∧ e.frm = n then some e.to_ else if (dir = 2 ∨ dir = 3) ∧ e.to_ = n then some e.frm else none) else none
def hopE (types : List ByteArray) (dir n : Int) (e : EdgeG) : Option Hop := (toE types dir n e).map (fun t => (e.id, t))
def hopsE (g : GraphG) (types : List ByteArray) (dir n : Int) : List Hop := g.edges.filterMap (hopE types dir n)
/-- the nodes of a path -/
def nodeP (s : Int) (h : List Hop) (i : Nat) : Int := (s :: h.map Prod.snd)[i]!
/- what lies within some hops -/
section
variable (g : GraphG) (types : List ByteArray) (dir mode s : Int)
end
end Go.Proofs.YtnheioehadldmaaGreat

/- PLAIN: the order of paths: what the reference lists rises. No program in sight. -/
namespace Go.Proofs.YtnheioehadldmaaGreat
open Go.RowKit
/-- the hops of a value -/
def hopsV (v : Val) : Int := if v.kind = 7 ∧ validV v = true then ((v.l.length / 2 : Nat) : Int) else -1
def ordP (a b : Val) : Int := thenC (Lib.compareInt (hopsV a) (hopsV b)) (ordV a b)
theorem TotC.path : TotC ordP :=
 (TotC.lex TotC.int TotC.val).pull (fun v => (hopsV v, v)) (fun _ _ h => (Prod.mk.inj h).2)
def idOk (i : Int) : Prop := 1 ≤ i ∧ i ≤ 1000000
/-- all numbers of a path are ids -/
def RngP (s : Int) (h : List Hop) : Prop := idOk s ∧ ∀ x ∈ h, idOk x.1 ∧ idOk x.2
theorem RngP.node {s : Int} {h : List Hop} (hr : RngP s h) {i : Nat} (hi : i ≤ h.length) : idOk (nodeP s h i) := by
 unfold nodeP
 rw [getElem!_pos _ i (by simp; omega)]
 cases i with
 | zero => exact hr.1
 | succ i => rw [List.getElem_cons_succ, List.getElem_map]; exact (hr.2 _ (List.getElem_mem _)).2
section
variable {g : GraphG} {types : List ByteArray} {dir mode s : Int}
end
end Go.Proofs.YtnheioehadldmaaGreat

/- PLAIN: packing undoes spreading, and spreading undoes packing; valid columns. -/
namespace Go.Proofs.YtnheioehadldmaaGreat
open Go.RowKit
theorem bang_of {α : Type} [Inhabited α] {l : List α} {i : Nat} {x : α} (h : l[i]? = some x) : l[i]! = x := by rw [getElem!_def, h]
theorem some_bang {α : Type} [Inhabited α] {l : List α} {i : Nat} (h : i < l.length) : l[i]? = some l[i]! := by rw [getElem!_pos l i h]; exact List.getElem?_eq_getElem h
theorem ext_bang {α : Type} [Inhabited α] {l m : List α} (hl : l.length = m.length) (h : ∀ i, i < m.length → l[i]! = m[i]!) : l = m := by
 apply List.ext_getElem hl
 intro i h1 h2
 have := h i h2
 rwa [getElem!_pos l i h1, getElem!_pos m i h2] at this
theorem flat_at {c : Col} (h : ShapeC c) {i k : Nat} (hi : i < c.nodes.length) (h1 : c.first[i]!.toNat ≤ k) (h2 : k < c.first[i + 1]!.toNat) : (flatC c)[k]! = entC c i k := bang_of (flatK_at h (Nat.le_refl _) hi h1 h2)
end Go.Proofs.YtnheioehadldmaaGreat

/- PLAIN: what is packed spreads out as it was; valid columns are the packed good lists. -/
namespace Go.Proofs.YtnheioehadldmaaGreat
open Go.RowKit
theorem heads_rise (l : List Sh) (k : Nat) : (headsK l k).Pairwise (· < ·) := List.Pairwise.filter _ List.pairwise_lt_range
theorem heads_mem {l : List Sh} {k i : Nat} : i ∈ headsK l k ↔ i < k ∧ headB l i = true := by unfold headsK; rw [List.mem_filter, List.mem_range]
theorem heads_zero {l : List Sh} {k : Nat} (hk : 0 < k) : (headsK l k)[0]! = 0 := by
 have h0 : 0 ∈ headsK l k := heads_mem.2 ⟨hk, rfl⟩
 obtain ⟨j, hj, e⟩ := List.getElem_of_mem h0
 have hp : 0 < (headsK l k).length := by omega
 rw [getElem!_pos _ 0 hp]
 rcases Nat.eq_zero_or_pos j with h | h
 ·subst h; exact e
 ·have := List.pairwise_iff_getElem.1 (heads_rise l k) 0 j hp hj h
  omega
/-- the row's first entry at or behind which k lies -/
def cutK (l : List Sh) (i : Nat) : Nat := ((headsK l l.length)[i]?).getD l.length
theorem cut_in {l : List Sh} {i : Nat} (h : i < (headsK l l.length).length) : cutK l i = (headsK l l.length)[i] := by unfold cutK; rw [List.getElem?_eq_getElem h]; rfl
theorem cut_end (l : List Sh) : cutK l (headsK l l.length).length = l.length := by unfold cutK; rw [List.getElem?_eq_none (Nat.le_refl _)]; rfl
theorem cut_rise {l : List Sh} {i : Nat} (h : i < (headsK l l.length).length) : cutK l i < cutK l (i + 1) := by
 rw [cut_in h]
 rcases Nat.lt_or_ge (i + 1) (headsK l l.length).length with h1 | h1
 ·rw [cut_in h1]
  exact List.pairwise_iff_getElem.1 (heads_rise l l.length) i (i + 1) h h1 (by omega)
 ·have : i + 1 = (headsK l l.length).length := by omega
  rw [this, cut_end]
  exact (heads_mem.1 (List.getElem_mem h)).1
theorem cut_inner {l : List Sh} {i k : Nat} (h : i < (headsK l l.length).length) (h1 : cutK l i < k) (h2 : k < cutK l (i + 1)) : headB l k = false := by
 cases hb : headB l k
 ·rfl
 ·exfalso
  have hk : k < l.length := by
   rcases Nat.lt_or_ge (i + 1) (headsK l l.length).length with h3 | h3
   ·rw [cut_in h3] at h2
    have := (heads_mem.1 (List.getElem_mem h3)).1; omega
   ·have : i + 1 = (headsK l l.length).length := by omega
    rw [this, cut_end] at h2; exact h2
  obtain ⟨j, hj, e⟩ := List.getElem_of_mem (heads_mem.2 ⟨hk, hb⟩)
  rw [cut_in h] at h1
  have hr := List.pairwise_iff_getElem.1 (heads_rise l l.length)
  rcases Nat.lt_trichotomy j i with h3 | h3 | h3
  ·have := hr j i hj h h3; omega
  ·subst h3; omega
  ·rcases Nat.eq_or_lt_of_le (show i + 1 ≤ j from h3) with h4 | h4
   ·subst h4; rw [cut_in hj] at h2; omega
   ·have := hr (i + 1) j (by omega) hj h4
    rw [cut_in (show i + 1 < (headsK l l.length).length by omega)] at h2; omega
theorem cut_same {l : List Sh} {i : Nat} (h : i < (headsK l l.length).length) : ∀ d : Nat, cutK l i + d < cutK l (i + 1) → l[cutK l i + d]!.id = l[cutK l i]!.id
 | 0, _ => rfl
 | d + 1, hd => by
  have h1 := cut_inner h (k := cutK l i + (d + 1)) (by omega) hd
  unfold headB at h1
  rw [Bool.or_eq_false_iff] at h1
  have h2 : l[cutK l i + (d + 1)]!.id = l[cutK l i + (d + 1) - 1]!.id := by simpa using h1.2
  rw [h2, show cutK l i + (d + 1) - 1 = cutK l i + d by omega]
  exact cut_same h d (by omega)
theorem pack_nodes {l : List Sh} {i : Nat} (h : i < (headsK l l.length).length) : (packC l).nodes[i]! = l[cutK l i]!.id := by
 show ((headsK l l.length).map (fun i => l[i]!.id))[i]! = _
 rw [getElem!_pos _ i (by simpa using h), List.getElem_map, cut_in h]
theorem pack_nlen (l : List Sh) : (packC l).nodes.length = (headsK l l.length).length := List.length_map _
theorem pack_tos (l : List Sh) : (packC l).tos = l.map Sh.n := by show (l.take l.length).map Sh.n = _; rw [List.take_length]
theorem pack_edges (l : List Sh) : (packC l).edges = l.map Sh.d := by show (l.take l.length).map Sh.d = _; rw [List.take_length]
theorem pack_first {l : List Sh} (h0 : l ≠ []) {i : Nat} (hi : i ≤ (headsK l l.length).length) : (packC l).first[i]! = (cutK l i : Int) := by
 show ((headsK l l.length).map (fun i : Nat => (i : Int)) ++ (if l = [] then [] else [(l.length : Int)]))[i]! = _
 rw [if_neg h0, getElem!_pos _ i (by simp; omega)]
 rcases Nat.lt_or_ge i (headsK l l.length).length with h1 | h1
 ·rw [List.getElem_append_left (by simpa using h1), List.getElem_map, cut_in h1]
 ·have e : i = (headsK l l.length).length := by omega
  subst e
  rw [List.getElem_append_right (by simp), cut_end]; simp
theorem pack_shape {l : List Sh} (h0 : l ≠ []) : ShapeC (packC l) where
 len := by
  show ((headsK l l.length).map (fun i : Nat => (i : Int)) ++ (if l = [] then [] else [(l.length : Int)])).length = ((headsK l l.length).map _).length + 1
  rw [if_neg h0]; simp
 zero := by
  rw [pack_first h0 (Nat.zero_le _)]
  have hp : 0 < l.length := List.length_pos_iff.2 h0
  have hh : 0 < (headsK l l.length).length := List.length_pos_iff.2 (fun e => by have := heads_mem.2 (show 0 < l.length ∧ headB l 0 = true from ⟨hp, rfl⟩); rw [e] at this; cases this)
  have := heads_zero (l := l) hp
  rw [getElem!_pos _ 0 hh] at this
  rw [cut_in hh, this]; rfl
 same := by rw [pack_tos, pack_edges, List.length_map, List.length_map]
 last := by rw [pack_nlen, pack_first h0 (Nat.le_refl _), cut_end, pack_tos, List.length_map]
 rise := fun i hi => by
  rw [pack_nlen] at hi
  rw [pack_first h0 (by omega), pack_first h0 (by omega)]
  have := cut_rise hi
  omega
theorem flat_pack (l : List Sh) : flatC (packC l) = l := by
 by_cases h0 : l = []
 ·subst h0; rfl
 ·have hS := pack_shape h0
  have hl := flatC_len hS
  rw [pack_tos, List.length_map] at hl
  refine ext_bang hl (fun k hk => ?_)
  obtain ⟨i, h1, h2, h3, h4⟩ := flatC_nd hS (k := k) (by rw [pack_tos, List.length_map]; exact hk)
  rw [pack_nlen] at h1
  rw [pack_first h0 (by omega)] at h2 h3
  rw [h4]
  unfold entC
  have h5 := cut_same h1 (k - cutK l i) (by omega)
  rw [show cutK l i + (k - cutK l i) = k by omega] at h5
  rw [pack_nodes h1, pack_tos, pack_edges, getElem!_pos _ k (by simpa using hk), getElem!_pos (l.map Sh.d) k (by simpa using hk), List.getElem_map, List.getElem_map, ← getElem!_pos l k hk, ← h5]
/-- a list of entries that a valid column may bear -/
structure GoodL (l : List Sh) : Prop where
 ids : ∀ a ∈ l, idOk a.id ∧ idOk a.n ∧ idOk a.d
 rise : l.Pairwise (fun a b => adjOrd a b < 0)
 once : (l.map Sh.d).Nodup
def validP (c : Col) : Prop := (c.nodes = [] ∧ c.first = [] ∧ c.tos = [] ∧ c.edges = []) ∨ (ShapeC c ∧ c.nodes.Pairwise (· < ·) ∧ GoodL (flatC c))
theorem ord_id {a b : Sh} (h : adjOrd a b < 0) : a.id ≤ b.id := by
 unfold adjOrd thenC Lib.compareInt at h
 split at h <;> (try split at h) <;> (try split at h) <;> omega
theorem pack_valid {l : List Sh} (h : GoodL l) : validP (packC l) := by
 by_cases h0 : l = []
 ·subst h0; exact .inl ⟨rfl, rfl, rfl, rfl⟩
 ·refine .inr ⟨pack_shape h0, ?_, by rw [flat_pack]; exact h⟩
  rw [List.pairwise_iff_getElem]
  intro i j hi hj hij
  have hi' := hi; have hj' := hj
  rw [pack_nlen] at hi' hj'
  rw [← getElem!_pos _ i hi, ← getElem!_pos _ j hj, pack_nodes hi', pack_nodes hj', cut_in hi', cut_in hj']
  have h1 := List.pairwise_iff_getElem.1 (heads_rise l l.length) i j hi' hj' hij
  obtain ⟨h2, h3⟩ := heads_mem.1 (List.getElem_mem hj')
  have hr := List.pairwise_iff_getElem.1 h.rise
  unfold headB at h3
  generalize (headsK l l.length)[i] = x at *
  generalize (headsK l l.length)[j] = y at *
  have h4 : l[y]!.id ≠ l[y - 1]!.id := by simpa [show y ≠ 0 by omega] using h3
  have h5 : l[y - 1]!.id ≤ l[y]!.id := by
   have := ord_id (hr (y - 1) y (by omega) h2 (by omega))
   rwa [← getElem!_pos l y h2, ← getElem!_pos l (y - 1) (by omega)] at this
  have h6 : l[x]!.id ≤ l[y - 1]!.id := by
   rcases Nat.eq_or_lt_of_le (show x ≤ y - 1 by omega) with e | e
   ·rw [e]; omega
   ·have := ord_id (hr x (y - 1) (by omega) (by omega) e)
    rwa [← getElem!_pos l x (by omega), ← getElem!_pos l (y - 1) (by omega)] at this
  omega
end Go.Proofs.YtnheioehadldmaaGreat
