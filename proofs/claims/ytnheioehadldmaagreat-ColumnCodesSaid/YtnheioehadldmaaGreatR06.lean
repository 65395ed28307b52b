/- PARTS OF THE WALKS, joined: PtB, CoC, CoD, Merge, SaM, Stage. -/
import Derived.Test.YtnheioehadldmaaGreatR05
import Derived.Sort.LotA
import Derived.Test.YtnheioehadldmaaGreatR00
import Derived.Deep.RegionHeld
/- PLAIN: the order of paths: what the reference lists rises. No program in sight. -/
namespace Go.Proofs.YtnheioehadldmaaGreat
open Go.RowKit
/-- the hops of a value -/
def hopsV (v : Val) : Int := if v.kind = 7 ∧ validV v = true then ((v.l.length / 2 : Nat) : Int) else -1
def ordP (a b : Val) : Int := thenC (Lib.compareInt (hopsV a) (hopsV b)) (ordV a b)
theorem TotC.path : TotC ordP :=
 (TotC.lex TotC.int TotC.val).pull (fun v => (hopsV v, v)) (fun _ _ h => (Prod.mk.inj h).2)
def idOk (i : Int) : Prop := 1 ≤ i ∧ i ≤ 1000000
/-- all numbers of a path are ids -/
def RngP (s : Int) (h : List Hop) : Prop := idOk s ∧ ∀ x ∈ h, idOk x.1 ∧ idOk x.2
theorem RngP.node {s : Int} {h : List Hop} (hr : RngP s h) {i : Nat} (hi : i ≤ h.length) : idOk (nodeP s h i) := by
 unfold nodeP
 rw [getElem!_pos _ i (by simp; omega)]
 cases i with
 | zero => exact hr.1
 | succ i => rw [List.getElem_cons_succ, List.getElem_map]; exact (hr.2 _ (List.getElem_mem _)).2
section
variable {g : GraphG} {types : List ByteArray} {dir mode s : Int}
end
end Go.Proofs.YtnheioehadldmaaGreat

/- PLAIN: packing undoes spreading, and spreading undoes packing; valid columns. -/
namespace Go.Proofs.YtnheioehadldmaaGreat
open Go.RowKit
theorem bang_of {α : Type} [Inhabited α] {l : List α} {i : Nat} {x : α} (h : l[i]? = some x) : l[i]! = x := by rw [getElem!_def, h]
theorem ext_bang {α : Type} [Inhabited α] {l m : List α} (hl : l.length = m.length) (h : ∀ i, i < m.length → l[i]! = m[i]!) : l = m := by
 apply List.ext_getElem hl
 intro i h1 h2
 have := h i h2
 rwa [getElem!_pos l i h1, getElem!_pos m i h2] at this
theorem flat_at {c : Col} (h : ShapeC c) {i k : Nat} (hi : i < c.nodes.length) (h1 : c.first[i]!.toNat ≤ k) (h2 : k < c.first[i + 1]!.toNat) : (flatC c)[k]! = entC c i k := bang_of (flatK_at h (Nat.le_refl _) hi h1 h2)
end Go.Proofs.YtnheioehadldmaaGreat

/- PLAIN: what is packed spreads out as it was; valid columns are the packed good lists. -/
namespace Go.Proofs.YtnheioehadldmaaGreat
open Go.RowKit
theorem heads_rise (l : List Sh) (k : Nat) : (headsK l k).Pairwise (· < ·) := List.Pairwise.filter _ List.pairwise_lt_range
theorem heads_mem {l : List Sh} {k i : Nat} : i ∈ headsK l k ↔ i < k ∧ headB l i = true := by unfold headsK; rw [List.mem_filter, List.mem_range]
theorem heads_zero {l : List Sh} {k : Nat} (hk : 0 < k) : (headsK l k)[0]! = 0 := by
 have h0 : 0 ∈ headsK l k := heads_mem.2 ⟨hk, rfl⟩
 obtain ⟨j, hj, e⟩ := List.getElem_of_mem h0
 have hp : 0 < (headsK l k).length := by omega
 rw [getElem!_pos _ 0 hp]
 rcases Nat.eq_zero_or_pos j with h | h
 ·subst h; exact e
 ·have := List.pairwise_iff_getElem.1 (heads_rise l k) 0 j hp hj h
  omega
/-- the row's first entry at or behind which k lies -/
def cutK (l : List Sh) (i : Nat) : Nat := ((headsK l l.length)[i]?).getD l.length
theorem cut_in {l : List Sh} {i : Nat} (h : i < (headsK l l.length).length) : cutK l i = (headsK l l.length)[i] := by unfold cutK; rw [List.getElem?_eq_getElem h]; rfl
theorem cut_end (l : List Sh) : cutK l (headsK l l.length).length = l.length := by unfold cutK; rw [List.getElem?_eq_none (Nat.le_refl _)]; rfl
theorem cut_rise {l : List Sh} {i : Nat} (h : i < (headsK l l.length).length) : cutK l i < cutK l (i + 1) := by
 rw [cut_in h]
 rcases Nat.lt_or_ge (i + 1) (headsK l l.length).length with h1 | h1
 ·rw [cut_in h1]
  exact List.pairwise_iff_getElem.1 (heads_rise l l.length) i (i + 1) h h1 (by omega)
 ·have : i + 1 = (headsK l l.length).length := by omega
  rw [this, cut_end]
  exact (heads_mem.1 (List.getElem_mem h)).1
theorem cut_inner {l : List Sh} {i k : Nat} (h : i < (headsK l l.length).length) (h1 : cutK l i < k) (h2 : k < cutK l (i + 1)) : headB l k = false := by
 cases hb : headB l k
 ·rfl
 ·exfalso
  have hk : k < l.length := by
   rcases Nat.lt_or_ge (i + 1) (headsK l l.length).length with h3 | h3
   ·rw [cut_in h3] at h2
    have := (heads_mem.1 (List.getElem_mem h3)).1; omega
   ·have : i + 1 = (headsK l l.length).length := by omega
    rw [this, cut_end] at h2; exact h2
  obtain ⟨j, hj, e⟩ := List.getElem_of_mem (heads_mem.2 ⟨hk, hb⟩)
  rw [cut_in h] at h1
  have hr := List.pairwise_iff_getElem.1 (heads_rise l l.length)
  rcases Nat.lt_trichotomy j i with h3 | h3 | h3
  ·have := hr j i hj h h3; omega
  ·subst h3; omega
  ·rcases Nat.eq_or_lt_of_le (show i + 1 ≤ j from h3) with h4 | h4
   ·subst h4; rw [cut_in hj] at h2; omega
   ·have := hr (i + 1) j (by omega) hj h4
    rw [cut_in (show i + 1 < (headsK l l.length).length by omega)] at h2; omega
theorem cut_same {l : List Sh} {i : Nat} (h : i < (headsK l l.length).length) : ∀ d : Nat, cutK l i + d < cutK l (i + 1) → l[cutK l i + d]!.id = l[cutK l i]!.id
 | 0, _ => rfl
 | d + 1, hd => by
  have h1 := cut_inner h (k := cutK l i + (d + 1)) (by omega) hd
  unfold headB at h1
  rw [Bool.or_eq_false_iff] at h1
  have h2 : l[cutK l i + (d + 1)]!.id = l[cutK l i + (d + 1) - 1]!.id := by simpa using h1.2
  rw [h2, show cutK l i + (d + 1) - 1 = cutK l i + d by omega]
  exact cut_same h d (by omega)
theorem pack_nodes {l : List Sh} {i : Nat} (h : i < (headsK l l.length).length) : (packC l).nodes[i]! = l[cutK l i]!.id := by
 show ((headsK l l.length).map (fun i => l[i]!.id))[i]! = _
 rw [getElem!_pos _ i (by simpa using h), List.getElem_map, cut_in h]
theorem pack_nlen (l : List Sh) : (packC l).nodes.length = (headsK l l.length).length := List.length_map _
theorem pack_tos (l : List Sh) : (packC l).tos = l.map Sh.n := by show (l.take l.length).map Sh.n = _; rw [List.take_length]
theorem pack_edges (l : List Sh) : (packC l).edges = l.map Sh.d := by show (l.take l.length).map Sh.d = _; rw [List.take_length]
theorem pack_first {l : List Sh} (h0 : l ≠ []) {i : Nat} (hi : i ≤ (headsK l l.length).length) : (packC l).first[i]! = (cutK l i : Int) := by
 show ((headsK l l.length).map (fun i : Nat => (i : Int)) ++ (if l = [] then [] else [(l.length : Int)]))[i]! = _
 rw [if_neg h0, getElem!_pos _ i (by simp; omega)]
 rcases Nat.lt_or_ge i (headsK l l.length).length with h1 | h1
 ·rw [List.getElem_append_left (by simpa using h1), List.getElem_map, cut_in h1]
 ·have e : i = (headsK l l.length).length := by omega
  subst e
  rw [List.getElem_append_right (by simp), cut_end]; simp
theorem pack_shape {l : List Sh} (h0 : l ≠ []) : ShapeC (packC l) where
 len := by
  show ((headsK l l.length).map (fun i : Nat => (i : Int)) ++ (if l = [] then [] else [(l.length : Int)])).length = ((headsK l l.length).map _).length + 1
  rw [if_neg h0]; simp
 zero := by
  rw [pack_first h0 (Nat.zero_le _)]
  have hp : 0 < l.length := List.length_pos_iff.2 h0
  have hh : 0 < (headsK l l.length).length := List.length_pos_iff.2 (fun e => by have := heads_mem.2 (show 0 < l.length ∧ headB l 0 = true from ⟨hp, rfl⟩); rw [e] at this; cases this)
  have := heads_zero (l := l) hp
  rw [getElem!_pos _ 0 hh] at this
  rw [cut_in hh, this]; rfl
 same := by rw [pack_tos, pack_edges, List.length_map, List.length_map]
 last := by rw [pack_nlen, pack_first h0 (Nat.le_refl _), cut_end, pack_tos, List.length_map]
 rise := fun i hi => by
  rw [pack_nlen] at hi
  rw [pack_first h0 (by omega), pack_first h0 (by omega)]
  have := cut_rise hi
  omega
theorem flat_pack (l : List Sh) : flatC (packC l) = l := by
 by_cases h0 : l = []
 ·subst h0; rfl
 ·have hS := pack_shape h0
  have hl := flatC_len hS
  rw [pack_tos, List.length_map] at hl
  refine ext_bang hl (fun k hk => ?_)
  obtain ⟨i, h1, h2, h3, h4⟩ := flatC_nd hS (k := k) (by rw [pack_tos, List.length_map]; exact hk)
  rw [pack_nlen] at h1
  rw [pack_first h0 (by omega)] at h2 h3
  rw [h4]
  unfold entC
  have h5 := cut_same h1 (k - cutK l i) (by omega)
  rw [show cutK l i + (k - cutK l i) = k by omega] at h5
  rw [pack_nodes h1, pack_tos, pack_edges, getElem!_pos _ k (by simpa using hk), getElem!_pos (l.map Sh.d) k (by simpa using hk), List.getElem_map, List.getElem_map, ← getElem!_pos l k hk, ← h5]
/-- a list of entries that a valid column may bear -/
structure GoodL (l : List Sh) : Prop where
 ids : ∀ a ∈ l, idOk a.id ∧ idOk a.n ∧ idOk a.d
 rise : l.Pairwise (fun a b => adjOrd a b < 0)
 once : (l.map Sh.d).Nodup
def validP (c : Col) : Prop := (c.nodes = [] ∧ c.first = [] ∧ c.tos = [] ∧ c.edges = []) ∨ (ShapeC c ∧ c.nodes.Pairwise (· < ·) ∧ GoodL (flatC c))
theorem ord_id {a b : Sh} (h : adjOrd a b < 0) : a.id ≤ b.id := by
 unfold adjOrd thenC Lib.compareInt at h
 split at h <;> (try split at h) <;> (try split at h) <;> omega
theorem pack_valid {l : List Sh} (h : GoodL l) : validP (packC l) := by
 by_cases h0 : l = []
 ·subst h0; exact .inl ⟨rfl, rfl, rfl, rfl⟩
 ·refine .inr ⟨pack_shape h0, ?_, by rw [flat_pack]; exact h⟩
  rw [List.pairwise_iff_getElem]
  intro i j hi hj hij
  have hi' := hi; have hj' := hj
  rw [pack_nlen] at hi' hj'
  rw [← getElem!_pos _ i hi, ← getElem!_pos _ j hj, pack_nodes hi', pack_nodes hj', cut_in hi', cut_in hj']
  have h1 := List.pairwise_iff_getElem.1 (heads_rise l l.length) i j hi' hj' hij
  obtain ⟨h2, h3⟩ := heads_mem.1 (List.getElem_mem hj')
  have hr := List.pairwise_iff_getElem.1 h.rise
  unfold headB at h3
  generalize (headsK l l.length)[i] = x at *
  generalize (headsK l l.length)[j] = y at *
  have h4 : l[y]!.id ≠ l[y - 1]!.id := by simpa [show y ≠ 0 by omega] using h3
  have h5 : l[y - 1]!.id ≤ l[y]!.id := by
   have := ord_id (hr (y - 1) y (by omega) h2 (by omega))
   rwa [← getElem!_pos l y h2, ← getElem!_pos l (y - 1) (by omega)] at this
  have h6 : l[x]!.id ≤ l[y - 1]!.id := by
   rcases Nat.eq_or_lt_of_le (show x ≤ y - 1 by omega) with e | e
   ·rw [e]; omega
   ·have := ord_id (hr x (y - 1) (by omega) (by omega) e)
    rwa [← getElem!_pos l x (by omega), ← getElem!_pos l (y - 1) (by omega)] at this
  omega
end Go.Proofs.YtnheioehadldmaaGreat

/- PLAIN: MERGING IN PLACE, as slices.SortStableFunc does it: what its parts make of a row. No program in sight. -/
namespace Go.Proofs.YtnheioehadldmaaGreat
open Go.Sort
variable {α : Type} [Inhabited α] {lt : α → α → Bool}
theorem swp_at (d : Array α) {i j : Nat} (hi : i < d.size) (hj : j < d.size) (k : Nat) : (swp d i j)[k]! = if k = j then d[i]! else if k = i then d[j]! else d[k]! := swp_get d hi hj k
/-- where the exchange of two ranges takes place x from -/
def swS (a b n x : Nat) : Nat := if a ≤ x ∧ x < a + n then x - a + b else if b ≤ x ∧ x < b + n then x - b + a else x
theorem swS_zero (a b x : Nat) : swS a b 0 x = x := by unfold swS; rw [if_neg (by omega), if_neg (by omega)]
theorem swS_step (d e : Array α) {a b n i : Nat} (hs : e.size = d.size) (hab : a + n ≤ b) (hi : i < n) (hb : b + n ≤ d.size) (h : ∀ x, e[x]! = d[swS a b i x]!) (x : Nat) : (swp e (a + i) (b + i))[x]! = d[swS a b (i + 1) x]! := by
 rw [swp_at e (by omega) (by omega)]
 split
 ·rename_i hx
  rw [h]; congr 1; subst hx; unfold swS
  repeat' split
  all_goals omega
 ·split
  ·rename_i hx
   rw [h]; congr 1; subst hx; unfold swS
   repeat' split
   all_goals omega
  ·rw [h]; congr 1; unfold swS
   repeat' split
   all_goals omega
/-- where a rotation takes place x from -/
def rotS (a m b x : Nat) : Nat := if a ≤ x ∧ x < b then (if x < a + (b - m) then m + (x - a) else x - (b - m)) else x
theorem rotS_left {m i j x : Nat} (hi : i ≤ m) (hij : j < i) : swS (m - i) m j (rotS (m - (i - j)) m (m + j) x) = rotS (m - i) m (m + j) x := by
 unfold rotS swS
 repeat' split
 all_goals omega
theorem rotS_right {m i j x : Nat} (hi : i ≤ m) (hij : i < j) : swS (m - i) (m + j - i) i (rotS (m - i) m (m + (j - i)) x) = rotS (m - i) m (m + j) x := by
 unfold rotS swS
 repeat' split
 all_goals omega
theorem rotS_end {m i x : Nat} (hi : i ≤ m) : swS (m - i) m i x = rotS (m - i) m (m + i) x := by
 unfold rotS swS
 repeat' split
 all_goals omega
theorem rotS_idl (m b x : Nat) : rotS m m b x = x := by
 unfold rotS
 repeat' split
 all_goals omega
theorem rotS_idr (a m x : Nat) : rotS a m m x = x := by
 unfold rotS
 repeat' split
 all_goals omega
/-- nothing of [m, b) is less than anything of [a, m) -/
def Cross (lt : α → α → Bool) (a m b : Nat) (d : Array α) : Prop := ∀ i j, a ≤ i → i < m → m ≤ j → j < b → lt d[j]! d[i]! = false
theorem srt_sub {a b a' b' : Nat} {d : Array α} (h : SortedIn lt a b d) (ha : a ≤ a') (hb : b' ≤ b) : SortedIn lt a' b' d := fun i j h1 h2 h3 => h i j (by omega) h2 (by omega)
theorem srt_kept {a b lo hi : Nat} {d e : Array α} (h : SortedIn lt a b d) (hp : PermIn lo hi d e) (ho : b ≤ lo ∨ hi ≤ a) : SortedIn lt a b e := fun i j h1 h2 h3 => by
 rw [hp.2.1 i (by omega), hp.2.1 j (by omega)]; exact h i j h1 h2 h3
theorem srt_glue {a m b : Nat} {d : Array α} (h1 : SortedIn lt a m d) (h2 : SortedIn lt m b d) (h : Cross lt a m b d) : SortedIn lt a b d := fun i j hi hij hj => by
 by_cases hm : j < m
 ·exact h1 i j hi hij hm
 ·by_cases hm' : m ≤ i
  ·exact h2 i j hm' hij hj
  ·exact h i j hi (by omega) (by omega) hj
theorem srt_le (hS : SWO lt) {a b : Nat} {d : Array α} (h : SortedIn lt a b d) {i j : Nat} (hi : a ≤ i) (hij : i ≤ j) (hj : j < b) : lt d[j]! d[i]! = false := by
 rcases Nat.lt_or_eq_of_le hij with h1 | h1
 ·exact h i j hi h1 hj
 ·subst h1; exact hS.irrefl _
theorem Cross.left {a m b : Nat} {d e : Array α} (hm : m ≤ d.size) (h : Cross lt a m b d) (hp : PermIn a m d e) : Cross lt a m b e := fun i j h1 h2 h3 h4 => by
 rw [hp.2.1 j (by omega)]
 exact permIn_all d e a m (fun u => lt d[j]! u = false) hm hp (fun i h1 h2 => h i j h1 h2 h3 h4) i h1 h2
theorem Cross.right {a m b : Nat} {d e : Array α} (hb : b ≤ d.size) (h : Cross lt a m b d) (hp : PermIn m b d e) : Cross lt a m b e := fun i j h1 h2 h3 h4 => by
 rw [hp.2.1 i (by omega)]
 exact permIn_all d e m b (fun u => lt u d[i]! = false) hb hp (fun j h3 h4 => h i j h1 h2 h3 h4) j h3 h4
/-- less and not less: 'x < y ≤ z' -/
theorem lt_le {β : Type} {lt : β → β → Bool} (hS : SWO lt) {x y z : β} (h1 : lt x y = true) (h2 : lt z y = false) : lt x z = true := by
 cases hz : lt x z with
 | true => rfl
 | false =>
  -- z ≤ x, x < y: but y ≤ z
  have := hS.ntrans x z y hz h2
  rw [h1] at this; cases this
theorem le_lt {β : Type} {lt : β → β → Bool} (hS : SWO lt) {x y z : β} (h1 : lt y x = false) (h2 : lt y z = true) : lt x z = true := by
 cases hz : lt x z with
 | true => rfl
 | false =>
  have := hS.ntrans y x z h1 hz
  rw [h2] at this; cases this
/-- THE SEARCH OF symMerge: where it begins and ends -/
def symLo (a m b : Nat) : Nat := if m > (a + b) / 2 then (a + b) / 2 + m - b else a
def symHi (a m b : Nat) : Nat := if m > (a + b) / 2 then (a + b) / 2 else m
theorem sym_rng {a m b : Nat} (h1 : a < m) (h2 : m < b) : a ≤ symLo a m b ∧ symLo a m b ≤ symHi a m b ∧ symHi a m b ≤ m ∧ symHi a m b ≤ (a + b) / 2 ∧ (a + b) / 2 + m - symLo a m b ≤ b ∧ b ≤ (a + b) / 2 + m + (b - m) := by
 unfold symLo symHi; split <;> omega
/-- what is known of the place s that it finds -/
structure SymAt (lt : α → α → Bool) (a m b s : Nat) (d : Array α) : Prop where
 lo : symLo a m b ≤ s
 hi : s ≤ symHi a m b
 up : symLo a m b < s → lt d[(a + b) / 2 + m - s]! d[s - 1]! = false
 dn : s < symHi a m b → lt d[(a + b) / 2 + m - s - 1]! d[s]! = true
theorem sym_cross (hS : SWO lt) {a m b s : Nat} {d : Array α} (h1 : a < m) (h2 : m < b) (hl : SortedIn lt a m d) (hr : SortedIn lt m b d) (h : SymAt lt a m b s d) :
  ∀ x y, (a ≤ x ∧ x < s ∨ m ≤ x ∧ x < (a + b) / 2 + m - s) → (s ≤ y ∧ y < m ∨ (a + b) / 2 + m - s ≤ y ∧ y < b) → lt d[y]! d[x]! = false := by
 have hlo := h.lo
 have hhi := h.hi
 have hr0 := sym_rng h1 h2
 intro x y hx hy
 rcases hx with hx | hx <;> rcases hy with hy | hy
 ·exact hl x y hx.1 (by omega) hy.2
 ·have hs : symLo a m b < s := by
   rcases Nat.lt_or_eq_of_le hlo with e | e
   ·exact e
   ·exfalso; unfold symLo at e; split at e <;> omega
  have e1 := srt_le hS hl hx.1 (show x ≤ s - 1 by omega) (show s - 1 < m by omega)
  have e2 := h.up hs
  have e3 := srt_le hS hr (show m ≤ (a + b) / 2 + m - s by omega) hy.1 hy.2
  exact hS.ntrans _ _ _ e3 (hS.ntrans _ _ _ e2 e1)
 ·have hs : s < symHi a m b := by
   rcases Nat.lt_or_eq_of_le hhi with e | e
   ·exact e
   ·exfalso; unfold symHi at e; split at e <;> omega
  have e1 := srt_le hS hr hx.1 (show x ≤ (a + b) / 2 + m - s - 1 by omega) (by omega)
  have e2 := hS.asymmA (h.dn hs)
  have e3 := srt_le hS hl (show a ≤ s by omega) hy.1 hy.2
  exact hS.ntrans _ _ _ e3 (hS.ntrans _ _ _ e2 e1)
 ·exact hr x y hx.1 (by omega) hy.2
/-- behind the rotation: four runs, and the two halves part -/
structure SymCut (lt : α → α → Bool) (a m b s : Nat) (e : Array α) : Prop where
 r1 : SortedIn lt a s e
 r2 : SortedIn lt s ((a + b) / 2) e
 r3 : SortedIn lt ((a + b) / 2) ((a + b) / 2 + m - s) e
 r4 : SortedIn lt ((a + b) / 2 + m - s) b e
 cross : Cross lt a ((a + b) / 2) b e
theorem sym_cut (hS : SWO lt) {a m b s : Nat} {d e : Array α} (h1 : a < m) (h2 : m < b) (hl : SortedIn lt a m d) (hr : SortedIn lt m b d) (h : SymAt lt a m b s d)
  (he : ∀ x, e[x]! = d[rotS s m ((a + b) / 2 + m - s) x]!) : SymCut lt a m b s e := by
 have hc := sym_cross hS h1 h2 hl hr h
 have hlo := h.lo
 have hhi := h.hi
 have hr0 := sym_rng h1 h2
 have src : ∀ x, rotS s m ((a + b) / 2 + m - s) x = if x < s then x else if x < (a + b) / 2 then m + (x - s) else if x < (a + b) / 2 + m - s then x - ((a + b) / 2 - s) else x := by
  intro x; unfold rotS
  repeat' split
  all_goals omega
 refine ⟨?_, ?_, ?_, ?_, ?_⟩
 ·intro i j hi hij hj
  rw [he, he, src, src, if_pos (by omega), if_pos (by omega)]
  exact hl i j hi hij (by omega)
 ·intro i j hi hij hj
  rw [he, he, src, src, if_neg (by omega), if_pos (by omega), if_neg (by omega), if_pos (by omega)]
  exact hr _ _ (by omega) (by omega) (by omega)
 ·intro i j hi hij hj
  rw [he, he, src, src, if_neg (by omega), if_neg (by omega), if_pos (by omega), if_neg (by omega), if_neg (by omega), if_pos (by omega)]
  exact hl _ _ (by omega) (by omega) (by omega)
 ·intro i j hi hij hj
  rw [he, he, src, src, if_neg (by omega), if_neg (by omega), if_neg (by omega), if_neg (by omega), if_neg (by omega), if_neg (by omega)]
  exact hr _ _ (by omega) (by omega) (by omega)
 ·intro i j hi him hmj hj
  rw [he, he]
  refine hc _ _ ?_ ?_
  ·rw [src]
   by_cases his : i < s
   ·rw [if_pos his]; exact .inl ⟨by omega, by omega⟩
   ·rw [if_neg his, if_pos (by omega)]; exact .inr ⟨by omega, by omega⟩
  ·rw [src, if_neg (by omega), if_neg (by omega)]
   split
   ·exact .inl ⟨by omega, by omega⟩
   ·exact .inr ⟨by omega, by omega⟩
/-- THE LEFT RUN HAS ONE ELEMENT: it goes behind all that are less -/
theorem ins_left (hS : SWO lt) {a b i : Nat} {d e : Array α} (hai : a + 1 ≤ i) (hib : i ≤ b) (hr : SortedIn lt (a + 1) b d) (hlt : ∀ x, a + 1 ≤ x → x < i → lt d[x]! d[a]! = true) (hge : ∀ x, i ≤ x → x < b → lt d[x]! d[a]! = false)
  (he : ∀ x, e[x]! = if a ≤ x ∧ x < i - 1 then d[x + 1]! else if x = i - 1 then d[a]! else d[x]!) : SortedIn lt a b e := by
 intro p q hp hpq hq
 rw [he, he]
 repeat' split
 all_goals first | omega | skip
 ·exact hr _ _ (by omega) (by omega) (by omega)
 ·exact hS.asymmA (hlt _ (by omega) (by omega))
 ·exact hr _ _ (by omega) (by omega) (by omega)
 ·exact hge _ (by omega) (by omega)
 ·exact hr _ _ (by omega) (by omega) (by omega)
/-- THE RIGHT RUN HAS ONE ELEMENT: it goes ahead of all that are greater -/
theorem ins_right (hS : SWO lt) {a m i : Nat} {d e : Array α} (hai : a ≤ i) (him : i ≤ m) (hl : SortedIn lt a m d) (hle : ∀ x, a ≤ x → x < i → lt d[m]! d[x]! = false) (hgt : ∀ x, i ≤ x → x < m → lt d[m]! d[x]! = true)
  (he : ∀ x, e[x]! = if i < x ∧ x ≤ m then d[x - 1]! else if x = i then d[m]! else d[x]!) : SortedIn lt a (m + 1) e := by
 intro p q hp hpq hq
 rw [he, he]
 repeat' split
 all_goals first | omega | skip
 ·exact hl _ _ (by omega) (by omega) (by omega)
 ·exact hS.asymmA (hgt _ (by omega) (by omega))
 ·exact hl _ _ (by omega) (by omega) (by omega)
 ·exact hle _ (by omega) (by omega)
 ·exact hl _ _ (by omega) (by omega) (by omega)
/-- one exchange to the right, one to the left -/
theorem shiftR_step {d e : Array α} {a k : Nat} (hs : e.size = d.size) (hk : k + 1 < d.size) (hak : a ≤ k) (h : ∀ x, e[x]! = if a ≤ x ∧ x < k then d[x + 1]! else if x = k then d[a]! else d[x]!) (x : Nat) :
  (swp e k (k + 1))[x]! = if a ≤ x ∧ x < k + 1 then d[x + 1]! else if x = k + 1 then d[a]! else d[x]! := by
 rw [swp_at e (by omega) (by omega), h, h, h]
 repeat' split
 all_goals first | omega | rfl | skip
 all_goals (congr 1; omega)
theorem shiftL_step {d e : Array α} {m k : Nat} (hs : e.size = d.size) (hm : m < d.size) (hkm : k + 1 ≤ m) (h : ∀ x, e[x]! = if k + 1 < x ∧ x ≤ m then d[x - 1]! else if x = k + 1 then d[m]! else d[x]!) (x : Nat) :
  (swp e (k + 1) k)[x]! = if k < x ∧ x ≤ m then d[x - 1]! else if x = k then d[m]! else d[x]! := by
 rw [swp_at e (by omega) (by omega), h, h, h]
 repeat' split
 all_goals first | omega | rfl | skip
 all_goals (congr 1; omega)
/-- BLOCKS: runs of bs elements each rise -/
def Blocks (lt : α → α → Bool) (bs n : Nat) (d : Array α) : Prop := ∀ q, SortedIn lt (q * bs) (min (q * bs + bs) n) d
/-- behind some rounds of a level: runs of 2 bs up to a, runs of bs from there -/
structure Level (lt : α → α → Bool) (bs n a : Nat) (d : Array α) : Prop where
 two : ∀ q, q * (2 * bs) + 2 * bs ≤ a → SortedIn lt (q * (2 * bs)) (q * (2 * bs) + 2 * bs) d
 one : ∀ q, a ≤ q * bs → SortedIn lt (q * bs) (min (q * bs + bs) n) d
theorem Level.start {bs n : Nat} {d : Array α} (hb : 0 < bs) (h : Blocks lt bs n d) : Level lt bs n 0 d := ⟨fun q hq => by omega, fun q _ => h q⟩
theorem Level.step {bs n q : Nat} {d e : Array α} (hb : 0 < bs) (h : Level lt bs n (q * (2 * bs)) d) (hn : q * (2 * bs) + 2 * bs ≤ n) (hp : PermIn (q * (2 * bs)) (q * (2 * bs) + 2 * bs) d e) (hs : SortedIn lt (q * (2 * bs)) (q * (2 * bs) + 2 * bs) e) :
  Level lt bs n ((q + 1) * (2 * bs)) e := by
 have e1 : (q + 1) * (2 * bs) = q * (2 * bs) + 2 * bs := by rw [Nat.add_mul, Nat.one_mul]
 rw [e1]
 refine ⟨fun p hpq => ?_, fun p hpq => ?_⟩
 ·rcases Nat.lt_trichotomy p q with h1 | h1 | h1
  ·have h2 : (p + 1) * (2 * bs) ≤ q * (2 * bs) := Nat.mul_le_mul_right _ h1
   rw [Nat.add_mul, Nat.one_mul] at h2
   exact srt_kept (h.two p h2) hp (.inl h2)
  ·subst h1; exact hs
  ·have h2 : (q + 1) * (2 * bs) ≤ p * (2 * bs) := Nat.mul_le_mul_right _ h1
   omega
 ·exact srt_kept (h.one p (by omega)) hp (.inr hpq)
/-- the last round of a level -/
theorem Level.last {bs n q : Nat} {d e : Array α} (h : Level lt bs n (q * (2 * bs)) d) (hn : n < q * (2 * bs) + 2 * bs) (ha : q * (2 * bs) ≤ n) (hp : PermIn (q * (2 * bs)) n d e) (hs : SortedIn lt (q * (2 * bs)) n e) : Blocks lt (bs * 2) n e := by
 intro p
 rw [Nat.mul_comm bs 2]
 rcases Nat.lt_trichotomy p q with h1 | h1 | h1
 ·have h2 : (p + 1) * (2 * bs) ≤ q * (2 * bs) := Nat.mul_le_mul_right _ h1
  rw [Nat.add_mul, Nat.one_mul] at h2
  exact srt_sub (srt_kept (h.two p h2) hp (.inl h2)) (Nat.le_refl _) (by omega)
 ·subst h1; exact srt_sub hs (Nat.le_refl _) (by omega)
 ·have h2 : (q + 1) * (2 * bs) ≤ p * (2 * bs) := Nat.mul_le_mul_right _ h1
  rw [Nat.add_mul, Nat.one_mul] at h2
  intro i j hi hij hj
  omega
theorem Level.runs {bs n q : Nat} {d : Array α} (h : Level lt bs n (q * (2 * bs)) d) : SortedIn lt (q * (2 * bs)) (min (q * (2 * bs) + bs) n) d ∧ SortedIn lt (q * (2 * bs) + bs) (min (q * (2 * bs) + bs + bs) n) d := by
 have e1 : 2 * q * bs = q * (2 * bs) := by rw [Nat.mul_comm 2 q, Nat.mul_assoc]
 have e2 : (2 * q + 1) * bs = q * (2 * bs) + bs := by rw [Nat.add_mul, Nat.one_mul, e1]
 have h1 := h.one (2 * q) (by omega)
 have h2 := h.one (2 * q + 1) (by omega)
 rw [e1] at h1
 rw [e2] at h2
 exact ⟨h1, h2⟩
theorem Blocks.done {bs n : Nat} {d : Array α} (h : Blocks lt bs n d) (hn : n ≤ bs) : SortedIn lt 0 n d := by
 have := h 0
 rw [Nat.zero_mul] at this
 exact srt_sub this (Nat.le_refl _) (by omega)
/-- THE FIRST LEVEL: blocks sorted by insertion -/
def First (lt : α → α → Bool) (bs a : Nat) (d : Array α) : Prop := ∀ q, q * bs + bs ≤ a → SortedIn lt (q * bs) (q * bs + bs) d
theorem First.step {bs q : Nat} {d e : Array α} (h : First lt bs (q * bs) d) (hp : PermIn (q * bs) (q * bs + bs) d e) (hs : SortedIn lt (q * bs) (q * bs + bs) e) : First lt bs ((q + 1) * bs) e := by
 have e1 : (q + 1) * bs = q * bs + bs := by rw [Nat.add_mul, Nat.one_mul]
 rw [e1]
 intro p hpq
 rcases Nat.lt_trichotomy p q with h1 | h1 | h1
 ·have h2 : (p + 1) * bs ≤ q * bs := Nat.mul_le_mul_right _ h1
  rw [Nat.add_mul, Nat.one_mul] at h2
  exact srt_kept (h p h2) hp (.inl h2)
 ·subst h1; exact hs
 ·have h2 : (q + 1) * bs ≤ p * bs := Nat.mul_le_mul_right _ h1
  intro i j hi hij hj
  omega
theorem First.last {bs n q : Nat} {d e : Array α} (h : First lt bs (q * bs) d) (hn : n < q * bs + bs) (hp : PermIn (q * bs) n d e) (hs : SortedIn lt (q * bs) n e) : Blocks lt bs n e := by
 intro p
 rcases Nat.lt_trichotomy p q with h1 | h1 | h1
 ·have h2 : (p + 1) * bs ≤ q * bs := Nat.mul_le_mul_right _ h1
  rw [Nat.add_mul, Nat.one_mul] at h2
  exact srt_sub (srt_kept (h p h2) hp (.inl h2)) (Nat.le_refl _) (by omega)
 ·subst h1; exact srt_sub hs (Nat.le_refl _) (by omega)
 ·have h2 : (q + 1) * bs ≤ p * bs := Nat.mul_le_mul_right _ h1
  rw [Nat.add_mul, Nat.one_mul] at h2
  intro i j hi hij hj
  omega
end Go.Proofs.YtnheioehadldmaaGreat

/- A ROW OF ENTRIES THAT IS SORTED IN PLACE: the worlds that such a sort passes through. -/
namespace Go.Proofs.YtnheioehadldmaaGreat
open Go.RowKit Go.Sort
theorem grown_transM {a b c : World} {row : Option Nat} (h : a.grownBy b row) (k : b.grownBy c row) : a.grownBy c row :=
 ⟨k.os.trans h.os, k.tape.trans h.tape, k.output.trans h.output, Nat.le_trans h.size k.size, fun i hi hne => (k.block i (Nat.lt_of_lt_of_le hi h.size) hne).trans (h.block i hi hne)⟩
theorem Ext.grownM {a b : World} (h : Ext a b) (row : Option Nat) : a.grownBy b row := ⟨h.os, h.tape, h.output, h.size, fun k hk _ => h.block k hk⟩
/-- block g holds the shares of d (and spare cells behind them); all other blocks of w0 are as they were -/
structure SortM (w0 : World) (B g cap : Nat) (t : TypeId) (d : Array Sh) (W : World) : Prop where
 gr : w0.grownBy W (some g)
 own : W.ownsRow B t 3 (.slice (some ⟨g, 0, none⟩) d.size cap) d.size (d.toList.flatMap Sh.cells)
theorem flat_set3 (l : List Sh) (j : Nat) (x : Sh) : (((l.flatMap Sh.cells).set (j * 3) (.int .i64 x.id)).set (j * 3 + 1) (.int .i64 x.n)).set (j * 3 + 2) (.int .i64 x.d) = (l.set j x).flatMap Sh.cells := by
 induction l generalizing j with
 | nil => rfl
 | cons y l ih =>
  cases j with
  | zero => rfl
  | succ j =>
   rw [List.flatMap_cons, List.set_cons_succ, List.flatMap_cons, ← ih j]
   simp only [Sh.cells, List.cons_append, List.nil_append, show (j + 1) * 3 = j * 3 + 1 + 1 + 1 by omega, List.set_cons_succ]
theorem flat_at3 (l : List Sh) (j i : Nat) (hj : j < l.length) (hi : i < 3) : (l.flatMap Sh.cells)[j * 3 + i]? = (Sh.cells l[j])[i]? := flat_get Sh.cells 3 (fun _ => rfl) l j i hj hi
section
variable {w0 : World} {B g cap : Nat} {t : TypeId} {d : Array Sh} {W : World}
theorem SortM.start (h : w0.ownsRow B t 3 (.slice (some ⟨g, 0, none⟩) d.size cap) d.size (d.toList.flatMap Sh.cells)) : SortM w0 B g cap t d w0 := ⟨World.grownBy.refl _ _, h⟩
theorem SortM.ext {W' : World} (h : SortM w0 B g cap t d W) (e : Ext W W') : SortM w0 B g cap t d W' := ⟨grown_transM h.gr (e.grownM _), own_ext h.own e⟩
theorem SortM.drew (h : SortM w0 B g cap t d W) : SortM w0 B g cap t d W.drew := h.ext ((Ext.refl _).drew)
theorem SortM.cell (h : SortM w0 B g cap t d W) {j : Nat} (hj : j < d.size) (i : Nat) (hi : i < 3) : W.cell? ⟨g, j * 3 + i, none⟩ = (Sh.cells d[j]!)[i]? := by
 rw [h.own.cellAt (j * 3 + i) (by omega), flat_at3 _ j i (by simpa using hj) hi]
 rw [getElem!_pos d j hj]; rfl
theorem SortM.cells (h : SortM w0 B g cap t d W) {j : Nat} (hj : j < d.size) : W.cell? ⟨g, j * 3, none⟩ = some (.int .i64 d[j]!.id) ∧ W.cell? ⟨g, j * 3 + 1, none⟩ = some (.int .i64 d[j]!.n) ∧ W.cell? ⟨g, j * 3 + 2, none⟩ = some (.int .i64 d[j]!.d) :=
 ⟨h.cell hj 0 (by omega), h.cell hj 1 (by omega), h.cell hj 2 (by omega)⟩
theorem SortM.frozen (h : SortM w0 B g cap t d W) (j : Nat) : W.frozen? ⟨g, j, none⟩ = false := h.own.frozenAt j
theorem SortM.set (h : SortM w0 B g cap t d W) (j : Nat) (x : Sh) : SortM w0 B g cap t (d.setIfInBounds j x) (((W.setCell ⟨g, j * 3, none⟩ (.int .i64 x.id)).setCell ⟨g, j * 3 + 1, none⟩ (.int .i64 x.n)).setCell ⟨g, j * 3 + 2, none⟩ (.int .i64 x.d)) := by
 obtain ⟨h1, k1⟩ := h.own.stored (j * 3) (.int .i64 x.id)
 obtain ⟨h2, k2⟩ := h1.stored (j * 3 + 1) (.int .i64 x.n)
 obtain ⟨h3, k3⟩ := h2.stored (j * 3 + 2) (.int .i64 x.d)
 refine ⟨grown_transM h.gr (grown_transM k1 (grown_transM k2 k3)), ?_⟩
 rw [flat_set3] at h3
 rw [Array.size_setIfInBounds, Array.toList_setIfInBounds]; exact h3
theorem SortM.swap (h : SortM w0 B g cap t d W) (i j : Nat) : SortM w0 B g cap t (swp d i j) ((((((W.setCell ⟨g, i * 3, none⟩ (.int .i64 d[j]!.id)).setCell ⟨g, i * 3 + 1, none⟩ (.int .i64 d[j]!.n)).setCell ⟨g, i * 3 + 2, none⟩ (.int .i64 d[j]!.d)).setCell ⟨g, j * 3, none⟩ (.int .i64 d[i]!.id)).setCell ⟨g, j * 3 + 1, none⟩ (.int .i64 d[i]!.n)).setCell ⟨g, j * 3 + 2, none⟩ (.int .i64 d[i]!.d)) := (h.set i d[j]!).set j d[i]!
/-- what is asked of the order -/
def CmpOkM (P : Program) (f : Nat) (cb : Array Value) (cf : Sh → Sh → Int) (w0 : World) (g : Nat) : Prop :=
 ∀ W, w0.grownBy W (some g) → ∀ x y : Sh, Calls P f (#[.agg #[.int .i64 x.id, .int .i64 x.n, .int .i64 x.d], .agg #[.int .i64 y.id, .int .i64 y.n, .int .i64 y.d]] ++ cb) W fun e W' => e = .returned (.int .i64 (cf x y)) ∧ Ext W W'
def ltM (cf : Sh → Sh → Int) (x y : Sh) : Bool := decide (cf x y < 0)
theorem ltM_t {cf : Sh → Sh → Int} {x y : Sh} (h : cf x y < 0) : ltM cf x y = true := decide_eq_true h
theorem ltM_f {cf : Sh → Sh → Int} {x y : Sh} (h : ¬ cf x y < 0) : ltM cf x y = false := decide_eq_false h
end
end Go.Proofs.YtnheioehadldmaaGreat

/- A DRAWN REGION THAT READS CELLS FIRST AND WRITES THEM LATER: what the reads need is kept only until operation E comes up. -/
namespace Go.Proofs.YtnheioehadldmaaGreat
open Go.RowKit
section
variable {P : Program} {ops : Array Oper} {Q : Exit → Act → World → Prop} {md : Region.Mode} {S : World → Prop} {E : Nat}
/-- any order; S holds behind each operation that comes up ahead of E -/
def AnyE (P : Program) (md : Region.Mode) (ops : Array Oper) (Q : Exit → Act → World → Prop) (S : World → Prop) (E : Nat) : Nat → Array Bool → Act → World → Prop
 | 0, l, a, w => Region.ready md ops l = [] ∧ Q .normal a w
 | f + 1, l, a, w => (Region.ready md ops l = [] → Q .normal a w) ∧
  ∀ i ∈ Region.ready md ops l, wpOp P ops Q i (fun a' w' => ((l.setIfInBounds i true).getD E false = false → S w') ∧ AnyE P md ops Q S E f (l.setIfInBounds i true) a' w') a w
theorem AnyE.any : ∀ (f : Nat) (l : Array Bool) (a : Act) (w : World), AnyE P md ops Q S E f l a w → wpAny P md ops Q f l a w
 | 0, _, _, _, h => h
 | f + 1, _, _, _, h => ⟨h.1, fun i hi => wpOp_mono (fun a' w' hk => AnyE.any f _ a' w' hk.2) (h.2 i hi)⟩
theorem AnyE.start {id : Nat} {a : Act} {w : World} (hm : P.follows .mixedOrders = true) (hS : S w.drew) (h : S w.drew → AnyE P .any ops Q S E ops.size (Array.replicate ops.size false) a w.drew) : (Code.region id ops true).wp P Q a w :=
 wp_region_any hm (AnyE.any _ _ _ _ (h hS))
theorem AnyE.done {l : Array Bool} {a : Act} {w : World} (hr : Region.ready md ops l = []) (h : Q .normal a w) : ∀ f, AnyE P md ops Q S E f l a w
 | 0 => ⟨hr, h⟩
 | _ + 1 => ⟨fun _ => h, fun i hi => by rw [hr] at hi; cases hi⟩
/-- does E wait for i -/
def waitsOn (md : Region.Mode) (ops : Array Oper) (E i : Nat) : Bool := match ops[E]? with
 | some o => o.after.any (fun e => Region.binds md e && e.on == i)
 | none => false
theorem AnyE.first {i : Nat} {oi : Oper} {v : Value} (hi : ops[i]? = some oi) (hs : Region.noSelect ops = true) (hQ : ∀ c a w, Q (.panic c) (a.put oi.dst v) w → Q (.panic c) a w) (hE : waitsOn md ops E i = true) (hne : i ≠ E) (hlE : ∀ l : Array Bool, l.getD i true = false → E ∈ Region.ready md ops l → False) :
  ∀ (f : Nat) (l : Array Bool) (a : Act) (w : World), (∀ j oj, ops[j]? = some oj → j ≠ i → l.getD j true = false → (∀ e ∈ oj.after, Region.binds md e = true → e.on ≠ i) → oi.apart ops oj = true) →
   i ∈ Region.ready md ops l → l.getD E false = false → YieldsIf P ops S oi v a → S w → AnyE P md ops Q S E f (l.setIfInBounds i true) (a.put oi.dst v) w → AnyE P md ops Q S E (f + 1) l a w := by
 intro f
 induction f with
 | zero =>
  intro l a w _ hr _ hy hS H
  refine ⟨fun h => absurd hr (by rw [h]; exact List.not_mem_nil), fun j hj => ?_⟩
  rcases Nat.decEq j i with hji | hji
  ·have hk := ready_mono hj hji
   rw [H.1] at hk
   exact absurd hk List.not_mem_nil
  ·subst hji
   exact hy.wpOp hi hS ⟨fun _ => hS, H⟩
 | succ f ih =>
  intro l a w hfree hr hlf hy hS H
  refine ⟨fun h => absurd hr (by rw [h]; exact List.not_mem_nil), fun j hj => ?_⟩
  rcases Nat.decEq j i with hji | hji
  ·have hun := (mem_ready.1 hr).1
   have hjE : j ≠ E := fun e => hlE l hun (e ▸ hj)
   obtain ⟨hjun, oj, hoj, hall⟩ := mem_ready.1 hj
   have hno : ∀ e ∈ oj.after, Region.binds md e = true → e.on ≠ i := fun e he hb heq => by
    have h1 := hall e he hb
    rw [heq] at h1
    rcases Nat.lt_or_ge i l.size with hlt | hge
    ·simp [hlt] at hun h1
     exact Bool.noConfusion (hun.symm.trans h1)
    ·simp [Array.getElem?_eq_none hge] at h1
   have h2 := wpOp_putIf hoj (hfree j oj hoj hji hjun hno) (fun cs b => Region.noSelect_spec hs i oi cs b hi) (fun cs b => Region.noSelect_spec hs j oj cs b hoj) hQ hy (H.2 j (ready_mono hj hji))
   refine wpOp_mono (fun a' w' hk => ?_) h2
   have hS' : S w' := hk.2.1 (by rw [getD_set_ne false hjE, getD_set_ne false hne]; exact hlf)
   refine ⟨fun _ => hS', ih (l.setIfInBounds j true) a' w' (fun k ok hok hki hunk hnok => ?_) (ready_mono hr (fun e => hji e.symm)) (by rw [getD_set_ne false hjE]; exact hlf) hk.1 hS' ?_⟩
   ·refine hfree k ok hok hki ?_ hnok
    rcases Nat.decEq j k with hjk | hjk
    ·rw [getD_set_ne true hjk] at hunk; exact hunk
    ·subst hjk; exact hjun
   ·rw [Array.setIfInBounds_comm _ _ hji]
    exact hk.2.2
  ·subst hji
   exact hy.wpOp hi hS ⟨fun _ => hS, H⟩
theorem AnyE.firstP {i : Nat} {oi : Oper} {v : Value} (hi : ops[i]? = some oi) (hs : Region.noSelect ops = true) (hQ : ∀ c a w, Q (.panic c) (a.put oi.dst v) w → Q (.panic c) a w) (hne : i ≠ E) :
  ∀ (f : Nat) (l : Array Bool) (a : Act) (w : World), (∀ j oj, ops[j]? = some oj → j ≠ i → l.getD j true = false → (∀ e ∈ oj.after, Region.binds md e = true → e.on ≠ i) → oi.apart ops oj = true) →
   i ∈ Region.ready md ops l → YieldsIf P ops (fun _ => True) oi v a → (l.getD E false = false → S w) → AnyE P md ops Q S E f (l.setIfInBounds i true) (a.put oi.dst v) w → AnyE P md ops Q S E (f + 1) l a w := by
 intro f
 induction f with
 | zero =>
  intro l a w _ hr hy hS H
  refine ⟨fun h => absurd hr (by rw [h]; exact List.not_mem_nil), fun j hj => ?_⟩
  rcases Nat.decEq j i with hji | hji
  ·have hk := ready_mono hj hji
   rw [H.1] at hk
   exact absurd hk List.not_mem_nil
  ·subst hji
   exact hy.wpOp hi trivial ⟨fun h => hS (by rw [getD_set_ne false hne] at h; exact h), H⟩
 | succ f ih =>
  intro l a w hfree hr hy hS H
  refine ⟨fun h => absurd hr (by rw [h]; exact List.not_mem_nil), fun j hj => ?_⟩
  rcases Nat.decEq j i with hji | hji
  ·have hun := (mem_ready.1 hr).1
   obtain ⟨hjun, oj, hoj, hall⟩ := mem_ready.1 hj
   have hno : ∀ e ∈ oj.after, Region.binds md e = true → e.on ≠ i := fun e he hb heq => by
    have h1 := hall e he hb
    rw [heq] at h1
    rcases Nat.lt_or_ge i l.size with hlt | hge
    ·simp [hlt] at hun h1
     exact Bool.noConfusion (hun.symm.trans h1)
    ·simp [Array.getElem?_eq_none hge] at h1
   have h2 := wpOp_putIf hoj (hfree j oj hoj hji hjun hno) (fun cs b => Region.noSelect_spec hs i oi cs b hi) (fun cs b => Region.noSelect_spec hs j oj cs b hoj) hQ hy (H.2 j (ready_mono hj hji))
   refine wpOp_mono (fun a' w' hk => ?_) h2
   have hS' : (l.setIfInBounds j true).getD E false = false → S w' := fun h => hk.2.1 (by rw [Array.setIfInBounds_comm _ _ (fun e => hji e.symm), getD_set_ne false hne]; exact h)
   refine ⟨hS', ih (l.setIfInBounds j true) a' w' (fun k ok hok hki hunk hnok => ?_) (ready_mono hr (fun e => hji e.symm)) hk.1 hS' ?_⟩
   ·refine hfree k ok hok hki ?_ hnok
    rcases Nat.decEq j k with hjk | hjk
    ·rw [getD_set_ne true hjk] at hunk; exact hunk
    ·subst hjk; exact hjun
   ·rw [Array.setIfInBounds_comm _ _ hji]
    exact hk.2.2
  ·subst hji
   exact hy.wpOp hi trivial ⟨fun h => hS (by rw [getD_set_ne false hne] at h; exact h), H⟩
theorem waits_not {i : Nat} (h : waitsOn md ops E i = true) : ∀ l : Array Bool, l.getD i true = false → E ∈ Region.ready md ops l → False := fun l hl hr => by
 obtain ⟨-, o, ho, hall⟩ := mem_ready.1 hr
 unfold waitsOn at h
 rw [ho] at h
 obtain ⟨k, hk, he⟩ := Array.any_eq_true.1 h
 rw [Bool.and_eq_true] at he
 have h1 := hall o.after[k] (Array.getElem_mem hk) he.1
 rw [show o.after[k].on = i by simpa using he.2] at h1
 rcases Nat.lt_or_ge i l.size with hlt | hge
 ·simp [hlt] at hl h1
  exact Bool.noConfusion (hl.symm.trans h1)
 ·simp [Array.getElem?_eq_none hge] at h1
theorem AnyE.take {i : Nat} {oi : Oper} {v : Value} {f : Nat} {l : Array Bool} {a : Act} {w : World} (hi : ops[i]? = some oi) (hs : Region.noSelect ops = true) (hf : Region.free md ops l i = true) (hr : (Region.ready md ops l).contains i = true)
  (hQ : ∀ c a w, Q (.panic c) (a.put oi.dst v) w → Q (.panic c) a w) (hE : waitsOn md ops E i = true) (hne : (i == E) = false) (hl : l.getD E false = false) (hy : YieldsIf P ops S oi v a) (hS : S w)
  (h : AnyE P md ops Q S E f (l.setIfInBounds i true) (a.put oi.dst v) w) : AnyE P md ops Q S E (f + 1) l a w :=
 AnyE.first hi hs hQ hE (by simpa using hne) (waits_not hE) f l a w (Region.free_spec hi hf) (by simpa using hr) hl hy hS h
theorem AnyE.takeP {i : Nat} {oi : Oper} {v : Value} {f : Nat} {l : Array Bool} {a : Act} {w : World} (hi : ops[i]? = some oi) (hs : Region.noSelect ops = true) (hf : Region.free md ops l i = true) (hr : (Region.ready md ops l).contains i = true)
  (hQ : ∀ c a w, Q (.panic c) (a.put oi.dst v) w → Q (.panic c) a w) (hne : (i == E) = false) (hy : YieldsIf P ops (fun _ => True) oi v a) (hS : l.getD E false = false → S w)
  (h : AnyE P md ops Q S E f (l.setIfInBounds i true) (a.put oi.dst v) w) : AnyE P md ops Q S E (f + 1) l a w :=
 AnyE.firstP hi hs hQ (by simpa using hne) f l a w (Region.free_spec hi hf) (by simpa using hr) hy hS h
/-- each of those that may come up -/
def AllE (P : Program) (md : Region.Mode) (ops : Array Oper) (Q : Exit → Act → World → Prop) (S : World → Prop) (E : Nat) (f : Nat) (l : Array Bool) (a : Act) (w : World) (rs : List Nat) : Prop :=
 ∀ i ∈ rs, wpOp P ops Q i (fun a' w' => ((l.setIfInBounds i true).getD E false = false → S w') ∧ AnyE P md ops Q S E f (l.setIfInBounds i true) a' w') a w
theorem AllE.nil {f : Nat} {l : Array Bool} {a : Act} {w : World} : AllE P md ops Q S E f l a w [] := fun _ h => absurd h List.not_mem_nil
theorem AllE.cons {f : Nat} {l : Array Bool} {a : Act} {w : World} {i : Nat} {o : Oper} {rs : List Nat} (ho : ops[i]? = some o)
  (h : ∀ K : Act → World → Prop, Shut (∀ a w, ((l.setIfInBounds i true).getD E false = false → S w) → (((l.setIfInBounds i true).getD E false = false → S w) → AnyE P md ops Q S E f (l.setIfInBounds i true) a w) → K a w) → if Region.wanted o (yielded ops a.tmps) = true then Oper.wp P o a w K Q else K (a.put o.dst undef) w)
  (hs : AllE P md ops Q S E f l a w rs) : AllE P md ops Q S E f l a w (i :: rs) := fun j hj => by
 rcases List.mem_cons.1 hj with rfl | hj
 ·exact wpOp_step ho (fun K hK => h K (fun a w h1 h2 => hK a w ⟨h1, h2 h1⟩))
 ·exact hs j hj
theorem AnyE.ready {rs : List Nat} {f : Nat} {l : Array Bool} {a : Act} {w : World} (hr : Region.ready md ops l = rs) (hne : rs ≠ []) (h : AllE P md ops Q S E f l a w rs) : AnyE P md ops Q S E (f + 1) l a w := by
 subst hr
 exact ⟨fun e => absurd e hne, h⟩
end
end Go.Proofs.YtnheioehadldmaaGreat
