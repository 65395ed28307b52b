/- PARTS OF THE WALKS, joined: Ge, LaidX, CoA, Adj, CoB, PtA. -/
import Derived.Test.YtnheioehadldmaaGreatR04
import Derived.Test.YtnheioehadldmaaGreatR03
import Derived.Test.YtnheioehadldmaaGreatR00
import Derived.Test.YtnheioehadldmaaGreatR01
/- THE WALKS over the reference's node, edge, Check of a graph. -/
namespace Go.Proofs.YtnheioehadldmaaGreat
open Go.RowKit
theorem Nodes.at_ {w : World} {ok : Nat → Prop} {A : Option Addr} {l : List NodeG} (h : Nodes w ok A l) {i : Nat} (hi : i < l.length) : ∃ b o, A = some ⟨b, o, none⟩ ∧ ∀ k, k < l.length → NodeC w ok b (o + k * 3) l[k]! := by
 obtain ⟨b, o, hA, hc⟩ := h.2 (by omega)
 exact ⟨b, o, hA, fun k hk => by rw [getElem!_pos l k hk]; exact hc k hk⟩
theorem Edges.at_ {w : World} {ok : Nat → Prop} {A : Option Addr} {l : List EdgeG} (h : Edges w ok A l) {i : Nat} (hi : i < l.length) : ∃ b o, A = some ⟨b, o, none⟩ ∧ ∀ k, k < l.length → EdgeC w ok b (o + k * 5) l[k]! := by
 obtain ⟨b, o, hA, hc⟩ := h.2 (by omega)
 exact ⟨b, o, hA, fun k hk => by rw [getElem!_pos l k hk]; exact hc k hk⟩
theorem box_node (w : World) (n : Int) (A B : Option Addr) (na c nb d : Nat) (t : TypeId) : ∃ (q : Nat) (w1 : World), q = w.heap.size ∧ w1 = w.alloc (.cells #[.int .i64 n, .slice A na c, .slice B nb d] t) ∧ w1.cell? ⟨q, 0, none⟩ = some (.int .i64 n) ∧ w1.cell? ⟨q, 1, none⟩ = some (.slice A na c) ∧ w1.cell? ⟨q, 2, none⟩ = some (.slice B nb d) ∧ Ext w w1 :=
 ⟨_, _, rfl, rfl, by go_simp, by go_simp, by go_simp, (Ext.refl _).alloc _⟩
theorem box_edge (w : World) (e : EdgeG) (B : Option Addr) (d : Nat) (t : TypeId) : ∃ (q : Nat) (w1 : World), q = w.heap.size ∧ w1 = w.alloc (.cells #[.int .i64 e.id, .int .i64 e.frm, .int .i64 e.to_, .string e.typ, .slice B e.props.length d] t) ∧ w1.cell? ⟨q, 0, none⟩ = some (.int .i64 e.id) ∧ w1.cell? ⟨q, 1, none⟩ = some (.int .i64 e.frm) ∧ w1.cell? ⟨q, 2, none⟩ = some (.int .i64 e.to_) ∧ w1.cell? ⟨q, 3, none⟩ = some (.string e.typ) ∧ w1.cell? ⟨q, 4, none⟩ = some (.slice B e.props.length d) ∧ Ext w w1 :=
 ⟨_, _, rfl, rfl, by go_simp, by go_simp, by go_simp, by go_simp, by go_simp, (Ext.refl _).alloc _⟩
/-- what is wrong with a node, piece by piece -/
theorem nodeE_26 {g : GraphG} {i : Nat} (h : 0 < i) (h2 : g.nodes[i]!.id ≤ g.nodes[i - 1]!.id) : nodeE g i = 26 := by unfold nodeE; rw [if_pos ⟨h, h2⟩]
theorem nodeE_1 {g : GraphG} {i : Nat} (h : 0 < i → g.nodes[i - 1]!.id < g.nodes[i]!.id) (h2 : g.nodes[i]!.id < 1 ∨ g.nn ≤ g.nodes[i]!.id) : nodeE g i = 1 := by
 unfold nodeE; rw [if_neg (fun hh => by have := h hh.1; omega), if_pos h2]
theorem nodeE_p {g : GraphG} {i : Nat} (h : 0 < i → g.nodes[i - 1]!.id < g.nodes[i]!.id) (h2 : 1 ≤ g.nodes[i]!.id) (h3 : g.nodes[i]!.id < g.nn) : nodeE g i = partsE g.nodes[i]!.labels g.nodes[i]!.props := by
 unfold nodeE; rw [if_neg (fun hh => by have := h hh.1; omega), if_neg (by omega)]
theorem edgeE_26 {g : GraphG} {i : Nat} (h : 0 < i) (h2 : g.edges[i]!.id ≤ g.edges[i - 1]!.id) : edgeE g i = 26 := by unfold edgeE; rw [if_pos ⟨h, h2⟩]
theorem edgeE_1 {g : GraphG} {i : Nat} (h : 0 < i → g.edges[i - 1]!.id < g.edges[i]!.id) (h2 : g.edges[i]!.id < 1 ∨ g.ne ≤ g.edges[i]!.id) : edgeE g i = 1 := by
 unfold edgeE; rw [if_neg (fun hh => by have := h hh.1; omega), if_pos h2]
theorem edgeE_p {g : GraphG} {i : Nat} (h : 0 < i → g.edges[i - 1]!.id < g.edges[i]!.id) (h2 : 1 ≤ g.edges[i]!.id) (h3 : g.edges[i]!.id < g.ne) : edgeE g i = if hasN g.nodes g.edges[i]!.frm && hasN g.nodes g.edges[i]!.to_ then (if nameB g.edges[i]!.typ then partsE [] g.edges[i]!.props else 6) else 10 := by
 unfold edgeE; rw [if_neg (fun hh => by have := h hh.1; omega), if_neg (by omega)]
end Go.Proofs.YtnheioehadldmaaGreat

/- GRAPHS THAT COME IN. -/
namespace Go.Proofs.YtnheioehadldmaaGreat
open Go.ChangeShapes Go.WideShapes Go.ChangeAt Go.RowKit
open Go.ChangeMaps (open_string shut_string)
theorem four_L {α : Type} {l : List α} (h : l.length = 4) : ∃ a b c d, l = [a, b, c, d] := by
 match l, h with
 | [a, b, c, d], _ => exact ⟨a, b, c, d, rfl⟩
section
variable {H : Type} {enc : TypeId × Value → H} {w : World} {base : Nat} {spare : Nat → Bool} {held : Bool}
end
end Go.Proofs.YtnheioehadldmaaGreat

/- PLAIN: numbers as bytes, seven bits at a time; reading undoes writing. -/
namespace Go.Proofs.YtnheioehadldmaaGreat
/-- the bytes of a number -/
def vi (u : Nat) : List Nat := if u < 128 then [u] else (u % 128 + 128) :: vi (u / 128)
termination_by u
decreasing_by omega
theorem vi_small {u : Nat} (h : u < 128) : vi u = [u] := by rw [vi, if_pos h]
theorem vi_big {u : Nat} (h : 128 ≤ u) : vi u = (u % 128 + 128) :: vi (u / 128) := by rw [vi, if_neg (by omega)]
theorem vi_byte : ∀ (u : Nat), ∀ c ∈ vi u, c < 256 := by
 intro u
 induction u using Nat.strongRecOn with
 | _ u ih =>
  intro c hc
  rcases Nat.lt_or_ge u 128 with h | h
  ·rw [vi_small h, List.mem_singleton] at hc; omega
  ·rw [vi_big h] at hc
   rcases List.mem_cons.1 hc with e | e
   ·omega
   ·exact ih _ (by omega) c e
theorem vi_len : ∀ (f u : Nat), u < 128 ^ (f + 1) → (vi u).length ≤ f + 1
 | 0, u, h => by rw [vi_small (by simpa using h)]; simp
 | f + 1, u, h => by
  rcases Nat.lt_or_ge u 128 with h1 | h1
  ·rw [vi_small h1]; simp
  ·rw [vi_big h1, List.length_cons]
   have := vi_len f (u / 128) (by rw [Nat.pow_succ] at h; exact Nat.div_lt_of_lt_mul (by omega))
   omega
theorem vi_len10 {u : Nat} (h : u < 18446744073709551616) : (vi u).length ≤ 10 := vi_len 9 u (by omega)
theorem vi_ne (u : Nat) : vi u ≠ [] := by rw [vi]; split <;> simp
/-- reading: how many bytes may come; what is left behind -/
def rdF : Nat → List Nat → Except Int (Nat × List Nat)
 | 0, _ => .error 4
 | _ + 1, [] => .error 3
 | f + 1, c :: l => if 128 ≤ c then (match rdF f l with
   | .ok (u, r) => .ok (c % 128 + 128 * u, r)
   | .error e => .error e) else if f = 0 ∧ 1 < c then .error 4 else if f < 9 ∧ c = 0 then .error 2 else .ok (c, l)
theorem rdF_inv : ∀ (f : Nat) (l : List Nat) (u : Nat) (r : List Nat), f ≤ 9 → (∀ c ∈ l, c < 256) → rdF (f + 1) l = .ok (u, r) → l = vi u ++ r ∧ u < 2 * 128 ^ f ∧ (f < 9 → 0 < u)
 | _, [], u, r, _, _, h => by rw [rdF] at h; cases h
 | 0, c :: l, u, r, _, hb, h => by
  rw [rdF] at h
  split at h
  ·rw [rdF] at h; cases h
  ·rename_i h1
   split at h
   ·cases h
   ·rename_i h2
    split at h
    ·cases h
    ·rename_i h3
     injection h with h
     injection h with e1 e2
     subst e1; subst e2
     exact ⟨by rw [vi_small (by omega)]; rfl, by omega, fun _ => by omega⟩
 | f + 1, c :: l, u, r, h9, hb, h => by
  rw [rdF] at h
  split at h
  ·rename_i h1
   cases h2 : rdF (f + 1) l with
   | error e => rw [h2] at h; cases h
   | ok p =>
    obtain ⟨u', r'⟩ := p
    rw [h2] at h
    injection h with h
    injection h with e1 e2
    obtain ⟨k1, k2, k3⟩ := rdF_inv f l u' r' (by omega) (fun x hx => hb x (by simp [hx])) h2
    have hc := hb c (by simp)
    subst e2
    have hu := k3 (by omega)
    rw [← e1]
    refine ⟨?_, by rw [Nat.pow_succ]; omega, fun _ => by omega⟩
    rw [vi_big (by omega), show (c % 128 + 128 * u') % 128 + 128 = c by omega, show (c % 128 + 128 * u') / 128 = u' by omega, k1]
    rfl
  ·rename_i h1
   split at h
   ·cases h
   ·rename_i h2
    split at h
    ·cases h
    ·rename_i h3
     injection h with h
     injection h with e1 e2
     subst e1; subst e2
     exact ⟨by rw [vi_small (by omega)]; rfl, by rw [Nat.pow_succ]; have := Nat.pow_pos (n := f) (show 0 < 128 by decide); omega, fun _ => by omega⟩
/-- a signed number as an unsigned one -/
def zig (n : Int) : Nat := if n < 0 then 2 * (-(n + 1)).toNat + 1 else 2 * n.toNat
def zag (u : Nat) : Int := if u % 2 = 1 then -((u / 2 : Nat) : Int) - 1 else ((u / 2 : Nat) : Int)
theorem zig_lt {n : Int} (h : -9223372036854775808 ≤ n ∧ n ≤ 9223372036854775807) : zig n < 18446744073709551616 := by unfold zig; split <;> omega
/-- reading a number -/
def uE (l : List Nat) : Except Int (Nat × List Nat) := match rdF 10 l with
 | .ok (u, r) => if u ≤ 9223372036854775807 then .ok (u, r) else .error 4
 | .error e => .error e
def iE (l : List Nat) : Except Int (Int × List Nat) := match rdF 10 l with
 | .ok (u, r) => .ok (zag u, r)
 | .error e => .error e
/-- what is left is the end of what came -/
theorem rdF_drop : ∀ (f : Nat) (l : List Nat) (u : Nat) (r : List Nat), rdF f l = .ok (u, r) → ∃ k, 0 < k ∧ k ≤ l.length ∧ r = l.drop k
 | 0, _, _, _, h => by rw [rdF] at h; cases h
 | _ + 1, [], _, _, h => by rw [rdF] at h; cases h
 | f + 1, c :: l, u, r, h => by
  rw [rdF] at h
  split at h
  ·cases h2 : rdF f l with
   | error e => rw [h2] at h; cases h
   | ok p =>
    obtain ⟨u', r'⟩ := p
    rw [h2] at h
    injection h with h
    injection h with e1 e2
    obtain ⟨k, k1, k2, k3⟩ := rdF_drop f l u' r' h2
    exact ⟨k + 1, by omega, by simp; omega, by rw [← e2, k3]; rfl⟩
  ·split at h
   ·cases h
   ·split at h
    ·cases h
    ·injection h with h
     injection h with e1 e2
     exact ⟨1, by omega, by simp, by rw [← e2]; rfl⟩
end Go.Proofs.YtnheioehadldmaaGreat

/- ENTRIES (api.Adj): three ints; plain and in memory. -/
namespace Go.Proofs.YtnheioehadldmaaGreat
open Go.RowKit
/-- an entry: id: where it begins, n: where it leads, d: its edge -/
structure Sh where
 id : Int
 n : Int
 d : Int
deriving DecidableEq
instance : Inhabited Sh := ⟨⟨0, 0, 0⟩⟩
def ShC (w : World) (ok : Nat → Prop) (b o : Nat) (s : Sh) : Prop := ok b ∧ w.cell? ⟨b, o, none⟩ = some (.int .i64 s.id) ∧ w.cell? ⟨b, o + 1, none⟩ = some (.int .i64 s.n) ∧ w.cell? ⟨b, o + 2, none⟩ = some (.int .i64 s.d)
def Shares (w : World) (ok : Nat → Prop) (A : Option Addr) (l : List Sh) : Prop := SliceR (ShC w ok) 3 A l
theorem Shares.keep {w w' : World} {ok ok' : Nat → Prop} {A : Option Addr} {l : List Sh} (h : Shares w ok A l) (hk : ∀ b o x, ok b → w.cell? ⟨b, o, none⟩ = some x → w'.cell? ⟨b, o, none⟩ = some x ∧ ok' b) : Shares w' ok' A l := SliceR.mono h (fun _ _ _ _ hx => ⟨(hk _ _ _ hx.1 hx.2.1).2, (hk _ _ _ hx.1 hx.2.1).1, (hk _ _ _ hx.1 hx.2.2.1).1, (hk _ _ _ hx.1 hx.2.2.2).1⟩)
theorem Shares.ext {w w' : World} {ok : Nat → Prop} {A : Option Addr} {l : List Sh} (h : Shares w ok A l) (e : Ext w w') : Shares w' ok A l := h.keep (fun _ _ _ hb hc => ⟨e.cell hc, hb⟩)
theorem Shares.at_ {w : World} {ok : Nat → Prop} {A : Option Addr} {l : List Sh} (h : Shares w ok A l) {i : Nat} (hi : i < l.length) : ∃ b o, A = some ⟨b, o, none⟩ ∧ ∀ k, k < l.length → ShC w ok b (o + k * 3) l[k]! := by
 obtain ⟨b, o, hA, hc⟩ := h.2 (by omega)
 exact ⟨b, o, hA, fun k hk => by rw [getElem!_pos l k hk]; exact hc k hk⟩
def Sh.cells (s : Sh) : List Value := [.int .i64 s.id, .int .i64 s.n, .int .i64 s.d]
theorem Sh.cells_one (s : Sh) : ∀ u ∈ s.cells, u.oneCell' = true := by
 intro u hu
 simp only [Sh.cells, List.mem_cons, List.not_mem_nil, or_false] at hu
 rcases hu with rfl | rfl | rfl <;> rfl
theorem El_adj : ElT Tryz.prog 42 41 3 24 := ⟨Tryz.underlying42, ⟨.agg #[.int .i64 0, .int .i64 0, .int .i64 0], by kernel_rfl, rfl⟩, by decide⟩
theorem shares_of_own {w : World} {base e : Nat} {v : Value} {n : Nat} {l : List Sh} (h : w.ownsRow base e 3 v n (l.flatMap Sh.cells)) (hn : n = l.length) (hm : l.length ≤ 140737488355328) : ∃ A c, v = .slice A l.length c ∧ l.length ≤ c ∧ Shares w (fun b => base ≤ b) A l :=
 own_sliceR (cs := l.map Sh.cells) (by rw [← List.flatMap_def]; exact h) hn (by simp) (by simp [Sh.cells]) hm (fun g hg _ k hk h' hu => ⟨hg, by have := hu 0 (.int .i64 l[k].id) (by simp [Sh.cells]); simpa using this, by have := hu 1 (.int .i64 l[k].n) (by simp [Sh.cells]); simpa using this, by have := hu 2 (.int .i64 l[k].d) (by simp [Sh.cells]); simpa using this⟩)
end Go.Proofs.YtnheioehadldmaaGreat

/- PLAIN: columns; entries packed, spread out again. -/
namespace Go.Proofs.YtnheioehadldmaaGreat
open Go.RowKit
structure Col where
 nodes : List Int
 first : List Int
 tos : List Int
 edges : List Int
deriving Inhabited
def adjOrd (a b : Sh) : Int := thenC (Lib.compareInt a.id b.id) (thenC (Lib.compareInt a.n b.n) (Lib.compareInt a.d b.d))
theorem TotC.adj : TotC adjOrd := (TotC.lex TotC.int (TotC.lex TotC.int TotC.int)).pull (fun a : Sh => (a.id, a.n, a.d)) (fun a b h => by
 obtain ⟨h1, h2⟩ := Prod.mk.inj h
 obtain ⟨h2, h3⟩ := Prod.mk.inj h2
 cases a; cases b; cases h1; cases h2; cases h3; rfl)
/-- does a row begin here -/
def headB (l : List Sh) (i : Nat) : Bool := decide (i = 0) || !decide (l[i]!.id = l[i - 1]!.id)
def headsK (l : List Sh) (k : Nat) : List Nat := (List.range k).filter (headB l)
def packK (l : List Sh) (k : Nat) : Col := ⟨(headsK l k).map (fun i => l[i]!.id), (headsK l k).map (fun i : Nat => (i : Int)), (l.take k).map Sh.n, (l.take k).map Sh.d⟩
def packC (l : List Sh) : Col := { packK l l.length with first := (packK l l.length).first ++ (if l = [] then [] else [(l.length : Int)]) }
theorem headsK_yes {l : List Sh} {k : Nat} (h : headB l k = true) : headsK l (k + 1) = headsK l k ++ [k] := by
 unfold headsK
 rw [List.range_succ, List.filter_append]; simp [h]
theorem headsK_no {l : List Sh} {k : Nat} (h : headB l k = false) : headsK l (k + 1) = headsK l k := by
 unfold headsK
 rw [List.range_succ, List.filter_append]; simp [h]
/-- an entry of a column -/
def entC (c : Col) (i k : Nat) : Sh := ⟨c.nodes[i]!, c.tos[k]!, c.edges[k]!⟩
/-- the entries of row i up to k -/
def rowK (c : Col) (i k : Nat) : List Sh := (List.range' c.first[i]!.toNat (k - c.first[i]!.toNat)).map (entC c i)
def flatK (c : Col) (i : Nat) : List Sh := (List.range i).flatMap (fun i => rowK c i c.first[i + 1]!.toNat)
def flatC (c : Col) : List Sh := flatK c c.nodes.length
theorem rowK_start (c : Col) (i : Nat) : rowK c i c.first[i]!.toNat = [] := by unfold rowK; rw [Nat.sub_self]; rfl
theorem rowK_snoc {c : Col} {i k : Nat} (h : c.first[i]!.toNat ≤ k) : rowK c i (k + 1) = rowK c i k ++ [entC c i k] := by
 unfold rowK
 rw [show k + 1 - c.first[i]!.toNat = (k - c.first[i]!.toNat) + 1 by omega, List.range'_1_concat, List.map_append, show c.first[i]!.toNat + (k - c.first[i]!.toNat) = k by omega]
 rfl
theorem flatK_succ (c : Col) (i : Nat) : flatK c (i + 1) = flatK c i ++ rowK c i c.first[i + 1]!.toNat := by
 unfold flatK
 rw [List.range_succ, List.flatMap_append]; simp
/-- the lists of a column fit together -/
structure ShapeC (c : Col) : Prop where
 len : c.first.length = c.nodes.length + 1
 zero : c.first[0]! = 0
 same : c.tos.length = c.edges.length
 last : c.first[c.nodes.length]! = (c.tos.length : Int)
 rise : ∀ i, i < c.nodes.length → c.first[i]! < c.first[i + 1]!
theorem ShapeC.nn {c : Col} (h : ShapeC c) : ∀ {i : Nat}, i ≤ c.nodes.length → 0 ≤ c.first[i]!
 | 0, _ => by rw [h.zero]; decide
 | i + 1, hi => by have := h.rise i (by omega); have := h.nn (i := i) (by omega); omega
theorem ShapeC.mono {c : Col} (h : ShapeC c) : ∀ {i j : Nat}, i ≤ j → j ≤ c.nodes.length → c.first[i]! ≤ c.first[j]!
 | i, 0, hi, _ => by rw [Nat.le_zero.1 hi]; omega
 | i, j + 1, hi, hj => by
  rcases Nat.eq_or_lt_of_le hi with e | e
  ·rw [e]; omega
  ·have := h.mono (i := i) (j := j) (by omega) (by omega); have := h.rise j (by omega); omega
theorem ShapeC.lt {c : Col} (h : ShapeC c) {i j : Nat} (hij : i < j) (hj : j ≤ c.nodes.length) : c.first[i]! < c.first[j]! := by
 have := h.rise i (by omega); have := h.mono (i := i + 1) (j := j) hij hj; omega
theorem ShapeC.le {c : Col} (h : ShapeC c) {i : Nat} (hi : i ≤ c.nodes.length) : c.first[i]! ≤ (c.tos.length : Int) := by rw [← h.last]; exact h.mono hi (Nat.le_refl _)
theorem flatK_len {c : Col} (h : ShapeC c) : ∀ {i : Nat}, i ≤ c.nodes.length → (flatK c i).length = c.first[i]!.toNat
 | 0, _ => by rw [h.zero]; rfl
 | i + 1, hi => by
  rw [flatK_succ, List.length_append, flatK_len h (i := i) (by omega)]
  unfold rowK
  rw [List.length_map, List.length_range']
  have := h.rise i (by omega); have := h.nn (i := i) (by omega); omega
theorem flatC_len {c : Col} (h : ShapeC c) : (flatC c).length = c.tos.length := by
 unfold flatC; rw [flatK_len h (Nat.le_refl _), h.last]; omega
theorem flatK_at {c : Col} (h : ShapeC c) : ∀ {n i k : Nat}, n ≤ c.nodes.length → i < n → c.first[i]!.toNat ≤ k → k < c.first[i + 1]!.toNat → (flatK c n)[k]? = some (entC c i k)
 | 0, _, _, _, hi, _, _ => absurd hi (by omega)
 | n + 1, i, k, hn, hi, h1, h2 => by
  rw [flatK_succ]
  have hl := flatK_len h (i := n) (by omega)
  have h0 := h.nn (i := n) (by omega)
  by_cases e : i = n
  ·subst e
   rw [List.getElem?_append_right (by omega), hl]
   unfold rowK
   rw [List.getElem?_map, List.getElem?_range' (by omega)]
   show some (entC c i (c.first[i]!.toNat + 1 * (k - c.first[i]!.toNat))) = _
   rw [show c.first[i]!.toNat + 1 * (k - c.first[i]!.toNat) = k by omega]
  ·have := h.mono (i := i + 1) (j := n) (by omega) (by omega)
   rw [List.getElem?_append_left (by omega)]
   exact flatK_at h (by omega) (by omega) h1 h2
/-- the row in which an entry lies -/
theorem ShapeC.row {c : Col} (h : ShapeC c) : ∀ {n k : Nat}, n ≤ c.nodes.length → k < c.first[n]!.toNat → ∃ i, i < n ∧ c.first[i]!.toNat ≤ k ∧ k < c.first[i + 1]!.toNat
 | 0, k, _, hk => by rw [h.zero] at hk; exact absurd hk (by simp)
 | n + 1, k, hn, hk => by
  by_cases e : k < c.first[n]!.toNat
  ·obtain ⟨i, h1, h2⟩ := h.row (n := n) (by omega) e
   exact ⟨i, by omega, h2⟩
  ·exact ⟨n, by omega, by omega, hk⟩
theorem flatC_nd {c : Col} (h : ShapeC c) {k : Nat} (hk : k < c.tos.length) : ∃ i, i < c.nodes.length ∧ c.first[i]!.toNat ≤ k ∧ k < c.first[i + 1]!.toNat ∧ (flatC c)[k]! = entC c i k := by
 obtain ⟨i, h1, h2, h3⟩ := h.row (n := c.nodes.length) (k := k) (Nat.le_refl _) (by rw [h.last]; omega)
 refine ⟨i, h1, h2, h3, ?_⟩
 have h4 := flatK_at h (Nat.le_refl _) h1 h2 h3
 rw [getElem!_def]
 unfold flatC
 rw [h4]
end Go.Proofs.YtnheioehadldmaaGreat

/- PLAIN: paths: steps, modes, what lies within some hops, and its order. No program in sight. -/
namespace Go.Proofs.YtnheioehadldmaaGreat
open Go.RowKit
/- steps and modes -/
abbrev Hop := Int × Int
/-- the node to which an edge leads from n -/
def toE (types : List ByteArray) (dir n : Int) (e : EdgeG) : Option Int :=
 if typB types e.typ = true then (if (dir = 1 ∨ dir = 3) ∧ e.frm = n then some e.to_ else if (dir = 2 ∨ dir = 3) ∧ e.to_ = n then some e.frm else none) else none
def hopE (types : List ByteArray) (dir n : Int) (e : EdgeG) : Option Hop := (toE types dir n e).map (fun t => (e.id, t))
def hopsE (g : GraphG) (types : List ByteArray) (dir n : Int) : List Hop := g.edges.filterMap (hopE types dir n)
/-- the nodes of a path -/
def nodeP (s : Int) (h : List Hop) (i : Nat) : Int := (s :: h.map Prod.snd)[i]!
/- what lies within some hops -/
section
variable (g : GraphG) (types : List ByteArray) (dir mode s : Int)
end
end Go.Proofs.YtnheioehadldmaaGreat
