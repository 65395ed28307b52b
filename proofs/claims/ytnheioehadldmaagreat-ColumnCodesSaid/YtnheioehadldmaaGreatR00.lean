/- PARTS OF THE WALKS, joined: Ext, Own, Row, Tot, PlainA, PlainF. -/
import Derived.Below
import Derived.Laws.Rows
import Derived.Laws.OwnMore
import Derived.Deep.Draws
import Derived.Lib.Hide
import Derived.OrdersHeld
import Derived.Test.YtnheioehadldmaaGreatProg
import Derived.Laws.AppendOwn
import Derived.OwnWalk
import Derived.Deep.AppendLies
import Derived.Deep.MidRow
import Derived.Laws.CopyRow
import Derived.Lib.AppendZerosOnto
import Derived.Lib.SlFresh
import Derived.Sort.Walk0
import Derived.Lib.Small
import Derived.Lib.ItoaNum
import Derived.Lib.AtoiAll
/- WORLDS THAT KEEP ALL THAT LAY IN MEMORY: a preorder on worlds, and what it keeps. -/
namespace Go.Proofs.YtnheioehadldmaaGreat
open Go.RowKit
/-- all that lay in a lies in b as it was -/
def Ext (a b : World) : Prop := Below a.heap.size a b
theorem Ext.refl (w : World) : Ext w w := Below.refl _ _
theorem Ext.trans {a b c : World} (h : Ext a b) (k : Ext b c) : Ext a c := Below.trans h (Below.mono k h.size)
theorem Ext.cell {a b : World} (h : Ext a b) {p : Addr} {v : Value} (hc : a.cell? p = some v) : b.cell? p = some v := (Below.cell h (block_lt_of_cell hc)).trans hc
theorem Ext.heap {a b : World} (h : Ext a b) {k : Nat} {o : Obj} (hc : a.heap[k]? = some o) : b.heap[k]? = some o := by
 refine (h.block k ?_).trans hc
 rcases Nat.lt_or_ge k a.heap.size with hlt | hge
 ·exact hlt
 ·rw [Array.getElem?_eq_none hge] at hc; cases hc
theorem Ext.le {a b : World} (h : Ext a b) : a.heap.size ≤ b.heap.size := h.size
theorem Ext.drew {a b : World} (h : Ext a b) : Ext a b.drew := Below.drew h
theorem Ext.drewN {a b : World} (h : Ext a b) (n : Nat) : Ext a (b.drewN n) := ⟨h.os, h.tape, h.output, h.size, h.block⟩
theorem Ext.alloc {a b : World} (h : Ext a b) (o : Obj) : Ext a (b.alloc o) := Below.alloc h h.size o
theorem Ext.setCell {a b : World} (h : Ext a b) {p : Addr} (hp : a.heap.size ≤ p.block) (u : Value) : Ext a (b.setCell p u) := Below.setCell h hp u
theorem Ext.grown {a b c : World} {row : Option Nat} (h : Ext a b) (hg : b.grownBy c row) (hr : ∀ k, row = some k → a.heap.size ≤ k) : Ext a c := Below.grown h hg h.size hr
/-- an operation taken first, whose value is told (for printed walks) -/
theorem TK {P : Program} {ops : Array Oper} {Q : Exit → Act → World → Prop} {md : Region.Mode} {S : World → Prop} (i : Nat) {d : Option Nat} {op : Op} {ty : TypeId} {ps : String} {af : Array Edge} {gd : Option (Nat × Bool)} {v : Value} {fuel : Nat} {listed : Array Bool} {a : Act} {w : World} (hS : S w)
  (hy : ∀ w, S w → (execOp a.eval ⟨d, op, ty, ps, af, gd⟩).run P w = .ok (.value v) w) (h : wpAnyH P md ops Q S fuel (listed.setIfInBounds i true) (a.put d v) w)
  (hi : ops[i]? = some ⟨d, op, ty, ps, af, gd⟩ := by exact rfl) (hb : (Region.noSelect ops && Region.free md ops listed i && (Region.ready md ops listed).contains i) = true := by kernel_rfl) (hg : Region.wanted ⟨d, op, ty, ps, af, gd⟩ (yielded ops a.tmps) = true := by exact rfl)
  (hQ : ∀ c a w, Q (.panic c) (a.put d v) w → Q (.panic c) a w := by exact fun _ _ _ h => h) : wpAnyH P md ops Q S (fuel + 1) listed a w := by
 simp only [Bool.and_eq_true] at hb
 exact wpAnyH_take hi hb.1.1 hb.1.2 hb.2 hQ (.inl ⟨hg, hy⟩) hS h
/-- an operation passed over -/
theorem TN {P : Program} {ops : Array Oper} {Q : Exit → Act → World → Prop} {md : Region.Mode} {S : World → Prop} (i : Nat) {d : Option Nat} {op : Op} {ty : TypeId} {ps : String} {af : Array Edge} {gd : Option (Nat × Bool)} {fuel : Nat} {listed : Array Bool} {a : Act} {w : World} (hS : S w)
  (h : wpAnyH P md ops Q S fuel (listed.setIfInBounds i true) (a.put d undef) w)
  (hi : ops[i]? = some ⟨d, op, ty, ps, af, gd⟩ := by exact rfl) (hb : (Region.noSelect ops && Region.free md ops listed i && (Region.ready md ops listed).contains i) = true := by kernel_rfl) (hg : Region.wanted ⟨d, op, ty, ps, af, gd⟩ (yielded ops a.tmps) = false := by exact rfl)
  (hQ : ∀ c a w, Q (.panic c) (a.put d undef) w → Q (.panic c) a w := by exact fun _ _ _ h => h) : wpAnyH P md ops Q S (fuel + 1) listed a w := by
 simp only [Bool.and_eq_true] at hb
 exact wpAnyH_take hi hb.1.1 hb.1.2 hb.2 hQ (.inr ⟨hg, rfl⟩) hS h
theorem X0 (w : World) : Ext w w := Ext.refl w
theorem X1 {a b : World} (h : Ext a b) : Ext a b.drew := h.drew
theorem X2 {a b : World} (h : Ext a b) (n : Nat) : Ext a (b.drewN n) := h.drewN n
theorem X3 {a b : World} (h : Ext a b) (o : Obj) : Ext a (b.alloc o) := h.alloc o
/-- a slot written, cell by cell (for printed walks) -/
theorem PU : (∀ (a : Act) (d : Nat) (v : Value), a.put (some d) v = { a with tmps := a.tmps.setIfInBounds d v }) ∧ (∀ (l : List Value) (i : Nat) (v : Value), l.toArray.setIfInBounds i v = (l.set i v).toArray) ∧ (∀ (x : Value) (l : List Value) (i : Nat) (v : Value), (x :: l).set (i + 1) v = x :: l.set i v) ∧ (∀ (x : Value) (l : List Value) (v : Value), (x :: l).set 0 v = v :: l) :=
 ⟨fun _ _ _ => rfl, fun _ _ _ => List.setIfInBounds_toArray .., fun _ _ _ _ => List.set_cons_succ .., fun _ _ _ => List.set_cons_zero ..⟩
end Go.Proofs.YtnheioehadldmaaGreat

/- SLICES THAT A CALL OWNS, element by element: one more element appended; read as a list. -/
namespace Go.Proofs.YtnheioehadldmaaGreat
open Go.RowKit
/-- what is known of a slice type t over e: cells and bytes of an element -/
structure ElT (P : Program) (t e size bytes : Nat) : Prop where
 ht : P.underlying t = some (.slice e)
 hi : ∃ z : Value, (P.info? e).map (fun i => (i.zero, i.size, i.bytes)) = some (some z, size, bytes) ∧ z.cells.size = size
 hs : 0 < size
theorem own_push {P : Program} {t e size bytes : Nat} (T : ElT P t e size bytes) {ops : Array Oper} {rest : List Oper} {o : Oper} {a : Act} {Q : Exit → Act → World → Prop} {w : World} (hgd : o.guard = none) (s x : Operand)
  (ho : o.op = .call { callee := .builtin .append, args := #[s, x], argTypes := #[t, t] }) (wb w0 : World) (v : Value) (n : Nat) (xs news : List Value) (hs : a.eval s = v) (hown : w0.ownsRow wb.heap.size e size v n xs) (hE : Ext wb w0)
  (hw : w = w0.alloc (.cells news.toArray e)) (hx : a.eval x = .slice (some ⟨w0.heap.size, 0, none⟩) 1 1) (hl : news.length = size) (h1 : ∀ u ∈ news, u.oneCell' = true)
  (h63 : n + 1 ≤ 8388608) (hbytes : bytes ≤ 1000000)
  (h : ∀ v' w', w'.ownsRow wb.heap.size e size v' (n + 1) (xs ++ news) → Ext wb w' → wpList P ops Q rest (a.put o.dst v') w') : wpList P ops Q (o :: rest) a w := by
 obtain ⟨z, hz, hzc⟩ := T.hi
 obtain ⟨i, hi, hz0, hz1, hz2⟩ := info_parts hz
 subst hw
 refine wpList_append_own _ hgd s x t ho wb.heap.size e i z size bytes T.ht hi hz0 hz1 hz2 hzc T.hs v n xs hs (hown.alloc _) ⟨w0.heap.size, 0, none⟩ 1 1 news hx (by omega) ?_ h1 (by unfold maxLen; omega) ?_ (Nat.le_trans hE.le (by simp)) ?_
 ·intro j u hj
  rw [Addr.add_mid, cell_of_row _ _ _ _ _ _ (heap_alloc_new w0 _)]
  simpa using hj
 ·exact Nat.le_trans (Nat.mul_le_mul h63 hbytes) (by decide)
 ·intro v' w' h2 h3 _
  exact h v' w' h2 ((hE.alloc _).grown h3 (fun k hk => (hown.lt k hk).1))
theorem own_ext {w w' : World} {base e size n : Nat} {v : Value} {xs : List Value} (h : w.ownsRow base e size v n xs) (x : Ext w w') : w'.ownsRow base e size v n xs :=
 ⟨h.1, h.2.imp id (fun ⟨g, cap, cur, h1, h2, h3, h4⟩ => ⟨g, cap, cur, h1, h2, x.heap h3, h4⟩)⟩
theorem own_mono {w : World} {base base' e size n : Nat} {v : Value} {xs : List Value} (h : w.ownsRow base e size v n xs) (hb : base' ≤ base) : w.ownsRow base' e size v n xs :=
 ⟨h.1, h.2.imp id (fun ⟨g, cap, cur, h1, h2, h3, h4⟩ => ⟨g, cap, cur, h1, Nat.le_trans hb h2, h3, h4⟩)⟩
theorem own_form {w : World} {base e size n : Nat} {v : Value} {xs : List Value} (h : w.ownsRow base e size v n xs) : ∃ A c, v = .slice A n c := by
 rcases h.2 with ⟨hv, h0⟩ | ⟨g, cap, cur, hv, _⟩
 ·exact ⟨none, 0, by rw [hv, h0]⟩
 ·exact ⟨_, _, hv⟩
/-- an element's cells out of the row -/
theorem flat_get {α : Type} (f : α → List Value) (size : Nat) (hf : ∀ x, (f x).length = size) : ∀ (l : List α) (k j : Nat) (hk : k < l.length), j < size → (l.flatMap f)[k * size + j]? = (f l[k])[j]?
 | [], k, j, hk, _ => absurd hk (by simp)
 | x :: l, 0, j, _, hj => by
  rw [List.flatMap_cons, Nat.zero_mul, Nat.zero_add, List.getElem?_append_left (by rw [hf]; exact hj)]; rfl
 | x :: l, k + 1, j, hk, hj => by
  have e : (k + 1) * size + j = size + (k * size + j) := by rw [Nat.add_mul]; omega
  rw [List.flatMap_cons, List.getElem?_append_right (by rw [hf]; omega), hf, e, Nat.add_sub_cancel_left]
  exact flat_get f size hf l k j (by simpa using hk) hj
theorem flat_len {α : Type} (f : α → List Value) (size : Nat) (hf : ∀ x, (f x).length = size) (l : List α) : (l.flatMap f).length = l.length * size := by
 induction l with
 | nil => simp
 | cons x l ih => rw [List.flatMap_cons, List.length_append, hf, ih, List.length_cons, Nat.add_mul]; omega
/-- the cells of a slice that reads as a list -/
def Lies {α : Type} (f : α → List Value) (size : Nat) (w : World) (A : Option Addr) (l : List α) : Prop :=
 0 < l.length → ∃ b off, A = some ⟨b, off, none⟩ ∧ ∀ k (h : k < l.length) j u, (f l[k])[j]? = some u → w.cell? ⟨b, off + k * size + j, none⟩ = some u
theorem Lies.ext {α : Type} {f : α → List Value} {size : Nat} {a w : World} {A : Option Addr} {l : List α} (h : Lies f size a A l) (e : Ext a w) : Lies f size w A l := fun hp =>
 let ⟨b, off, hA, hc⟩ := h hp
 ⟨b, off, hA, fun k hk j u hu => e.cell (hc k hk j u hu)⟩
theorem Lies.nil {α : Type} (f : α → List Value) (size : Nat) (w : World) (A : Option Addr) : Lies f size w A ([] : List α) := fun h => absurd h (by simp)
end Go.Proofs.YtnheioehadldmaaGreat

/- A ROW WHOSE ELEMENTS HAVE SEVERAL CELLS: what copy, append and clear make of it. -/
namespace Go.Proofs.YtnheioehadldmaaGreat
open Go.RowKit
/-- a block that is known whole -/
def Blk (w : World) (g : Nat) (t : TypeId) (cs : List Value) : Prop := w.heap[g]? = some (.cells cs.toArray t (0, 0))
theorem Blk.ext {w w' : World} {g : Nat} {t : TypeId} {cs : List Value} (h : Blk w g t cs) (e : Ext w w') : Blk w' g t cs := e.heap h
theorem Blk.cell {w : World} {g : Nat} {t : TypeId} {cs : List Value} (h : Blk w g t cs) (i : Nat) : w.cell? ⟨g, i, none⟩ = cs[i]? := by
 rw [cell_of_row w g i _ t (0, 0) h]; simp
theorem Blk.lt {w : World} {g : Nat} {t : TypeId} {cs : List Value} (h : Blk w g t cs) : g < w.heap.size := by
 unfold Blk at h
 rcases Nat.lt_or_ge g w.heap.size with hlt | hge
 ·exact hlt
 ·rw [Array.getElem?_eq_none hge] at h; cases h
theorem Blk.own {w : World} {g base : Nat} {t size n cap : Nat} {cs xs : List Value} (h : Blk w g t cs) (hb : base ≤ g) (hn : n ≤ cap) (hc : cap ≤ maxLen) (hl : cs.length = cap * size) (hx : xs = cs.take (n * size)) :
  w.ownsRow base t size (.slice (some ⟨g, 0, none⟩) n cap) n xs := by
 subst hx
 refine ⟨?_, .inr ⟨g, cap, cs.toArray, rfl, hb, h, hn, hc, by simpa using hl, by simp⟩⟩
 rw [List.length_take, hl, Nat.min_eq_left (Nat.mul_le_mul_right _ hn)]
/-- the row behind a store of several cells -/
def laidAt (cur : List Value) (o : Nat) (cs : List Value) : List Value := cur.take o ++ cs ++ cur.drop (o + cs.length)
theorem laidAt_len {cur cs : List Value} {o : Nat} (h : o + cs.length ≤ cur.length) : (laidAt cur o cs).length = cur.length := by
 unfold laidAt; simp; omega
theorem take_laid_lt {cur cs : List Value} {o p : Nat} (h : o ≤ cur.length) (hp : p ≤ o) : (laidAt cur o cs).take p = cur.take p := by
 unfold laidAt
 rw [List.append_assoc, List.take_append_of_le_length (by simp; omega), List.take_take, Nat.min_eq_left hp]
theorem flat_takeK {α : Type} (f : α → List Value) (size : Nat) (hf : ∀ x, (f x).length = size) (l : List α) (k : Nat) : (l.flatMap f).take (k * size) = (l.take k).flatMap f := by
 induction l generalizing k with
 | nil => simp
 | cons x l ih =>
  cases k with
  | zero => simp
  | succ k =>
   rw [List.flatMap_cons, List.take_succ_cons, List.flatMap_cons, ← ih k, List.take_append, hf, show (k + 1) * size - size = k * size by rw [Nat.add_mul]; omega, List.take_of_length_le (by rw [hf, Nat.add_mul]; omega)]
theorem Blk.set {w : World} {g : Nat} {t : TypeId} {cs : List Value} (h : Blk w g t cs) (cs' : List Value) : Blk (w.setRow g cs'.toArray) g t cs' := setRow_heap w g cs.toArray _ t _ h
theorem Ext.setRow {wb w : World} {g : Nat} (h : Ext wb w) (hg : wb.heap.size ≤ g) (cs : Array Value) : Ext wb (w.setRow g cs) :=
 Below.trans h ⟨rfl, rfl, rfl, by simp [World.setRow], fun k hk => setRow_other w g k cs (by omega)⟩
theorem step_append_run' {P : Program} {ops : Array Oper} {o : Oper} {a : Act} {w : World} {K : Act → World → Prop} {Q : Exit → Act → World → Prop} {E : Prop} (hg : o.guard = none) (s x : Operand) (t t' : TypeId)
  (ho : o.op = .call { callee := .builtin .append, args := #[s, x], argTypes := #[t, t'] }) (v u : Value) (hs : a.eval s = v) (hx : a.eval x = u) {v' : Value} {w' : World}
  (hr : (Builtin.append_ #[t, t'] o.type #[v, u]).run P w = .ok v' w') (hK : K (a.put o.dst v') w') : if Region.wanted o (yielded ops a.tmps) = true then Oper.wp P o a w K Q else E := by
 have hw : Region.wanted o (yielded ops a.tmps) = true := by simp [Region.wanted, hg]
 rw [if_pos hw]
 unfold Oper.wp execOp
 simp only [ho, resolve, invoke, builtin, Sem.run_bind, Sem.run_pure, Result.andThen_ok, List.map_toArray, List.map_cons, List.map_nil, hs, hx, hr]
 exact hK
section
variable {P : Program}
theorem run_clearK (w : World) (t ty elem g o n c : Nat) (z : Value) (cur : List Value) (tt : TypeId)
  (hu : P.underlying t = some (.slice elem)) (hz : ∀ w, (zeroValue elem).run P w = .ok z w) (hn : 0 < n)
  (hg : Blk w g tt cur) (hfit : o + (Builtin.zeroCells z.cells n).size ≤ cur.length) (h1 : ∀ v ∈ (Builtin.zeroCells z.cells n).toList, v.oneCell' = true) :
  (Builtin.clear_ #[t] ty #[.slice (some ⟨g, o, none⟩) n c]).run P w = .ok (.tuple #[]) (w.setRow g (laidAt cur o (Builtin.zeroCells z.cells n).toList).toArray) := by
 have hst := run_storeCells_at P g o tt (Builtin.zeroCells z.cells n).toList 0 cur.toArray w hg (by simpa using hfit) h1
 unfold laidAt
 obtain ⟨m, rfl⟩ : ∃ m, n = m + 1 := ⟨n - 1, by omega⟩
 simp [Builtin.clear_, run_underlying hu, hz, hst]
end
end Go.Proofs.YtnheioehadldmaaGreat

/- PLAIN: total orders told by a number; strings, byte by byte; lexicographic order. No program in sight. -/
namespace Go.Proofs.YtnheioehadldmaaGreat
/-- a total order told by a number -/
structure TotC {α : Type} (c : α → α → Int) : Prop where
 rng : ∀ x y, c x y = -1 ∨ c x y = 0 ∨ c x y = 1
 zero : ∀ x y, c x y = 0 ↔ x = y
 anti : ∀ x y, c y x = - c x y
 trans : ∀ x y z, c x y ≤ 0 → c y z ≤ 0 → c x z ≤ 0
/-- the first that is not zero -/
def thenC (x y : Int) : Int := if x = 0 then y else x
theorem thenC_zero (y : Int) : thenC 0 y = y := rfl
theorem thenC_ne {x : Int} (h : x ≠ 0) (y : Int) : thenC x y = x := if_neg h
theorem thenC_rng {x y : Int} (hx : x = -1 ∨ x = 0 ∨ x = 1) (hy : y = -1 ∨ y = 0 ∨ y = 1) : thenC x y = -1 ∨ thenC x y = 0 ∨ thenC x y = 1 := by
 unfold thenC; split <;> assumption
theorem thenC_eq0 {x y : Int} : thenC x y = 0 ↔ x = 0 ∧ y = 0 := by
 unfold thenC; split
 ·rename_i h; exact ⟨fun h2 => ⟨h, h2⟩, fun h2 => h2.2⟩
 ·rename_i h; exact ⟨fun h2 => absurd h2 h, fun h2 => h2.1⟩
theorem thenC_neg (x y : Int) : thenC (-x) (-y) = -thenC x y := by
 unfold thenC; split <;> split <;> omega
theorem thenC_trans {α : Type} {c : α → α → Int} (hz : ∀ x y, c x y = 0 ↔ x = y) (ha : ∀ x y, c y x = - c x y) {x y z : α} (ht : c x y ≤ 0 → c y z ≤ 0 → c x z ≤ 0) {p q r : Int} (hp : p ≤ 0 → q ≤ 0 → r ≤ 0) :
  thenC (c x y) p ≤ 0 → thenC (c y z) q ≤ 0 → thenC (c x z) r ≤ 0 := by
 intro h1 h2
 by_cases e1 : c x y = 0
 ·have := (hz _ _).1 e1; subst this
  rw [e1, thenC_zero] at h1
  by_cases e2 : c x z = 0
  ·rw [e2, thenC_zero] at h2 ⊢; exact hp h1 h2
  ·rw [thenC_ne e2] at h2 ⊢; exact h2
 ·rw [thenC_ne e1] at h1
  by_cases e2 : c y z = 0
  ·have := (hz _ _).1 e2; subst this
   rw [thenC_ne e1]; exact h1
  ·rw [thenC_ne e2] at h2
   have h3 := ht h1 h2
   by_cases e3 : c x z = 0
   ·have := (hz _ _).1 e3; subst this
    have := ha x y
    omega
   ·rw [thenC_ne e3]; exact h3
theorem TotC.lex {α β : Type} {c : α → α → Int} {d : β → β → Int} (hc : TotC c) (hd : TotC d) : TotC (fun (a b : α × β) => thenC (c a.1 b.1) (d a.2 b.2)) :=
 ⟨fun _ _ => thenC_rng (hc.rng _ _) (hd.rng _ _), fun _ _ => thenC_eq0.trans ⟨fun h => Prod.ext ((hc.zero _ _).1 h.1) ((hd.zero _ _).1 h.2), fun h => ⟨(hc.zero _ _).2 (by rw [h]), (hd.zero _ _).2 (by rw [h])⟩⟩,
  fun x y => by show thenC (c y.1 x.1) (d y.2 x.2) = _; rw [hc.anti x.1, hd.anti x.2, thenC_neg], fun _ _ _ => thenC_trans hc.zero hc.anti (hc.trans _ _ _) (hd.trans _ _ _)⟩
theorem TotC.pull {α β : Type} {c : α → α → Int} (hc : TotC c) (f : β → α) (hf : ∀ x y, f x = f y → x = y) : TotC (fun a b => c (f a) (f b)) :=
 ⟨fun _ _ => hc.rng _ _, fun x y => (hc.zero _ _).trans ⟨hf x y, fun h => by rw [h]⟩, fun _ _ => hc.anti _ _, fun _ _ _ => hc.trans _ _ _⟩
theorem TotC.int : TotC Lib.compareInt := by
 constructor <;> intros <;> unfold Lib.compareInt at * <;> (repeat' split at *) <;> omega
/-- two texts, byte by byte -/
def cmpT (a b : ByteArray) : Int := if Op.bytesLess a.toList b.toList = true then -1 else if (a.toList == b.toList) = true then 0 else 1
theorem less_irrefl (a : List UInt8) : Op.bytesLess a a = false := by
 induction a with
 | nil => rfl
 | cons x r ih => simp [Op.bytesLess, ih]
theorem less_trans : ∀ (a b c : List UInt8), Op.bytesLess a b = true → Op.bytesLess b c = true → Op.bytesLess a c = true
 | _, [], _, h, _ => by simp [Op.bytesLess] at h
 | _, _ :: _, [], _, h => by simp [Op.bytesLess] at h
 | [], _ :: _, _ :: _, _, _ => rfl
 | x :: a, y :: b, z :: c, h1, h2 => by
  simp only [Op.bytesLess, Bool.or_eq_true, Bool.and_eq_true, decide_eq_true_iff, beq_iff_eq] at h1 h2 ⊢
  rcases h1 with h1 | ⟨h1, h1'⟩ <;> rcases h2 with h2 | ⟨h2, h2'⟩
  ·exact .inl (UInt8.lt_trans h1 h2)
  ·exact .inl (h2 ▸ h1)
  ·exact .inl (h1 ▸ h2)
  ·exact .inr ⟨h1.trans h2, less_trans a b c h1' h2'⟩
theorem less_tri : ∀ (a b : List UInt8), Op.bytesLess a b = true ∨ a = b ∨ Op.bytesLess b a = true
 | [], [] => .inr (.inl rfl)
 | [], _ :: _ => .inl rfl
 | _ :: _, [] => .inr (.inr rfl)
 | x :: a, y :: b => by
  simp only [Op.bytesLess, Bool.or_eq_true, Bool.and_eq_true, decide_eq_true_iff, beq_iff_eq, List.cons.injEq]
  by_cases h : x = y
  ·subst h
   rcases less_tri a b with h | h | h
   ·exact .inl (.inr ⟨rfl, h⟩)
   ·exact .inr (.inl ⟨rfl, h⟩)
   ·exact .inr (.inr (.inr ⟨rfl, h⟩))
  ·have hn : x.toNat ≠ y.toNat := fun e => h (UInt8.toNat_inj.1 e)
   rcases Nat.lt_or_gt_of_ne hn with h | h
   ·exact .inl (.inl (UInt8.lt_iff_toNat_lt.2 h))
   ·exact .inr (.inr (.inl (UInt8.lt_iff_toNat_lt.2 h)))
theorem less_asymm {a b : List UInt8} (h : Op.bytesLess a b = true) : Op.bytesLess b a = false := by
 cases h2 : Op.bytesLess b a
 ·rfl
 ·have := less_trans _ _ _ h h2; rw [less_irrefl] at this; cases this
theorem bytes_eq {a b : ByteArray} (h : a.toList = b.toList) : a = b := by
 rw [ByteArray.toList_eq, ByteArray.toList_eq] at h
 exact ByteArray.ext (Array.toList_inj.1 h)
theorem cmpT_lt {a b : ByteArray} (h : Op.bytesLess a.toList b.toList = true) : cmpT a b = -1 := by unfold cmpT; rw [if_pos h]
theorem cmpT_eq (a : ByteArray) : cmpT a a = 0 := by unfold cmpT; rw [less_irrefl]; simp
theorem cmpT_gt {a b : ByteArray} (h : Op.bytesLess b.toList a.toList = true) : cmpT a b = 1 := by
 unfold cmpT; rw [less_asymm h, if_neg (by simp), if_neg]
 intro e; rw [beq_iff_eq] at e; rw [e, less_irrefl] at h; cases h
theorem cmpT_tri (a b : ByteArray) : (Op.bytesLess a.toList b.toList = true ∧ cmpT a b = -1 ∧ cmpT b a = 1) ∨ (a = b ∧ cmpT a b = 0) ∨ (Op.bytesLess b.toList a.toList = true ∧ cmpT a b = 1 ∧ cmpT b a = -1) := by
 rcases less_tri a.toList b.toList with h | h | h
 ·exact .inl ⟨h, cmpT_lt h, cmpT_gt h⟩
 ·have := bytes_eq h; subst this; exact .inr (.inl ⟨rfl, cmpT_eq _⟩)
 ·exact .inr (.inr ⟨h, cmpT_gt h, cmpT_lt h⟩)
theorem TotC.str : TotC cmpT := by
 constructor
 ·intro x y; rcases cmpT_tri x y with ⟨_, h, _⟩ | ⟨_, h⟩ | ⟨_, h, _⟩ <;> omega
 ·intro x y; rcases cmpT_tri x y with ⟨h0, h, _⟩ | ⟨h0, h⟩ | ⟨h0, h, _⟩
  ·exact ⟨fun e => by omega, fun e => by subst e; rw [less_irrefl] at h0; cases h0⟩
  ·exact ⟨fun _ => h0, fun _ => h⟩
  ·exact ⟨fun e => by omega, fun e => by subst e; rw [less_irrefl] at h0; cases h0⟩
 ·intro x y; rcases cmpT_tri x y with ⟨_, h, h'⟩ | ⟨h0, h⟩ | ⟨_, h, h'⟩
  ·omega
  ·subst h0; omega
  ·omega
 ·intro x y z a b
  rcases cmpT_tri x y with ⟨h0, h, _⟩ | ⟨h0, h⟩ | ⟨h0, h, _⟩
  ·rcases cmpT_tri y z with ⟨g0, g, _⟩ | ⟨g0, g⟩ | ⟨g0, g, _⟩
   ·rw [cmpT_lt (less_trans _ _ _ h0 g0)]; omega
   ·subst g0; omega
   ·omega
  ·subst h0; exact b
  ·omega
theorem TotC.refl {α : Type} {c : α → α → Int} (h : TotC c) (x : α) : c x x = 0 := (h.zero _ _).2 rfl
theorem TotC.total {α : Type} {c : α → α → Int} (h : TotC c) (x y : α) : c x y ≤ 0 ∨ c y x ≤ 0 := by
 have := h.anti x y; rcases h.rng x y with e | e | e <;> omega
/-- two rising lists of the same elements are one -/
theorem rise_unique {α : Type} {c : α → α → Int} (h : TotC c) : ∀ {a b : List α}, a.Perm b → a.Pairwise (fun x y => c x y ≤ 0) → b.Pairwise (fun x y => c x y ≤ 0) → a = b
 | [], b, hp, _, _ => (List.nil_perm.1 hp).symm
 | x :: a, [], hp, _, _ => absurd hp.length_eq (by simp)
 | x :: a, y :: b, hp, ha, hb => by
  have ha' := List.pairwise_cons.1 ha
  have hb' := List.pairwise_cons.1 hb
  have hxy : x = y := by
   have h1 : c x y ≤ 0 := by
    rcases List.mem_cons.1 (hp.mem_iff.2 (List.mem_cons_self ..) : y ∈ x :: a) with e | e
    ·rw [e, h.refl]; omega
    ·exact ha'.1 _ e
   have h2 : c y x ≤ 0 := by
    rcases List.mem_cons.1 (hp.mem_iff.1 (List.mem_cons_self ..) : x ∈ y :: b) with e | e
    ·rw [e, h.refl]; omega
    ·exact hb'.1 _ e
   have := h.anti x y
   exact (h.zero _ _).1 (by omega)
  subst hxy
  rw [rise_unique h (List.perm_cons x |>.1 hp) ha'.2 hb'.2]
/-- one more element into a rising list, behind its equals -/
def insO {α : Type} (c : α → α → Int) (x : α) : List α → List α
 | [] => [x]
 | y :: ys => if c y x ≤ 0 then y :: insO c x ys else x :: y :: ys
def sortO {α : Type} (c : α → α → Int) (l : List α) : List α := l.foldl (fun s x => insO c x s) []
theorem insO_perm {α : Type} (c : α → α → Int) (x : α) : ∀ l : List α, (insO c x l).Perm (x :: l)
 | [] => List.Perm.refl _
 | y :: ys => by
  unfold insO; split
  ·exact ((insO_perm c x ys).cons y).trans (List.Perm.swap ..)
  ·exact List.Perm.refl _
theorem insO_rise {α : Type} {c : α → α → Int} (h : TotC c) (x : α) : ∀ {l : List α}, l.Pairwise (fun x y => c x y ≤ 0) → (insO c x l).Pairwise (fun x y => c x y ≤ 0)
 | [], _ => List.pairwise_singleton _ _
 | y :: ys, hp => by
  have hp' := List.pairwise_cons.1 hp
  unfold insO; split
  ·rename_i hy
   refine List.pairwise_cons.2 ⟨fun z hz => ?_, insO_rise h x hp'.2⟩
   rcases List.mem_cons.1 ((insO_perm c x ys).mem_iff.1 hz) with e | e
   ·rw [e]; exact hy
   ·exact hp'.1 z e
  ·rename_i hy
   have hxy : c x y ≤ 0 := by rcases h.total x y with e | e; exact e; exact absurd e hy
   refine List.pairwise_cons.2 ⟨fun z hz => ?_, hp⟩
   rcases List.mem_cons.1 hz with e | e
   ·rw [e]; exact hxy
   ·exact h.trans _ _ _ hxy (hp'.1 z e)
theorem sortO_aux {α : Type} {c : α → α → Int} (h : TotC c) : ∀ (l s : List α), s.Pairwise (fun x y => c x y ≤ 0) → (l.foldl (fun s x => insO c x s) s).Perm (s ++ l) ∧ (l.foldl (fun s x => insO c x s) s).Pairwise (fun x y => c x y ≤ 0)
 | [], s, hs => ⟨by simp, hs⟩
 | x :: l, s, hs => by
  obtain ⟨h1, h2⟩ := sortO_aux h l (insO c x s) (insO_rise h x hs)
  exact ⟨h1.trans (((insO_perm c x s).append_right l).trans (by simpa using (List.perm_middle (a := x) (l₁ := s) (l₂ := l)).symm)), h2⟩
theorem sortO_perm {α : Type} {c : α → α → Int} (h : TotC c) (l : List α) : (sortO c l).Perm l := (sortO_aux h l [] List.Pairwise.nil).1
theorem sortO_rise {α : Type} {c : α → α → Int} (h : TotC c) (l : List α) : (sortO c l).Pairwise (fun x y => c x y ≤ 0) := (sortO_aux h l [] List.Pairwise.nil).2
theorem sortO_eq {α : Type} {c : α → α → Int} (h : TotC c) {l m : List α} (hp : m.Perm l) (hs : m.Pairwise (fun x y => c x y ≤ 0)) : m = sortO c l :=
 rise_unique h (hp.trans (sortO_perm h l).symm) hs (sortO_rise h l)
theorem sortO_len {α : Type} {c : α → α → Int} (h : TotC c) (l : List α) : (sortO c l).length = l.length := (sortO_perm h l).length_eq
end Go.Proofs.YtnheioehadldmaaGreat

/- PLAIN: decimal numerals and back. No program. -/
namespace Go.Proofs.YtnheioehadldmaaGreat
/-- in the range of num -/
def inB (n : Int) : Bool := decide (-1000000000000000 ≤ n) && decide (n ≤ 1000000000000000)
theorem inB_true {n : Int} : inB n = true ↔ -1000000000000000 ≤ n ∧ n ≤ 1000000000000000 := by
 unfold inB; rw [Bool.and_eq_true, decide_eq_true_iff, decide_eq_true_iff]
theorem inB_false {n : Int} : inB n = false ↔ n < -1000000000000000 ∨ 1000000000000000 < n := by
 rw [← Bool.not_eq_true, inB_true]; omega
theorem inB_cases (n : Int) : (inB n = true ∧ -1000000000000000 ≤ n ∧ n ≤ 1000000000000000) ∨ (inB n = false ∧ (n < -1000000000000000 ∨ 1000000000000000 < n)) := by
 cases h : inB n
 ·right; exact ⟨rfl, inB_false.1 h⟩
 ·left; exact ⟨rfl, inB_true.1 h⟩
end Go.Proofs.YtnheioehadldmaaGreat

/- PLAIN: fractions in lowest terms. No program. -/
namespace Go.Proofs.YtnheioehadldmaaGreat
/-- the greatest common divisor of two absolute values -/
def cgcd (a b : Int) : Int := (Nat.gcd a.natAbs b.natAbs : Int)
/-- is n/d a fraction in lowest terms and in range -/
def validB (n d : Int) : Bool := decide (1 ≤ d) && decide (d ≤ 1000000000000000) && inB n && (cgcd n d == 1)
theorem validB_iff {n d : Int} : validB n d = true ↔ 1 ≤ d ∧ d ≤ 1000000000000000 ∧ (-1000000000000000 ≤ n ∧ n ≤ 1000000000000000) ∧ cgcd n d = 1 := by
 unfold validB
 rw [Bool.and_eq_true, Bool.and_eq_true, Bool.and_eq_true, decide_eq_true_iff, decide_eq_true_iff, inB_true, beq_iff_eq]
 constructor
 ·rintro ⟨⟨⟨a, b⟩, c⟩, d⟩; exact ⟨a, b, c, d⟩
 ·rintro ⟨a, b, c, d⟩; exact ⟨⟨⟨a, b⟩, c⟩, d⟩
/-- lowest terms -/
def Low (n d : Int) : Prop := 1 ≤ d ∧ cgcd n d = 1
theorem low_unique {n d n' d' : Int} (h : Low n d) (h' : Low n' d') (e : n * d' = n' * d) : n = n' ∧ d = d' := by
 obtain ⟨h1, h2⟩ := h
 obtain ⟨g1, g2⟩ := h'
 have c1 : Nat.Coprime n.natAbs d.natAbs := by unfold cgcd at h2; unfold Nat.Coprime; omega
 have c2 : Nat.Coprime n'.natAbs d'.natAbs := by unfold cgcd at g2; unfold Nat.Coprime; omega
 have e' : n.natAbs * d'.natAbs = n'.natAbs * d.natAbs := by rw [← Int.natAbs_mul, ← Int.natAbs_mul, e]
 have d1 : d.natAbs ∣ d'.natAbs := c1.symm.dvd_of_dvd_mul_left ⟨n'.natAbs, by rw [e', Nat.mul_comm]⟩
 have d2 : d'.natAbs ∣ d.natAbs := c2.symm.dvd_of_dvd_mul_left ⟨n.natAbs, by rw [← e', Nat.mul_comm]⟩
 have ed : d.natAbs = d'.natAbs := Nat.dvd_antisymm d1 d2
 have ed' : d = d' := by omega
 subst ed'
 exact ⟨Int.eq_of_mul_eq_mul_right (by omega) e, rfl⟩
theorem cgcd_pos {N D : Int} (hD : 1 ≤ D) : 1 ≤ cgcd N D := by
 unfold cgcd
 have : 0 < Nat.gcd N.natAbs D.natAbs := Nat.gcd_pos_of_pos_right _ (by omega)
 omega
theorem cgcd_left (N D : Int) : cgcd N D ∣ N := Int.ofNat_dvd_left.2 (Nat.gcd_dvd_left _ _)
theorem cgcd_right (N D : Int) : cgcd N D ∣ D := Int.ofNat_dvd_left.2 (Nat.gcd_dvd_right _ _)
theorem cgcd_le {N D : Int} (hD : 1 ≤ D) : cgcd N D ≤ D := Int.le_of_dvd (by omega) (cgcd_right N D)
theorem natAbs_div {a b : Int} (h : b ∣ a) : (a / b).natAbs = a.natAbs / b.natAbs := by
 obtain ⟨c, rfl⟩ := h
 by_cases hb : b = 0
 ·subst hb; simp
 ·rw [Int.mul_ediv_cancel_left _ hb, Int.natAbs_mul, Nat.mul_div_cancel_left _ (by omega)]
/-- N/D reduced -/
theorem low_red {N D : Int} (hD : 1 ≤ D) : Low (N / cgcd N D) (D / cgcd N D) := by
 have hp := cgcd_pos (N := N) hD
 refine ⟨?_, ?_⟩
 ·exact Int.le_ediv_of_mul_le (by omega) (by have := cgcd_le (N := N) hD; omega)
 ·have e : cgcd (N / cgcd N D) (D / cgcd N D) = (Nat.gcd (N.natAbs / (cgcd N D).natAbs) (D.natAbs / (cgcd N D).natAbs) : Nat) := by
   show ((Nat.gcd (N / cgcd N D).natAbs (D / cgcd N D).natAbs : Nat) : Int) = _
   rw [natAbs_div (cgcd_left N D), natAbs_div (cgcd_right N D)]
  rw [e]
  have e2 : (cgcd N D).natAbs = Nat.gcd N.natAbs D.natAbs := by unfold cgcd; rfl
  rw [e2]
  have := Nat.coprime_div_gcd_div_gcd (m := N.natAbs) (n := D.natAbs) (Nat.gcd_pos_of_pos_right _ (by omega))
  unfold Nat.Coprime at this
  rw [this]; rfl
theorem red_cross (N D : Int) : (N / cgcd N D) * D = N * (D / cgcd N D) := by
 have e1 := Int.ediv_mul_cancel (cgcd_left N D)
 have e2 := Int.ediv_mul_cancel (cgcd_right N D)
 generalize cgcd N D = g at *
 grind
/-- N/D IN LOWEST TERMS, IF IT IS IN RANGE -/
def redS (N D : Int) : Int × Int × Bool := if inB (N / cgcd N D) && inB (D / cgcd N D) then (N / cgcd N D, D / cgcd N D, true) else (0, 0, false)
/-- what is laid by a pair in lowest terms -/
def cutS (n d : Int) : Int × Int × Bool := if inB n && inB d then (n, d, true) else (0, 0, false)
theorem redS_of_low {N D n d : Int} (hD : 1 ≤ D) (h : Low n d) (e : n * D = N * d) : redS N D = cutS n d := by
 have hl := low_red (N := N) hD
 have hc := red_cross N D
 have : N / cgcd N D = n ∧ D / cgcd N D = d := by
  refine low_unique hl h ?_
  have : ((N / cgcd N D) * d) * D = (n * (D / cgcd N D)) * D := by
   generalize N / cgcd N D = x at *
   generalize D / cgcd N D = y at *
   grind
  exact Int.eq_of_mul_eq_mul_right (by omega) this
 unfold redS cutS
 rw [this.1, this.2]
theorem redS_congr {N D N' D' : Int} (hD : 1 ≤ D) (hD' : 1 ≤ D') (e : N * D' = N' * D) : redS N D = redS N' D' := by
 have hl := low_red (N := N') hD'
 have hc := red_cross N' D'
 rw [redS_of_low hD hl]
 ·rfl
 ·have : ((N' / cgcd N' D') * D) * D' = (N * (D' / cgcd N' D')) * D' := by
   generalize N' / cgcd N' D' = x at *
   generalize D' / cgcd N' D' = y at *
   grind
  exact Int.eq_of_mul_eq_mul_right (by omega) this
theorem redS_ok {N D n d : Int} (hD : 1 ≤ D) (h : redS N D = (n, d, true)) : validB n d = true ∧ n * D = N * d := by
 unfold redS at h
 split at h
 ·rename_i hr
  rw [Bool.and_eq_true, inB_true, inB_true] at hr
  obtain ⟨rfl, h2⟩ := Prod.mk.inj h
  obtain ⟨rfl, -⟩ := Prod.mk.inj h2
  have hl := low_red (N := N) hD
  exact ⟨validB_iff.2 ⟨hl.1, hr.2.2, hr.1, hl.2⟩, red_cross N D⟩
 ·cases h
/-- THE SUM, as both packages reckon it, and its law -/
def addS (an ad bn bd : Int) : Int × Int × Bool :=
 if validB an ad && validB bn bd then redS (an * bd + bn * ad) (ad * bd) else (0, 0, false)
theorem addS_valid {an ad bn bd : Int} (ha : validB an ad = true) (hb : validB bn bd = true) : addS an ad bn bd = redS (an * bd + bn * ad) (ad * bd) := by
 unfold addS; rw [ha, hb]; rfl
theorem low_of_valid {n d : Int} (h : validB n d = true) : Low n d := ⟨(validB_iff.1 h).1, (validB_iff.1 h).2.2.2⟩
theorem pos_mul {a b : Int} (ha : 1 ≤ a) (hb : 1 ≤ b) : 1 ≤ a * b := by
 have := Int.mul_pos (show 0 < a by omega) (show 0 < b by omega); omega
end Go.Proofs.YtnheioehadldmaaGreat
