/- PARTS OF THE WALKS, joined: OwnG, OwnC, PlainW, FracS, FracT, FracP. -/
import Derived.Test.YtnheioehadldmaaGreatR04
import Derived.Test.YtnheioehadldmaaGreatR00
import Derived.Test.YtnheioehadldmaaGreatR03
/- ROWS THAT A CALL OWNS whose elements have several cells and may lead to other blocks: any kind of element. -/
namespace Go.Proofs.YtnheioehadldmaaGreat
open Go.RowKit
/-- a kind of element: its cells, and what of it lies elsewhere -/
structure KindG (α : Type) where
 enc : α → List Value
 size : Nat
 lies : World → (Nat → Prop) → α → Prop
 len : ∀ h, (enc h).length = size
 one : ∀ h, ∀ u ∈ enc h, u.oneCell' = true
 keep : ∀ W W' (ok ok' : Nat → Prop) h, (∀ b o x, ok b → W.cell? ⟨b, o, none⟩ = some x → W'.cell? ⟨b, o, none⟩ = some x ∧ ok' b) → lies W ok h → lies W' ok' h
variable {α : Type} {K : KindG α} {e : TypeId} {W W' : World} {base : Nat} {ok0 : Nat → Prop} {v v' : Value} {hs : List α}
/-- the call's own row v holds the elements hs; what they lead to lies outside v's block, in blocks of the kind ok0 -/
structure OwnG (K : KindG α) (e : TypeId) (W : World) (base : Nat) (ok0 : Nat → Prop) (v : Value) (hs : List α) : Prop where
 own : W.ownsRow base e K.size v hs.length (hs.flatMap K.enc)
 lies : ∀ h ∈ hs, K.lies W (fun b => ok0 b ∧ some b ≠ v.ownBlock) h
theorem OwnG.nil (K : KindG α) (e : TypeId) (W : World) (base : Nat) (ok0 : Nat → Prop) : OwnG K e W base ok0 (.slice none 0 0) [] := ⟨World.ownsRow_nil _ _ _ _, fun _ h => absurd h (by simp)⟩
theorem OwnG.made (K : KindG α) (e : TypeId) (w : World) (base : Nat) (ok0 : Nat → Prop) (hb : base ≤ w.heap.size) : OwnG K e (w.alloc (.cells #[] e)) base ok0 (.slice (some ⟨w.heap.size, 0, none⟩) 0 0) [] :=
 ⟨World.ownsRow_made w #[] 0 hb (by unfold maxLen; omega) (by simp), fun _ h => absurd h (by simp)⟩
theorem OwnG.ext (h : OwnG K e W base ok0 v hs) (x : Ext W W') : OwnG K e W' base ok0 v hs :=
 ⟨own_ext h.own x, fun p hp => K.keep _ _ _ _ _ (fun _ _ _ hb hc => ⟨x.cell hc, hb⟩) (h.lies p hp)⟩
theorem OwnG.mono {base' : Nat} (h : OwnG K e W base ok0 v hs) (hb : base' ≤ base) : OwnG K e W base' ok0 v hs := ⟨own_mono h.own hb, h.lies⟩
theorem OwnG.to {ok1 : Nat → Prop} (h : OwnG K e W base ok0 v hs) (ho : ∀ b, ok0 b → ok1 b) : OwnG K e W base ok1 v hs :=
 ⟨h.own, fun p hp => K.keep _ _ _ _ _ (fun _ _ _ hb hc => ⟨hc, ho _ hb.1, hb.2⟩) (h.lies p hp)⟩
theorem OwnG.lt (h : OwnG K e W base ok0 v hs) {g : Nat} (hg : v.ownBlock = some g) : base ≤ g ∧ g < W.heap.size := World.ownsRow.lt h.own g hg
theorem OwnG.form (h : OwnG K e W base ok0 v hs) : ∃ A c, v = .slice A hs.length c := own_form h.own
/-- over a step that leaves v's block as it was -/
theorem OwnG.grown {row : Option Nat} (h : OwnG K e W base ok0 v hs) (hg : W.grownBy W' row) (hne : v.ownBlock = none ∨ v.ownBlock ≠ row) (hr : ∀ b, some b = row → ¬ ok0 b) : OwnG K e W' base ok0 v hs :=
 ⟨h.own.kept hg hne, fun p hp => K.keep _ _ _ _ _ (fun b _ _ hb hc => ⟨hg.cell hc (fun e2 => hr b e2 hb.1), hb⟩) (h.lies p hp)⟩
/-- an element's cells -/
theorem OwnG.cellAt {A : Option Addr} {n c : Nat} (h : OwnG K e W base ok0 (.slice A n c) hs) {i : Nat} (hi : i < hs.length) : ∃ g, A = some ⟨g, 0, none⟩ ∧ base ≤ g ∧ g < W.heap.size ∧ n = hs.length ∧ n ≤ c ∧ ∀ j, j < K.size → W.cell? ⟨g, i * K.size + j, none⟩ = (K.enc hs[i])[j]? ∧ W.frozen? ⟨g, i * K.size + j, none⟩ = false := by
 rcases h.own.2 with ⟨hv, h0⟩ | ⟨g, cap, cur, hv, hb, hh, hc, hm, hcs, htk⟩
 ·omega
 ·injection hv with h1 h2 h3
  subst h1 h2 h3
  refine ⟨g, rfl, hb, ?_, rfl, hc, fun j hj => ⟨?_, frozen_of_row W g _ cur e hh⟩⟩
  ·rcases Nat.lt_or_ge g W.heap.size with h4 | h4
   ·exact h4
   ·rw [Array.getElem?_eq_none h4] at hh; cases hh
  ·have h1 := flat_get K.enc K.size K.len hs i j hi hj
   rw [cell_of_row W g _ cur e (0, 0) hh, ← h1, ← htk, List.getElem?_take, if_pos (by
    have h2 : (i + 1) * K.size ≤ hs.length * K.size := Nat.mul_le_mul_right _ hi
    rw [Nat.add_mul] at h2; omega)]
   simp
theorem flat_set (f : α → List Value) (size : Nat) (hf : ∀ x, (f x).length = size) : ∀ (l : List α) (i j : Nat) (y : α) (u : Value) (hi : i < l.length), j < size → f y = (f l[i]).set j u → (l.set i y).flatMap f = (l.flatMap f).set (i * size + j) u
 | [], i, j, y, u, hi, _, _ => absurd hi (by simp)
 | x :: l, 0, j, y, u, _, hj, h => by
  rw [List.set_cons_zero, List.flatMap_cons, List.flatMap_cons, Nat.zero_mul, Nat.zero_add, List.set_append_left _ _ (by rw [hf]; exact hj)]
  rw [h]; rfl
 | x :: l, i + 1, j, y, u, hi, hj, h => by
  have e2 : (i + 1) * size + j = size + (i * size + j) := by rw [Nat.add_mul]; omega
  rw [List.set_cons_succ, List.flatMap_cons, List.flatMap_cons, List.set_append_right _ _ (by rw [hf]; omega), hf, e2, Nat.add_sub_cancel_left]
  rw [flat_set f size hf l i j y u (by simpa using hi) hj h]
/-- one cell of an element stored -/
theorem OwnG.stored {g n c : Nat} (h : OwnG K e W base ok0 (.slice (some ⟨g, 0, none⟩) n c) hs) {i j : Nat} (hi : i < hs.length) (hj : j < K.size) (y : α) (u : Value) (hy : K.enc y = (K.enc hs[i]).set j u) (hl : K.lies W (fun b => ok0 b ∧ some b ≠ some g) y) :
  OwnG K e (W.setCell ⟨g, i * K.size + j, none⟩ u) base ok0 (.slice (some ⟨g, 0, none⟩) n c) (hs.set i y) ∧ W.grownBy (W.setCell ⟨g, i * K.size + j, none⟩ u) (some g) := by
 obtain ⟨A, c', hv⟩ := own_form h.own
 injection hv with h1 h2 h3
 subst h2
 obtain ⟨k1, k2⟩ := World.ownsRow.stored h.own (i * K.size + j) u
 refine ⟨⟨?_, fun p hp => ?_⟩, k2⟩
 ·rw [List.length_set, flat_set K.enc K.size K.len hs i j y u hi hj hy]; exact k1
 ·have hlies : K.lies W (fun b => ok0 b ∧ some b ≠ (Value.slice (some ⟨g, 0, none⟩) hs.length c).ownBlock) p := by
   rcases List.mem_or_eq_of_mem_set hp with hp | hp
   ·exact h.lies p hp
   ·rw [hp]; exact hl
  exact K.keep _ _ _ _ _ (fun b o x hb hc => ⟨k2.cell hc (fun e2 => hb.2 (by rw [e2]; rfl)), hb⟩) hlies
section
variable {P : Program} {t bytes : Nat}
/-- one element appended: the run -/
theorem run_pushG (T : ElT P t e K.size bytes) (ty : TypeId) {w : World} (w0 : World) (h : OwnG K e w0 base ok0 v hs) (hb : base ≤ w0.heap.size) (x : α) (hx : K.lies w0 (fun b => ok0 b ∧ some b ≠ v.ownBlock) x)
  (hw : w = w0.alloc (.cells (K.enc x).toArray e)) (h63 : hs.length + 1 ≤ 8388608) (hbytes : bytes ≤ 1000000) :
  ∃ v' w', (Builtin.append_ #[t, t] ty #[v, .slice (some ⟨w0.heap.size, 0, none⟩) 1 1]).run P w = .ok v' w' ∧ OwnG K e w' base ok0 v' (hs ++ [x]) ∧ w0.grownBy w' v.ownBlock ∧ (v'.ownBlock = v.ownBlock ∨ v'.ownBlock = some (w0.heap.size + 1)) := by
 obtain ⟨v', w', hr, k1, k2, k3⟩ := run_pushK T ty base w0 v hs.length (hs.flatMap K.enc) (K.enc x) h.own hb hw (K.len x) (K.one x) h63 hbytes
 have hcell : ∀ b o y, (ok0 b ∧ some b ≠ v.ownBlock) → w0.cell? ⟨b, o, none⟩ = some y → w'.cell? ⟨b, o, none⟩ = some y ∧ (ok0 b ∧ some b ≠ v'.ownBlock) := fun b o y hb hc => by
  have hlt : b < w0.heap.size := block_lt_of_cell hc
  refine ⟨k2.cell hc hb.2, hb.1, ?_⟩
  rcases k3 with e2 | e2
  ·rw [e2]; exact hb.2
  ·rw [e2]
   intro e3
   injection e3 with e3
   omega
 refine ⟨v', w', hr, ⟨by rw [List.length_append, List.flatMap_append]; simpa using k1, fun p hp => ?_⟩, k2, k3⟩
 rcases List.mem_append.1 hp with hp | hp
 ·exact K.keep _ _ _ _ _ hcell (h.lies p hp)
 ·rw [List.mem_singleton.1 hp]; exact K.keep _ _ _ _ _ hcell hx
theorem own_pushG (T : ElT P t e K.size bytes) {ops : Array Oper} {rest : List Oper} {o : Oper} {a : Act} {Q : Exit → Act → World → Prop} {w : World} (hgd : o.guard = none) (s y : Operand)
  (ho : o.op = .call { callee := .builtin .append, args := #[s, y], argTypes := #[t, t] }) (w0 : World) (hs' : a.eval s = v) (h : OwnG K e w0 base ok0 v hs) (hb : base ≤ w0.heap.size) (x : α) (hx : K.lies w0 (fun b => ok0 b ∧ some b ≠ v.ownBlock) x)
  (hw : w = w0.alloc (.cells (K.enc x).toArray e)) (H : Nat) (hH : w0.heap.size = H) (hy : a.eval y = .slice (some ⟨H, 0, none⟩) 1 1) (h63 : hs.length + 1 ≤ 8388608) (hbytes : bytes ≤ 1000000)
  (hK : ∀ v' w', OwnG K e w' base ok0 v' (hs ++ [x]) → w0.grownBy w' v.ownBlock → (v'.ownBlock = v.ownBlock ∨ v'.ownBlock = some (w0.heap.size + 1)) → wpList P ops Q rest (a.put o.dst v') w') : wpList P ops Q (o :: rest) a w := by
 subst hH
 obtain ⟨v', w', hr, h1, h2, h3⟩ := run_pushG T o.type w0 h hb x hx hw h63 hbytes
 refine wpList_plain hgd fun K2 hK2 => ?_
 unfold Oper.wp execOp
 simp only [ho, resolve, invoke, builtin, Sem.run_bind, Sem.run_pure, Result.andThen_ok, List.map_toArray, List.map_cons, List.map_nil, hs', hy, hr]
 exact hK2 _ _ (hK v' w' h1 h2 h3)
end
/-- read as a slice: R from the cells and what lies elsewhere -/
theorem OwnG.slice {β : Type} {R : Nat → Nat → β → Prop} (f : α → β) (h : OwnG K e W base ok0 v hs) (hm : hs.length ≤ 140737488355328)
  (hR : ∀ g o x, base ≤ g → (∀ j u, (K.enc x)[j]? = some u → W.cell? ⟨g, o + j, none⟩ = some u) → K.lies W ok0 x → R g o (f x)) : ∃ A c, v = .slice A hs.length c ∧ hs.length ≤ c ∧ SliceR R K.size A (hs.map f) := by
 have hfl : (hs.map K.enc).flatten = hs.flatMap K.enc := by rw [List.flatMap_def]
 have h1 := own_sliceR (l := hs.map f) (R := R) (cs := hs.map K.enc) (size := K.size) (by rw [hfl]; exact h.own) (by simp) (by simp) (fun x hx => by obtain ⟨y, -, rfl⟩ := List.mem_map.1 hx; exact K.len y) (by simpa using hm) (fun g hg _ k hk hk' hcell => by
  have hk2 : k < hs.length := by simpa using hk
  rw [List.getElem_map] at hcell ⊢
  exact hR g _ _ hg hcell (K.keep _ _ _ _ _ (fun _ _ _ hb hc => ⟨hc, hb.1⟩) (h.lies _ (List.getElem_mem hk2))))
 rw [List.length_map] at h1
 exact h1
end Go.Proofs.YtnheioehadldmaaGreat

/- A ROW THAT A CALL OWNS, cut short: what lies behind the cut is cleared. -/
namespace Go.Proofs.YtnheioehadldmaaGreat
open Go.RowKit
theorem zeros_one {z : Array Value} (hz : ∀ v ∈ z.toList, v.oneCell' = true) (h0 : 0 < z.size) (n : Nat) : ∀ v ∈ (Builtin.zeroCells z n).toList, v.oneCell' = true := by
 intro v hv
 unfold Builtin.zeroCells at hv
 rw [Array.toList_map, List.mem_map] at hv
 obtain ⟨i, -, rfl⟩ := hv
 have hlt : i % z.size < z.size := Nat.mod_lt _ h0
 rw [getElem!_pos z _ hlt]
 exact hz _ (by simp)
variable {α : Type} {K : KindG α} {P : Program} {e : TypeId} {W : World} {base : Nat} {ok0 : Nat → Prop} {hs : List α}
theorem OwnG.cleared {t g n c i : Nat} {z : Value} (hu : P.underlying t = some (.slice e)) (hz : ∀ w, (zeroValue e).run P w = .ok z w) (hzs : z.cells.size = K.size) (hz1 : ∀ v ∈ z.cells.toList, v.oneCell' = true) (hs0 : 0 < K.size)
  (h : OwnG K e W base ok0 (.slice (some ⟨g, 0, none⟩) n c) hs) (hn : n = hs.length) (hi : i < n) :
  ∃ W', (∀ ty c', (Builtin.clear_ #[t] ty #[.slice (some ⟨g, i * K.size, none⟩) (n - i) c']).run P W = .ok (.tuple #[]) W') ∧ OwnG K e W' base ok0 (.slice (some ⟨g, 0, none⟩) i c) (hs.take i) ∧ W.grownBy W' (some g) := by
 subst hn
 rcases h.own.2 with ⟨hv, -⟩ | ⟨g', cap', cur, hv, hb, hh, hcp, hm, hcs, htk⟩
 ·simp at hv
 ·simp only [Value.slice.injEq, Option.some.injEq, Addr.mk.injEq, and_true, true_and] at hv
  obtain ⟨rfl, rfl⟩ := hv
  have hB : Blk W g e cur.toList := by unfold Blk; rw [Array.toArray_toList]; exact hh
  have hzl : (Builtin.zeroCells z.cells (hs.length - i)).size = (hs.length - i) * K.size := by rw [size_zeroCells, hzs]
  have hmul : i * K.size + (hs.length - i) * K.size = hs.length * K.size := by rw [← Nat.add_mul]; congr 1; omega
  have hcap : hs.length * K.size ≤ c * K.size := Nat.mul_le_mul_right _ hcp
  have hfit : i * K.size + (Builtin.zeroCells z.cells (hs.length - i)).size ≤ cur.toList.length := by
   have h1 : cur.toList.length = c * K.size := by rw [Array.length_toList]; exact hcs
   rw [hzl, h1]; omega
  have hgr : ∀ X : Array Value, W.grownBy (W.setRow g X) (some g) := fun X => ⟨rfl, rfl, rfl, by simp [World.setRow], fun k hk hne => setRow_other W g k X (fun e2 => hne (by rw [e2]))⟩
  refine ⟨W.setRow g (laidAt cur.toList (i * K.size) (Builtin.zeroCells z.cells (hs.length - i)).toList).toArray, fun ty c' => run_clearK (P := P) W t ty e g (i * K.size) (hs.length - i) c' z cur.toList e hu hz (by omega) hB hfit (zeros_one hz1 (by omega) _), ⟨?_, fun p hp => ?_⟩, hgr _⟩
  ·have hlen : (hs.take i).length = i := by rw [List.length_take]; omega
   rw [hlen]
   refine Blk.own (cs := laidAt cur.toList (i * K.size) (Builtin.zeroCells z.cells (hs.length - i)).toList) (hB.set _) hb (by omega) hm (by rw [laidAt_len (by rw [Array.length_toList]; exact hfit), Array.length_toList, hcs]) ?_
   rw [take_laid_lt (by rw [Array.length_toList] at *; omega) (Nat.le_refl _), ← flat_takeK K.enc K.size K.len, ← htk, List.take_take, Nat.min_eq_left (Nat.mul_le_mul_right _ (Nat.le_of_lt hi))]
  ·exact K.keep _ _ _ _ _ (fun b o x hb2 hc => ⟨(hgr _).cell hc (fun e2 => hb2.2 (by rw [e2]; rfl)), hb2⟩) (h.lies p (List.mem_of_mem_take hp))
theorem flat_set2 (f : α → List Value) (hf : ∀ x, (f x).length = 2) (a0 a1 : Value) : ∀ (l : List α) (i : Nat) (y : α), i < l.length → f y = [a0, a1] → (l.set i y).flatMap f = ((l.flatMap f).set (i * 2) a0).set (i * 2 + 1) a1
 | [], i, y, h, _ => absurd h (by simp)
 | x :: l, 0, y, _, hy => by
  have hx := hf x
  match hfx : f x, hx with
  | [b0, b1], _ => simp [hfx, hy]
 | x :: l, i + 1, y, h, hy => by
  have ih := flat_set2 f hf a0 a1 l i y (by simpa using h) hy
  have e0 : (i + 1) * 2 = 2 + i * 2 := by omega
  have hx : (f x).length = 2 := hf x
  have S : ∀ (m : List Value) (j : Nat) (u : Value), (f x ++ m).set (2 + j) u = f x ++ m.set j u := fun m j u => by
   rw [List.set_append_right _ _ (by omega), hx, Nat.add_sub_cancel_left]
  rw [List.set_cons_succ, List.flatMap_cons, List.flatMap_cons, ih, e0, S, Nat.add_assoc, S]
theorem grown_two {a b c : World} {r : Option Nat} (p : a.grownBy b r) (q : b.grownBy c r) : a.grownBy c r := ⟨q.os.trans p.os, q.tape.trans p.tape, q.output.trans p.output, Nat.le_trans p.size q.size, fun k hk hne => (q.block k (Nat.lt_of_lt_of_le hk p.size) hne).trans (p.block k hk hne)⟩
theorem Ext.gr {a b : World} (h : Ext a b) (r : Option Nat) : a.grownBy b r := ⟨h.os, h.tape, h.output, h.size, fun k hk _ => h.block k hk⟩
/-- a whole element of two cells stored at place i -/
theorem OwnG.put2 (hK : K.size = 2) {g n c : Nat} (h : OwnG K e W base ok0 (.slice (some ⟨g, 0, none⟩) n c) hs) {i : Nat} (hi : i < hs.length) (y : α) {a0 a1 : Value} (hy : K.enc y = [a0, a1]) (hl : K.lies W (fun b => ok0 b ∧ some b ≠ some g) y) :
  OwnG K e ((W.setCell ⟨g, i * 2, none⟩ a0).setCell ⟨g, i * 2 + 1, none⟩ a1) base ok0 (.slice (some ⟨g, 0, none⟩) n c) (hs.set i y) ∧ W.grownBy ((W.setCell ⟨g, i * 2, none⟩ a0).setCell ⟨g, i * 2 + 1, none⟩ a1) (some g) := by
 obtain ⟨A, c', hv⟩ := own_form h.own
 injection hv with h1 h2 h3
 subst h2
 obtain ⟨k0, g0⟩ := World.ownsRow.stored h.own (i * 2) a0
 obtain ⟨k1, g1⟩ := World.ownsRow.stored k0 (i * 2 + 1) a1
 have G := grown_two g0 g1
 refine ⟨⟨?_, fun p hp => ?_⟩, G⟩
 ·rw [List.length_set, flat_set2 K.enc (fun x => by rw [K.len, hK]) _ _ hs i y hi hy]; exact k1
 ·have hlies : K.lies W (fun b => ok0 b ∧ some b ≠ (Value.slice (some ⟨g, 0, none⟩) hs.length c).ownBlock) p := by
   rcases List.mem_or_eq_of_mem_set hp with hp | hp
   ·exact h.lies p hp
   ·rw [hp]; exact hl
  exact K.keep _ _ _ _ _ (fun b o x hb hc => ⟨G.cell hc (fun e2 => hb.2 (by rw [e2]; rfl)), hb⟩) hlies
end Go.Proofs.YtnheioehadldmaaGreat

/- PLAIN: numbers of fourteen digits in base 1000. No program. -/
namespace Go.Proofs.YtnheioehadldmaaGreat
/-- the first n digits -/
def valN : Nat → (Nat → Nat) → Nat
 | 0, _ => 0
 | n + 1, f => valN n f + f n * 1000 ^ n
theorem valW_exists (f : Nat → Nat) : ∃ v, ∀ n, n = 14 → v = valN n f := ⟨valN 14 f, fun n h => by rw [h]⟩
/-- the number (closed to unfolding: its powers are great) -/
noncomputable def valW (f : Nat → Nat) : Nat := Classical.choose (valW_exists f)
theorem valW_def (f : Nat → Nat) {n : Nat} (h : n = 14) : valW f = valN n f := Classical.choose_spec (valW_exists f) n h
/-- digits -/
def SmallW (f : Nat → Nat) : Prop := ∀ i, f i < 1000
def updW (f : Nat → Nat) (k v : Nat) : Nat → Nat := fun i => if i = k then v else f i
theorem updW_at (f : Nat → Nat) (k v : Nat) : updW f k v k = v := if_pos rfl
theorem updW_ne (f : Nat → Nat) {k i : Nat} (v : Nat) (h : i ≠ k) : updW f k v i = f i := if_neg h
theorem smallW_upd {f : Nat → Nat} {k v : Nat} (h : SmallW f) (hv : v < 1000) : SmallW (updW f k v) := by
 intro i; unfold updW; split
 ·exact hv
 ·exact h i
theorem valN_upd_ge (f : Nat → Nat) (k v : Nat) : ∀ n, n ≤ k → valN n (updW f k v) = valN n f
 | 0, _ => rfl
 | n + 1, h => by
  unfold valN
  rw [valN_upd_ge f k v n (by omega), updW_ne f v (by omega)]
theorem valN_upd (f : Nat → Nat) (k v : Nat) : ∀ n, k < n → valN n (updW f k v) + f k * 1000 ^ k = valN n f + v * 1000 ^ k
 | 0, h => absurd h (by omega)
 | n + 1, h => by
  unfold valN
  by_cases e : k = n
  ·subst e
   rw [valN_upd_ge f k v k (Nat.le_refl _), updW_at]; omega
  ·rw [updW_ne f v (show n ≠ k from fun q => e q.symm)]
   have := valN_upd f k v n (by omega)
   omega
theorem valW_upd (f : Nat → Nat) (k v : Nat) (h : k < 14) : valW (updW f k v) + f k * 1000 ^ k = valW f + v * 1000 ^ k := by
 obtain ⟨n, hn⟩ : ∃ n : Nat, n = 14 := ⟨_, rfl⟩
 rw [valW_def _ hn, valW_def _ hn]; exact valN_upd f k v n (by omega)
theorem valN_zero : ∀ n, valN n (fun _ => 0) = 0
 | 0 => rfl
 | n + 1 => by unfold valN; rw [valN_zero n]; simp
theorem valN_lt {f : Nat → Nat} (h : SmallW f) : ∀ n, valN n f < 1000 ^ n
 | 0 => by simp [valN]
 | n + 1 => by
  unfold valN
  have h1 := valN_lt h n
  have h2 := h n
  have h3 : f n * 1000 ^ n ≤ 999 * 1000 ^ n := Nat.mul_le_mul_right _ (by omega)
  rw [Nat.pow_succ]; omega
theorem pow_big {k : Nat} (h : 14 ≤ k) : 1000000000000000000000000000000000000000000 ≤ 1000 ^ k :=
 Nat.le_trans (by decide) (Nat.pow_le_pow_right (show 0 < 1000 by omega) h)
/-! times -/
/-- the round within: what the digits and the rest come to -/
structure InnerI (f : Nat → Nat) (i k c y d b T : Nat) : Prop where
 small : SmallW f
 sum : valW f + 1000 ^ k * (y + d * c) = T
 left : c * 1000 ^ k ≤ b * 1000 ^ i
 carry : y ≤ 1000
theorem InnerI.step {f : Nat → Nat} {i k c y d b T : Nat} (h : InnerI f i k c y d b T) (hd : d < 1000) (hk : k < 14) :
  InnerI (updW f k ((y + f k + d * (c % 1000)) % 1000)) i (k + 1) (c / 1000) ((y + f k + d * (c % 1000)) / 1000) d b T := by
 have hs := h.small k
 have hy := h.carry
 have hm : d * (c % 1000) ≤ 999 * 999 := Nat.mul_le_mul (by omega) (by omega)
 have hc : d * c = d * (c % 1000) + 1000 * (d * (c / 1000)) := by
  have := Nat.div_add_mod c 1000
  calc d * c = d * (1000 * (c / 1000) + c % 1000) := by rw [this]
   _ = _ := by rw [Nat.mul_add, Nat.mul_left_comm]; omega
 refine ⟨smallW_upd h.small (Nat.mod_lt _ (by omega)), ?_, ?_, by omega⟩
 ·have e := h.sum
  have u := valW_upd f k ((y + f k + d * (c % 1000)) % 1000) hk
  rw [hc] at e
  rw [Nat.pow_succ]
  generalize d * (c % 1000) = m at *
  generalize d * (c / 1000) = n at *
  generalize f k = z at *
  generalize 1000 ^ k = p at *
  have q := Nat.div_add_mod (y + z + m) 1000
  generalize (y + z + m) / 1000 = t at *
  generalize (y + z + m) % 1000 = r at *
  generalize valW f = v at *
  generalize valW (updW f k r) = v' at *
  have e1 : p * 1000 * (t + n) = p * (1000 * t) + p * (1000 * n) := by grind
  have e2 : p * (y + (m + 1000 * n)) = p * y + p * m + p * (1000 * n) := by grind
  have e3 : p * (1000 * t) + p * r = p * y + p * z + p * m := by
   have : p * (1000 * t + r) = p * (y + z + m) := by rw [q]
   grind
  rw [Nat.mul_comm z p, Nat.mul_comm r p] at u
  omega
 ·have l := h.left
  rw [Nat.pow_succ]
  have : c / 1000 * (1000 ^ k * 1000) ≤ c * 1000 ^ k := by
   rw [Nat.mul_comm (1000 ^ k), ← Nat.mul_assoc]
   exact Nat.mul_le_mul_right _ (Nat.div_mul_le_self c 1000)
  omega
structure OuterI (f : Nat → Nat) (i a b a0 : Nat) : Prop where
 small : SmallW f
 sum : valW f + 1000 ^ i * (a * b) = a0 * b
 left : a * 1000 ^ i ≤ a0
theorem OuterI.start (a0 b : Nat) : OuterI (fun _ => 0) 0 a0 b a0 := by
 refine ⟨fun _ => by omega, ?_, by simp⟩
 obtain ⟨n, hn⟩ : ∃ n : Nat, n = 14 := ⟨_, rfl⟩
 rw [valW_def _ hn, valN_zero]; simp
theorem OuterI.enter {f : Nat → Nat} {i a b a0 : Nat} (h : OuterI f i a b a0) : InnerI f i i b 0 (a % 1000) b (valW f + 1000 ^ i * (a % 1000 * b)) := by
 refine ⟨h.small, by simp, Nat.le_refl _, by omega⟩
theorem OuterI.total {f : Nat → Nat} {i a b a0 : Nat} (h : OuterI f i a b a0) : valW f + 1000 ^ i * (a % 1000 * b) ≤ a0 * b := by
 have := h.sum
 have h1 : a % 1000 * b ≤ a * b := Nat.mul_le_mul_right _ (Nat.mod_le _ _)
 have h2 : 1000 ^ i * (a % 1000 * b) ≤ 1000 ^ i * (a * b) := Nat.mul_le_mul_left _ h1
 omega
theorem OuterI.leave {f g : Nat → Nat} {i k a b a0 : Nat} (h : OuterI f i a b a0) (hI : InnerI g i k 0 0 (a % 1000) b (valW f + 1000 ^ i * (a % 1000 * b))) : OuterI g (i + 1) (a / 1000) b a0 := by
 refine ⟨hI.small, ?_, ?_⟩
 ·have e := h.sum
  have e2 := hI.sum
  simp only [Nat.mul_zero, Nat.add_zero] at e2
  rw [e2, Nat.pow_succ]
  have q := Nat.div_add_mod a 1000
  have e3 : 1000 ^ i * (a * b) = 1000 ^ i * (a % 1000 * b) + 1000 ^ i * 1000 * (a / 1000 * b) := by
   calc 1000 ^ i * (a * b) = 1000 ^ i * ((1000 * (a / 1000) + a % 1000) * b) := by rw [q]
    _ = _ := by grind
  omega
 ·have l := h.left
  rw [Nat.pow_succ]
  have : a / 1000 * (1000 ^ i * 1000) ≤ a * 1000 ^ i := by
   rw [Nat.mul_comm (1000 ^ i), ← Nat.mul_assoc]
   exact Nat.mul_le_mul_right _ (Nat.div_mul_le_self a 1000)
  omega
theorem OuterI.done {f : Nat → Nat} {i b a0 : Nat} (h : OuterI f i 0 b a0) : valW f = a0 * b := by
 have := h.sum; simpa using this
/-! plus, minus -/
structure PlusI (x y f : Nat → Nat) (k c : Nat) : Prop where
 small : SmallW f
 sum : valN k f + 1000 ^ k * c = valN k x + valN k y
 carry : c ≤ 1
theorem PlusI.start (x y : Nat → Nat) : PlusI x y (fun _ => 0) 0 0 := ⟨fun _ => by omega, rfl, by omega⟩
theorem PlusI.step {x y f : Nat → Nat} {k c : Nat} (h : PlusI x y f k c) (hx : SmallW x) (hy : SmallW y) : PlusI x y (updW f k ((c + x k + y k) % 1000)) (k + 1) ((c + x k + y k) / 1000) := by
 have h1 := hx k
 have h2 := hy k
 have h3 := h.carry
 refine ⟨smallW_upd h.small (Nat.mod_lt _ (by omega)), ?_, by omega⟩
 unfold valN
 rw [valN_upd_ge f k _ k (Nat.le_refl _), updW_at, Nat.pow_succ]
 have e := h.sum
 have q := Nat.div_add_mod (c + x k + y k) 1000
 generalize (c + x k + y k) / 1000 = t at *
 generalize (c + x k + y k) % 1000 = r at *
 generalize 1000 ^ k = p at *
 have e3 : r * p + p * 1000 * t = p * c + x k * p + y k * p := by
  have : p * (1000 * t + r) = p * (c + x k + y k) := by rw [q]
  grind
 omega
theorem PlusI.done {x y f : Nat → Nat} {n c : Nat} (hn : n = 14) (h : PlusI x y f n c) (hs : valW x + valW y < 1000000000000000000000000000000000000000000) : valW f = valW x + valW y := by
 have e := h.sum
 have hc := h.carry
 have hp := pow_big (show 14 ≤ n by omega)
 rw [valW_def _ hn, valW_def _ hn] at hs
 rw [valW_def _ hn, valW_def _ hn, valW_def _ hn]
 rcases Nat.eq_zero_or_pos c with k | k
 ·subst k; omega
 ·obtain rfl : c = 1 := by omega
  omega
structure MinusI (x y f : Nat → Nat) (k : Nat) (c : Int) : Prop where
 small : SmallW f
 sum : (valN k f : Int) + 1000 ^ k * c = valN k x - valN k y
 carry : -1 ≤ c ∧ c ≤ 0
theorem MinusI.start (x y : Nat → Nat) : MinusI x y (fun _ => 0) 0 0 := ⟨fun _ => by omega, rfl, by omega⟩
theorem MinusI.done {x y f : Nat → Nat} {n : Nat} {c : Int} (hn : n = 14) (h : MinusI x y f n c) (hs : valW y ≤ valW x) : valW f = valW x - valW y := by
 have e := h.sum
 have hc := h.carry
 have hl := valN_lt h.small n
 rw [valW_def _ hn, valW_def _ hn] at hs
 rw [valW_def _ hn, valW_def _ hn, valW_def _ hn]
 rcases (show c = 0 ∨ c = -1 by omega) with k | k
 ·subst k; omega
 ·subst k
  have : ((1000 : Int) ^ n) = ((1000 ^ n : Nat) : Int) := by simp
  rw [this] at e
  omega
/-! from the top -/
/-- the digits from k on -/
def hiW (f : Nat → Nat) (k : Nat) : Nat := if h : k < 14 then f k + 1000 * hiW f (k + 1) else 0
termination_by 14 - k
theorem hiW_end (f : Nat → Nat) : hiW f 14 = 0 := by rw [hiW, dif_neg (by omega)]
theorem hiW_stop (f : Nat → Nat) {k : Nat} (h : 14 ≤ k) : hiW f k = 0 := by rw [hiW, dif_neg (by omega)]
theorem hiW_step (f : Nat → Nat) {k : Nat} (h : k < 14) : hiW f k = f k + 1000 * hiW f (k + 1) := by rw [hiW, dif_pos h]
theorem val_hi (f : Nat → Nat) : ∀ n k, n + k = 14 → valN k f + 1000 ^ k * hiW f k = valW f
 | 0, k, h => by rw [valW_def f (show k = 14 by omega), hiW_stop f (by omega)]; simp
 | n + 1, k, h => by
  have ih := val_hi f n (k + 1) (by omega)
  rw [hiW_step f (by omega)]
  unfold valN at ih
  rw [Nat.pow_succ] at ih
  rw [← ih]; grind
theorem hiW_zero (f : Nat → Nat) : hiW f 0 = valW f := by
 have := val_hi f 14 0 rfl
 unfold valN at this
 simpa using this
theorem hiW_upd (f : Nat → Nat) (k v : Nat) : ∀ n j, n + j = 14 → k < j → hiW (updW f k v) j = hiW f j
 | 0, j, h, _ => by rw [hiW_stop _ (by omega), hiW_stop _ (by omega)]
 | n + 1, j, h, hk => by
  rw [hiW_step _ (show j < 14 by omega), hiW_step _ (show j < 14 by omega), hiW_upd f k v n (j + 1) (by omega) (by omega), updW_ne f v (by omega)]
/-- the long division -/
structure PartI (x f : Nat → Nat) (d k r : Nat) : Prop where
 small : SmallW f
 sum : hiW x k = d * hiW f k + r
 rest : r < d
theorem PartI.start (x : Nat → Nat) {d : Nat} (h : 0 < d) : PartI x (fun _ => 0) d 14 0 := ⟨fun _ => by omega, by rw [hiW_end, hiW_end]; simp, h⟩
theorem PartI.step {x f : Nat → Nat} {d k r : Nat} (h : PartI x f d (k + 1) r) (hx : SmallW x) (hk : k < 14) : PartI x (updW f k ((r * 1000 + x k) / d)) d k ((r * 1000 + x k) % d) := by
 have hd : 0 < d := by have := h.rest; omega
 have h1 := hx k
 have h2 := h.rest
 refine ⟨smallW_upd h.small ?_, ?_, Nat.mod_lt _ hd⟩
 ·rw [Nat.div_lt_iff_lt_mul hd]
  have : r * 1000 + 1000 ≤ d * 1000 := by omega
  omega
 ·rw [hiW_step x hk, hiW_step _ hk, updW_at, hiW_upd f k _ (14 - (k + 1)) (k + 1) (by omega) (by omega), h.sum]
  have q := Nat.div_add_mod (r * 1000 + x k) d
  generalize (r * 1000 + x k) / d = t at *
  generalize (r * 1000 + x k) % d = s at *
  grind
theorem PartI.done {x f : Nat → Nat} {d r : Nat} (h : PartI x f d 0 r) : valW f = valW x / d ∧ r = valW x % d := by
 have e := h.sum
 rw [hiW_zero, hiW_zero] at e
 have hr := h.rest
 constructor
 ·rw [e, Nat.mul_comm, Nat.add_comm, Nat.add_mul_div_right _ _ (by omega), Nat.div_eq_of_lt hr]; omega
 ·rw [e, Nat.mul_comm, Nat.add_comm, Nat.add_mul_mod_self_right, Nat.mod_eq_of_lt hr]
/-- order: the first digit from the top that differs decides -/
def SameFrom (x y : Nat → Nat) (k : Nat) : Prop := hiW x k = hiW y k
theorem SameFrom.step {x y : Nat → Nat} {k : Nat} (hk : k < 14) (h : SameFrom x y (k + 1)) (he : x k = y k) : SameFrom x y k := by
 unfold SameFrom at *; rw [hiW_step x hk, hiW_step y hk, h, he]
theorem SameFrom.symm {x y : Nat → Nat} {k : Nat} (h : SameFrom x y k) : SameFrom y x k := Eq.symm h
theorem SameFrom.start (x y : Nat → Nat) : SameFrom x y 14 := by unfold SameFrom; rw [hiW_end, hiW_end]
theorem SameFrom.done {x y : Nat → Nat} (h : SameFrom x y 0) : valW x = valW y := by unfold SameFrom at h; rw [hiW_zero, hiW_zero] at h; exact h
end Go.Proofs.YtnheioehadldmaaGreat

/- THE WALKS over the reference's wide numbers: times. -/
namespace Go.Proofs.YtnheioehadldmaaGreat
open Go.RowKit
/-- a block of fourteen digits that may be written -/
def RowW (V : World) (g : Nat) (f : Nat → Nat) : Prop := g < V.heap.size ∧ ∀ i, i < 14 → V.cell? ⟨g, i, none⟩ = some (.int .i64 ((f i : Nat) : Int)) ∧ V.frozen? ⟨g, i, none⟩ = false
theorem RowW.step {V V' : World} {g : Nat} {f : Nat → Nat} (h : RowW V g f) (hb : Below V.heap.size V V') : RowW V' g f := by
 obtain ⟨h0, h1⟩ := h
 obtain ⟨hc, hf⟩ := bcell hb
 have hs := hb.size
 exact ⟨by omega, fun i hi => ⟨(hc _ _ h0).trans (h1 i hi).1, (hf _ _ h0).trans (h1 i hi).2⟩⟩
theorem RowW.set {V : World} {g : Nat} {f : Nat → Nat} (h : RowW V g f) {k : Nat} (hk : k < 14) (v : Nat) : RowW (V.setCell ⟨g, k, none⟩ (.int .i64 (v : Int))) g (updW f k v) := by
 obtain ⟨h0, h1⟩ := h
 refine ⟨by simpa using h0, fun i hi => ?_⟩
 obtain ⟨a, b⟩ := h1 i hi
 obtain ⟨a', b'⟩ := h1 k hk
 by_cases e : i = k
 ·subst e
  rw [updW_at]
  exact ⟨by go_simp, by go_simp⟩
 ·rw [updW_ne f v e]
  have e2 : ¬ k = i := fun q => e q.symm
  exact ⟨by go_simp, by go_simp⟩
theorem RowW.new (w : World) (t : TypeId) : RowW (w.alloc (.cells #[.int .i64 0, .int .i64 0, .int .i64 0, .int .i64 0, .int .i64 0, .int .i64 0, .int .i64 0, .int .i64 0, .int .i64 0, .int .i64 0, .int .i64 0, .int .i64 0, .int .i64 0, .int .i64 0] t)) w.heap.size (fun _ => 0) := by
 refine ⟨by simp, fun i hi => ?_⟩
 match i, hi with
 | 0, _ | 1, _ | 2, _ | 3, _ | 4, _ | 5, _ | 6, _ | 7, _ | 8, _ | 9, _ | 10, _ | 11, _ | 12, _ | 13, _ => exact ⟨by go_simp, by go_simp⟩
end Go.Proofs.YtnheioehadldmaaGreat

/- THE WALKS over the reference's wide numbers: plus, minus, order, parts, narrow. -/
namespace Go.Proofs.YtnheioehadldmaaGreat
open Go.RowKit
theorem RowW.drewN {V : World} {g : Nat} {f : Nat → Nat} (h : RowW V g f) (n : Nat) : RowW (V.drewN n) g f := h.step (below_drewN' (Below.refl _ _) n)
end Go.Proofs.YtnheioehadldmaaGreat

/- PLAIN LAWS: the field and the order. -/
namespace Go.Proofs.YtnheioehadldmaaGreat
theorem addS_ok {an ad bn bd x y : Int} (h : addS an ad bn bd = (x, y, true)) : validB an ad = true ∧ validB bn bd = true ∧ validB x y = true ∧ x * (ad * bd) = (an * bd + bn * ad) * y := by
 cases ha : validB an ad
 ·unfold addS at h; rw [ha] at h; cases h
 ·cases hb : validB bn bd
  ·unfold addS at h; rw [ha, hb] at h; cases h
  ·rw [addS_valid ha hb] at h
   have := redS_ok (pos_mul (low_of_valid ha).1 (low_of_valid hb).1) h
   exact ⟨rfl, rfl, this.1, this.2⟩
theorem valid_pos {n d : Int} (h : validB n d = true) : 1 ≤ d := (validB_iff.1 h).1
/-- (a + b) + c = a + (b + c) -/
theorem add_assoc {an ad bn bd cn cd x y u v : Int} (h : addS an ad bn bd = (x, y, true)) (k : addS bn bd cn cd = (u, v, true)) : addS x y cn cd = addS an ad u v := by
 obtain ⟨ha, hb, hx, e⟩ := addS_ok h
 obtain ⟨-, hc, hu, f⟩ := addS_ok k
 rw [addS_valid hx hc, addS_valid ha hu]
 refine redS_congr (pos_mul (valid_pos hx) (valid_pos hc)) (pos_mul (valid_pos ha) (valid_pos hu)) ?_
 have b0 : bd ≠ 0 := by have := valid_pos hb; omega
 refine Int.eq_of_mul_eq_mul_right b0 ?_
 grind
end Go.Proofs.YtnheioehadldmaaGreat
