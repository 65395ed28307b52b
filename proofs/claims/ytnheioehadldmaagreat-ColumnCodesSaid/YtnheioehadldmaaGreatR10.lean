/- PARTS OF THE WALKS, joined: FracTc, Rf, Clone, HV, CoH, CpE. -/
import Derived.Test.YtnheioehadldmaaGreatR09
import Derived.Deep.RegionHeld3
import Derived.Test.YtnheioehadldmaaGreatR02
import Derived.Test.YtnheioehadldmaaGreatR03
import Derived.Test.YtnheioehadldmaaGreatR04
import Derived.WalkSpells
import Derived.Deep.Cut
import Derived.Test.YtnheioehadldmaaGreatR08
import Derived.RangeFuncNested
import Derived.RangeFuncBox
import Derived.RangeFuncLeaves
import Derived.Shelf.Abstract
import Derived.WalkKit
import Derived.OwnWalkIn
import Derived.TacticsInMore
import Derived.LoopNIn
import Derived.LoopIn
import Derived.Maps.AppendAt
/- THE WALK over the reference's Add. -/
namespace Go.Proofs.YtnheioehadldmaaGreat
open Go.RowKit
/-- what the frame of the reference's Add holds -/
def RAddSt (w : World) (an ad bn bd : Int) (V : World) : Prop :=
 Below w.heap.size w V ∧ w.heap.size + 1 + 1 < V.heap.size ∧ V.cell? ⟨w.heap.size, 0, none⟩ = some (.int .i64 an) ∧ V.cell? ⟨w.heap.size, 1, none⟩ = some (.int .i64 ad) ∧ V.cell? ⟨w.heap.size + 1, 0, none⟩ = some (.int .i64 bn) ∧ V.cell? ⟨w.heap.size + 1, 1, none⟩ = some (.int .i64 bd) ∧
 (V.cell? ⟨w.heap.size + 1 + 1, 0, none⟩ = some (.int .i64 0) ∧ V.frozen? ⟨w.heap.size + 1 + 1, 0, none⟩ = false) ∧ (V.cell? ⟨w.heap.size + 1 + 1, 1, none⟩ = some (.int .i64 0) ∧ V.frozen? ⟨w.heap.size + 1 + 1, 1, none⟩ = false)
theorem RAddSt.step {w : World} {an ad bn bd : Int} {V V' : World} (q : RAddSt w an ad bn bd V) (hb : Below V.heap.size V V') : RAddSt w an ad bn bd V' := by
 obtain ⟨q0, q1, q2, q3, q4, q5, ⟨q6, q7⟩, q8, q9⟩ := q
 obtain ⟨hc, hf⟩ := bcell hb
 have hs := hb.size
 exact ⟨below_step q0 hb, by omega, (hc _ _ (by omega)).trans q2, (hc _ _ (by omega)).trans q3, (hc _ _ (by omega)).trans q4, (hc _ _ (by omega)).trans q5, ⟨(hc _ _ (by omega)).trans q6, (hf _ _ (by omega)).trans q7⟩, (hc _ _ (by omega)).trans q8, (hf _ _ (by omega)).trans q9⟩
theorem RAddSt.drew {w : World} {an ad bn bd : Int} {V : World} (q : RAddSt w an ad bn bd V) : RAddSt w an ad bn bd V.drew := q.step (below_drew' (Below.refl _ _))
theorem RAddSt.start {w : World} {an ad bn bd : Int} : RAddSt w an ad bn bd (((w.alloc (.cells #[.int .i64 an, .int .i64 ad] 139)).alloc (.cells #[.int .i64 bn, .int .i64 bd] 139)).alloc (.cells #[.int .i64 0, .int .i64 0] 139)) :=
 ⟨(by repeat (first | with_reducible exact Below.refl _ _ | with_reducible assumption | with_reducible refine below_drewN' ?_ _ | (with_reducible refine Below.setCell ?_ (by first | (simp; done) | (simp; omega)) _) | (with_reducible refine Below.alloc ?_ (by first | exact Nat.le_refl _ | (simp; done) | (simp; omega)) _))), by simp, by go_simp, by go_simp, by go_simp, by go_simp, ⟨by go_simp, by go_simp⟩, by go_simp, by go_simp⟩
end Go.Proofs.YtnheioehadldmaaGreat

/- THE WALK over the reference's Copy. -/
namespace Go.Proofs.YtnheioehadldmaaGreat
open Go.RowKit
/-- the cells of the first k elements of copies: each its element's cells, its list copied into new memory -/
def CopyTo (w : World) (ok : Nat → Prop) (l : List Val) (cs : List (List Value)) : Prop :=
 ∀ i (h : i < cs.length), ∃ (h' : i < l.length) (A : Option Addr) (c : Nat), cs[i] = (l[i]).cells A c ∧ (l[i]).l.length ≤ c ∧ Vals w ok A (l[i]).l
theorem CopyTo.nil (w : World) (ok : Nat → Prop) (l : List Val) : CopyTo w ok l [] := fun i h => absurd h (by simp)
theorem CopyTo.keep {w w' : World} {ok ok' : Nat → Prop} {l : List Val} {cs : List (List Value)} (h : CopyTo w ok l cs) (hk : ∀ b o x, ok b → w.cell? ⟨b, o, none⟩ = some x → w'.cell? ⟨b, o, none⟩ = some x) (ho : ∀ b, ok b → ok' b) : CopyTo w' ok' l cs := fun i hi => by
 obtain ⟨h', A, c, h1, h2, h3⟩ := h i hi
 exact ⟨h', A, c, h1, h2, h3.keep hk ho⟩
theorem CopyTo.ext {a w : World} {ok : Nat → Prop} {l : List Val} {cs : List (List Value)} (h : CopyTo a ok l cs) (e : Ext a w) : CopyTo w ok l cs := h.keep (fun _ _ _ _ hc => e.cell hc) (fun _ h => h)
theorem CopyTo.push {w : World} {ok : Nat → Prop} {l : List Val} {cs : List (List Value)} (h : CopyTo w ok l cs) (hl : cs.length < l.length) {A : Option Addr} {c : Nat} (hc : (l[cs.length]).l.length ≤ c) (hv : Vals w ok A (l[cs.length]).l) : CopyTo w ok l (cs ++ [(l[cs.length]).cells A c]) := fun i hi => by
 rcases Nat.lt_or_ge i cs.length with h1 | h1
 ·obtain ⟨h', A', c', e1, e2, e3⟩ := h i h1
  exact ⟨h', A', c', by rw [List.getElem_append_left h1]; exact e1, e2, e3⟩
 ·have hi' : i = cs.length := by simp at hi; omega
  subst hi'
  exact ⟨hl, A, c, by simp, hc, hv⟩
theorem CopyTo.size {w : World} {ok : Nat → Prop} {l : List Val} {cs : List (List Value)} (h : CopyTo w ok l cs) : ∀ x ∈ cs, x.length = 5 := fun x hx => by
 obtain ⟨i, hi, rfl⟩ := List.getElem_of_mem hx
 obtain ⟨_, A, c, e, _⟩ := h i hi
 rw [e]; rfl
theorem CopyTo.done {w : World} {ok : Nat → Prop} {base : Nat} {v : Value} {l : List Val} {cs : List (List Value)} (h : CopyTo w ok l cs) (hown : w.ownsRow base 98 5 v l.length cs.flatten) (hl : cs.length = l.length) (hm : l.length ≤ 140737488355328) (hok : ∀ b, ok b → base ≤ b) :
  ∃ A c, v = .slice A l.length c ∧ l.length ≤ c ∧ Vals w (fun b => base ≤ b) A l := by
 refine own_sliceR hown rfl hl h.size hm (fun g hg _ k hk hk' hcell => ?_)
 obtain ⟨h', A, c, e, h2, h3⟩ := h k hk'
 rw [e] at hcell
 refine VCells.iff.2 ⟨hg, A, c, ⟨?_, ?_, ?_, ?_, ?_⟩, h2, h3.to hok⟩
 ·exact hcell 0 _ rfl
 ·exact hcell 1 _ rfl
 ·exact hcell 2 _ rfl
 ·exact hcell 3 _ rfl
 ·exact hcell 4 _ rfl
end Go.Proofs.YtnheioehadldmaaGreat

/- THE WALKS over slices.Clone, at each element type; a value slice's cells in one row. -/
namespace Go.Proofs.YtnheioehadldmaaGreat
open Go.RowKit
theorem CopyTo.cons {w : World} {ok : Nat → Prop} {l : List Val} {cs : List (List Value)} (h : CopyTo w ok l cs) (v : Val) {A : Option Addr} {c : Nat} (hc : v.l.length ≤ c) (hv : Vals w ok A v.l) : CopyTo w ok (v :: l) (v.cells A c :: cs) := fun i hi => by
 cases i with
 | zero => exact ⟨by simp, A, c, rfl, hc, hv⟩
 | succ i =>
  obtain ⟨h', A', c', e1, e2, e3⟩ := h i (by simpa using hi)
  exact ⟨by simpa using h', A', c', e1, e2, e3⟩
theorem LCells.flat {w : World} {ok : Nat → Prop} : ∀ {l : List Val} {b o : Nat}, LCells w ok b o l → ∃ cs, cs.length = l.length ∧ CopyTo w ok l cs ∧ ∀ j u, cs.flatten[j]? = some u → w.cell? ⟨b, o + j, none⟩ = some u
 | [], b, o, _ => ⟨[], rfl, CopyTo.nil _ _ _, fun j u h => by simp at h⟩
 | v :: vs, b, o, h => by
  rw [LCells] at h
  obtain ⟨cs, h1, h2, h3⟩ := LCells.flat h.2
  obtain ⟨-, A, c, ⟨c0, c1, c2, c3, c4⟩, hle, hv⟩ := VCells.iff.1 h.1
  refine ⟨v.cells A c :: cs, by simp [h1], h2.cons v hle hv, fun j u hu => ?_⟩
  rw [List.flatten_cons] at hu
  by_cases hj : j < 5
  ·rw [List.getElem?_append_left (by simpa [Val.cells] using hj)] at hu
   have hj' : j = 0 ∨ j = 1 ∨ j = 2 ∨ j = 3 ∨ j = 4 := by omega
   rcases hj' with rfl | rfl | rfl | rfl | rfl <;> (simp [Val.cells] at hu; subst hu; assumption)
  ·rw [List.getElem?_append_right (by simp [Val.cells]; omega)] at hu
   have := h3 _ u hu
   rw [show o + 5 + (j - (v.cells A c).length) = o + j by simp [Val.cells]; omega] at this
   exact this
theorem Vals.flat {w : World} {ok : Nat → Prop} {A : Option Addr} {l : List Val} (h : Vals w ok A l) : ∃ cs, cs.length = l.length ∧ CopyTo w ok l cs ∧ ∀ ad, A = some ad → ∀ j u, cs.flatten[j]? = some u → w.cell? (ad.add j) = some u := by
 rcases Nat.eq_zero_or_pos l.length with h0 | h0
 ·have : l = [] := List.eq_nil_of_length_eq_zero h0
  subst this
  exact ⟨[], rfl, CopyTo.nil _ _ _, fun _ _ j u hu => by simp at hu⟩
 ·obtain ⟨b, o, rfl, hc⟩ := h.2 h0
  obtain ⟨cs, h1, h2, h3⟩ := LCells.flat (LCells.iff.2 hc)
  refine ⟨cs, h1, h2, fun ad e j u hu => ?_⟩
  injection e with e
  subst e
  rw [Addr.add_mid]; exact h3 j u hu
theorem CopyTo.one {w : World} {ok : Nat → Prop} {l : List Val} {cs : List (List Value)} (h : CopyTo w ok l cs) : ∀ u ∈ cs.flatten, u.oneCell' = true := fun u hu => by
 obtain ⟨x, hx, hu⟩ := List.mem_flatten.1 hu
 obtain ⟨i, hi, rfl⟩ := List.getElem_of_mem hx
 obtain ⟨_, A, c, e, _⟩ := h i hi
 rw [e] at hu
 exact Val.cells_one _ _ _ u hu
end Go.Proofs.YtnheioehadldmaaGreat

/- ROWS OF VALUES THAT A CALL OWNS, whose lists lie elsewhere. -/
namespace Go.Proofs.YtnheioehadldmaaGreat
open Go.RowKit
theorem frz_heap {a b : World} {p : Addr} (h : b.heap[p.block]? = a.heap[p.block]?) : b.frozen? p = a.frozen? p := by unfold World.frozen?; rw [h]
theorem frz_grown {a c : World} {row : Option Nat} (e : a.grownBy c row) {p : Addr} {v : Value} (hc : a.cell? p = some v) (hf : a.frozen? p = false) (hp : some p.block ≠ row) : c.frozen? p = false := (frz_heap (a := a) (e.block _ (block_lt_of_cell hc) hp)).trans hf
theorem gr_set (W : World) (s j : Nat) (u : Value) : W.grownBy (W.setCell ⟨s, j, none⟩ u) (some s) := ⟨rfl, rfl, rfl, by simp, fun k _ hk => Below.heap_setCell _ _ _ k (fun e => hk (by rw [e]))⟩
section
variable {α : Type} {K : KindG α} {e : TypeId} {W : World} {base : Nat} {ok0 : Nat → Prop} {v : Value} {hs : List α}
/-- one element appended that lies at ad: the run -/
theorem run_pushAt {P : Program} {t bytes : Nat} (T : ElT P t e K.size bytes) (ty : TypeId) (h : OwnG K e W base ok0 v hs) (hb : base ≤ W.heap.size) (x : α) (hx : K.lies W (fun b => ok0 b ∧ some b ≠ v.ownBlock) x)
  (ad : Addr) (c : Nat) (hc : ∀ j u, (K.enc x)[j]? = some u → W.cell? (ad.add j) = some u) (h63 : hs.length + 1 ≤ 8388608) (hbytes : bytes ≤ 1000000) :
  ∃ v' w', (Builtin.append_ #[t, t] ty #[v, .slice (some ad) 1 c]).run P W = .ok v' w' ∧ OwnG K e w' base ok0 v' (hs ++ [x]) ∧ W.grownBy w' v.ownBlock ∧ (v'.ownBlock = v.ownBlock ∨ v'.ownBlock = some W.heap.size) := by
 obtain ⟨z, hz, hzc⟩ := T.hi
 obtain ⟨i, hi, hz0, hz1, hz2⟩ := info_parts hz
 obtain ⟨v', w', hr, k1, k2, -, k3⟩ := run_append_own_at (P := P) W base t ty e i z K.size bytes T.ht hi hz0 hz1 hz2 hzc T.hs v hs.length (hs.flatMap K.enc) h.own ad 1 c (K.enc x) (by rw [K.len, Nat.one_mul]) hc (K.one x) (by unfold maxLen; omega) (Nat.le_trans (Nat.mul_le_mul h63 hbytes) (by decide)) hb
 have hcell : ∀ b o y, (ok0 b ∧ some b ≠ v.ownBlock) → W.cell? ⟨b, o, none⟩ = some y → w'.cell? ⟨b, o, none⟩ = some y ∧ (ok0 b ∧ some b ≠ v'.ownBlock) := fun b o y hb hc => by
  have hlt : b < W.heap.size := block_lt_of_cell hc
  refine ⟨k2.cell hc hb.2, hb.1, ?_⟩
  rcases k3 with e2 | e2
  ·rw [e2]; exact hb.2
  ·rw [e2]
   intro e3
   injection e3 with e3
   omega
 refine ⟨v', w', hr, ⟨by rw [List.length_append, List.flatMap_append]; simpa using k1, fun p hp => ?_⟩, k2, k3⟩
 rcases List.mem_append.1 hp with hp | hp
 ·exact K.keep _ _ _ _ _ hcell (h.lies p hp)
 ·rw [List.mem_singleton.1 hp]; exact K.keep _ _ _ _ _ hcell hx
/-- .. at a step of a drawn region -/
theorem step_pushAt {P : Program} {t bytes : Nat} (T : ElT P t e K.size bytes) {ops : Array Oper} {o : Oper} {a : Act} {K2 : Act → World → Prop} {Q : Exit → Act → World → Prop} {E : Prop} (hg : o.guard = none) (s y : Operand)
  (ho : o.op = .call { callee := .builtin .append, args := #[s, y], argTypes := #[t, t] }) (hs' : a.eval s = v) (h : OwnG K e W base ok0 v hs) (hb : base ≤ W.heap.size) (x : α) (hx : K.lies W (fun b => ok0 b ∧ some b ≠ v.ownBlock) x)
  (ad : Addr) (c : Nat) (hy : a.eval y = .slice (some ad) 1 c) (hc : ∀ j u, (K.enc x)[j]? = some u → W.cell? (ad.add j) = some u) (h63 : hs.length + 1 ≤ 8388608) (hbytes : bytes ≤ 1000000)
  (hK : ∀ v' w', OwnG K e w' base ok0 v' (hs ++ [x]) → W.grownBy w' v.ownBlock → (v'.ownBlock = v.ownBlock ∨ v'.ownBlock = some W.heap.size) → K2 (a.put o.dst v') w') : if Region.wanted o (yielded ops a.tmps) = true then Oper.wp P o a W K2 Q else E := by
 obtain ⟨v', w', hr, h1, h2, h3⟩ := run_pushAt T o.type h hb x hx ad c hc h63 hbytes
 exact step_append_run' hg s y _ _ ho v _ hs' hy hr (hK v' w' h1 h2 h3)
end
/-- a value, with its list's head -/
structure HV where
 A : Option Addr
 c : Nat
 v : Val
instance : Inhabited HV := ⟨⟨none, 0, default⟩⟩
def HV.cells (h : HV) : List Value := h.v.cells h.A h.c
end Go.Proofs.YtnheioehadldmaaGreat

/- ROWS OF NUMBERS AND ENTRIES that a call owns; a column under way. -/
namespace Go.Proofs.YtnheioehadldmaaGreat
open Go.RowKit
def KI : KindG Int := ⟨fun x => [.int .i64 x], 1, fun _ _ _ => True, fun _ => rfl, fun _ u hu => by rw [List.mem_singleton.1 hu]; rfl, fun _ _ _ _ _ _ _ => trivial⟩
def KA : KindG Sh := ⟨Sh.cells, 3, fun _ _ _ => True, fun _ => rfl, fun s u hu => s.cells_one u hu, fun _ _ _ _ _ _ _ => trivial⟩
theorem T_ki : ElT Tryz.prog 27 3 KI.size 8 := El_int
theorem T_ka : ElT Tryz.prog 42 41 KA.size 24 := El_adj
abbrev OI (W : World) (base : Nat) (v : Value) (l : List Int) : Prop := OwnG KI 3 W base (fun _ => False) v l
abbrev OA (W : World) (base : Nat) (v : Value) (l : List Sh) : Prop := OwnG KA 41 W base (fun _ => False) v l
theorem OI.nums {W : World} {base : Nat} {v : Value} {l : List Int} (h : OI W base v l) (hm : l.length ≤ 140737488355328) : ∃ A c, v = .slice A l.length c ∧ l.length ≤ c ∧ Nums W (fun b => base ≤ b) A l := by
 obtain ⟨A, c, h1, h2, h3⟩ := OwnG.slice (R := IntC W (fun b => base ≤ b)) (fun x : Int => x) h hm (fun g o x hg hc _ => ⟨hg, hc 0 _ rfl⟩)
 exact ⟨A, c, h1, h2, by rw [List.map_id'] at h3; exact h3⟩
theorem OA.shares {W : World} {base : Nat} {v : Value} {l : List Sh} (h : OA W base v l) (hm : l.length ≤ 140737488355328) : ∃ A c, v = .slice A l.length c ∧ l.length ≤ c ∧ Shares W (fun b => base ≤ b) A l := by
 obtain ⟨A, c, h1, h2, h3⟩ := OwnG.slice (R := ShC W (fun b => base ≤ b)) (fun x : Sh => x) h hm (fun g o x hg hc _ => ⟨hg, hc 0 _ rfl, hc 1 _ rfl, hc 2 _ rfl⟩)
 exact ⟨A, c, h1, h2, by rw [List.map_id'] at h3; exact h3⟩
/-- two rows in different blocks -/
def Apt (u v : Value) : Prop := ∀ g, u.ownBlock = some g → v.ownBlock ≠ some g
theorem Apt.symm {u v : Value} (h : Apt u v) : Apt v u := fun g hv hu => h g hu hv
theorem Apt.nil (v : Value) : Apt (.slice none 0 0) v := fun g h => by cases h
theorem Apt.or {u v : Value} (h : Apt u v) : u.ownBlock = none ∨ u.ownBlock ≠ v.ownBlock := by
 cases hu : u.ownBlock with
 | none => exact .inl rfl
 | some g => exact .inr (fun e => h g hu e.symm)
theorem Apt.grown {u v v' : Value} {W : World} {base : Nat} {l : List Int} {H : Nat} (h : Apt u v) (hu : OI W base u l) (hH : W.heap.size ≤ H) (hd : v'.ownBlock = v.ownBlock ∨ v'.ownBlock = some H) : Apt u v' := fun g hg e => by
 rcases hd with d | d
 ·rw [d] at e; exact h g hg e
 ·rw [d] at e
  have h1 := (OwnG.lt hu hg).2
  have h2 := Option.some.inj e
  omega
theorem OI.over {u v : Value} {W W' : World} {base : Nat} {l : List Int} (hu : OI W base u l) (h : Apt u v) (hg : W.grownBy W' v.ownBlock) : OI W' base u l := OwnG.grown hu hg h.or (fun _ _ hf => hf)
/-- a column that a call builds: four rows of its own, each in a block of its own -/
structure Col4 (W : World) (base : Nat) (vN vF vT vE : Value) (c : Col) : Prop where
 n : OI W base vN c.nodes
 f : OI W base vF c.first
 t : OI W base vT c.tos
 e : OI W base vE c.edges
 nf : Apt vN vF
 nt : Apt vN vT
 ne : Apt vN vE
 ft : Apt vF vT
 fe : Apt vF vE
 te : Apt vT vE
section
variable {W W' : World} {base H : Nat} {vN vF vT vE v' : Value} {c : Col} {x : Int}
theorem Col4.nil (W : World) (base : Nat) : Col4 W base (.slice none 0 0) (.slice none 0 0) (.slice none 0 0) (.slice none 0 0) noCol :=
 ⟨OwnG.nil _ _ _ _ _, OwnG.nil _ _ _ _ _, OwnG.nil _ _ _ _ _, OwnG.nil _ _ _ _ _, Apt.nil _, Apt.nil _, Apt.nil _, Apt.nil _, Apt.nil _, Apt.nil _⟩
theorem Col4.ext (h : Col4 W base vN vF vT vE c) (e : Ext W W') : Col4 W' base vN vF vT vE c := ⟨OwnG.ext h.n e, OwnG.ext h.f e, OwnG.ext h.t e, OwnG.ext h.e e, h.nf, h.nt, h.ne, h.ft, h.fe, h.te⟩
theorem Col4.put (h : Col4 W base vN vF vT vE c) {q : Nat} (hq : q < base) (j : Nat) (u : Value) : Col4 (W.setCell ⟨q, j, none⟩ u) base vN vF vT vE c := by
 have k : ∀ {v : Value} {l : List Int}, OI W base v l → OI (W.setCell ⟨q, j, none⟩ u) base v l := fun {v l} h => OwnG.grown h (gr_set W q j u) (by
  cases hv : v.ownBlock with
  | none => exact .inl rfl
  | some g => exact .inr (fun e => by have := (OwnG.lt h hv).1; have := Option.some.inj e; omega)) (fun _ _ hf => hf)
 exact ⟨k h.n, k h.f, k h.t, k h.e, h.nf, h.nt, h.ne, h.ft, h.fe, h.te⟩
theorem Col4.pushN (h : Col4 W base vN vF vT vE c) (hO : OI W' base v' (c.nodes ++ [x])) (hg : W.grownBy W' vN.ownBlock) (hH : W.heap.size ≤ H) (hd : v'.ownBlock = vN.ownBlock ∨ v'.ownBlock = some H) : Col4 W' base v' vF vT vE { c with nodes := c.nodes ++ [x] } :=
 ⟨hO, h.f.over h.nf.symm hg, h.t.over h.nt.symm hg, h.e.over h.ne.symm hg, (h.nf.symm.grown h.f hH hd).symm, (h.nt.symm.grown h.t hH hd).symm, (h.ne.symm.grown h.e hH hd).symm, h.ft, h.fe, h.te⟩
theorem Col4.pushF (h : Col4 W base vN vF vT vE c) (hO : OI W' base v' (c.first ++ [x])) (hg : W.grownBy W' vF.ownBlock) (hH : W.heap.size ≤ H) (hd : v'.ownBlock = vF.ownBlock ∨ v'.ownBlock = some H) : Col4 W' base vN v' vT vE { c with first := c.first ++ [x] } :=
 ⟨h.n.over h.nf hg, hO, h.t.over h.ft.symm hg, h.e.over h.fe.symm hg, h.nf.grown h.n hH hd, h.nt, h.ne, (h.ft.symm.grown h.t hH hd).symm, (h.fe.symm.grown h.e hH hd).symm, h.te⟩
theorem Col4.pushT (h : Col4 W base vN vF vT vE c) (hO : OI W' base v' (c.tos ++ [x])) (hg : W.grownBy W' vT.ownBlock) (hH : W.heap.size ≤ H) (hd : v'.ownBlock = vT.ownBlock ∨ v'.ownBlock = some H) : Col4 W' base vN vF v' vE { c with tos := c.tos ++ [x] } :=
 ⟨h.n.over h.nt hg, h.f.over h.ft hg, hO, h.e.over h.te.symm hg, h.nf, h.nt.grown h.n hH hd, h.ne, h.ft.grown h.f hH hd, h.fe, (h.te.symm.grown h.e hH hd).symm⟩
theorem Col4.pushE (h : Col4 W base vN vF vT vE c) (hO : OI W' base v' (c.edges ++ [x])) (hg : W.grownBy W' vE.ownBlock) (hH : W.heap.size ≤ H) (hd : v'.ownBlock = vE.ownBlock ∨ v'.ownBlock = some H) : Col4 W' base vN vF vT v' { c with edges := c.edges ++ [x] } :=
 ⟨h.n.over h.ne hg, h.f.over h.fe hg, h.t.over h.te hg, hO, h.nf, h.nt, h.ne.grown h.n hH hd, h.ft, h.fe.grown h.f hH hd, h.te.grown h.t hH hd⟩
/-- read as a column -/
theorem Col4.col (h : Col4 W base vN vF vT vE c) (hm : c.nodes.length ≤ 8000000 ∧ c.first.length ≤ 8000001 ∧ c.tos.length ≤ 8000000 ∧ c.edges.length ≤ 8000000) : ∃ A B C D k0 k1 k2 k3, vN = .slice A c.nodes.length k0 ∧ vF = .slice B c.first.length k1 ∧ vT = .slice C c.tos.length k2 ∧ vE = .slice D c.edges.length k3 ∧ ColAt W (fun b => base ≤ b) A B C D c := by
 obtain ⟨A, k0, e0, -, h0⟩ := h.n.nums (by omega)
 obtain ⟨B, k1, e1, -, h1⟩ := h.f.nums (by omega)
 obtain ⟨C, k2, e2, -, h2⟩ := h.t.nums (by omega)
 obtain ⟨D, k3, e3, -, h3⟩ := h.e.nums (by omega)
 exact ⟨A, B, C, D, k0, k1, k2, k3, e0, e1, e2, e3, h0, h1, h2, h3⟩
end
/-- the four cells of a column's box -/
def Box4 (W : World) (q : Nat) (vN vF vT vE : Value) : Prop := W.cell? ⟨q, 0, none⟩ = some vN ∧ W.cell? ⟨q, 1, none⟩ = some vF ∧ W.cell? ⟨q, 2, none⟩ = some vT ∧ W.cell? ⟨q, 3, none⟩ = some vE
def Frz4 (W : World) (q : Nat) : Prop := W.frozen? ⟨q, 0, none⟩ = false ∧ W.frozen? ⟨q, 1, none⟩ = false ∧ W.frozen? ⟨q, 2, none⟩ = false ∧ W.frozen? ⟨q, 3, none⟩ = false
theorem Box4.grown {W W' : World} {q : Nat} {vN vF vT vE : Value} {row : Option Nat} (h : Box4 W q vN vF vT vE) (hg : W.grownBy W' row) (hr : some q ≠ row) : Box4 W' q vN vF vT vE := ⟨hg.cell h.1 hr, hg.cell h.2.1 hr, hg.cell h.2.2.1 hr, hg.cell h.2.2.2 hr⟩
theorem Frz4.grown {W W' : World} {q : Nat} {vN vF vT vE : Value} {row : Option Nat} (f : Frz4 W q) (h : Box4 W q vN vF vT vE) (hg : W.grownBy W' row) (hr : some q ≠ row) : Frz4 W' q := ⟨frz_grown hg h.1 f.1 hr, frz_grown hg h.2.1 f.2.1 hr, frz_grown hg h.2.2.1 f.2.2.1 hr, frz_grown hg h.2.2.2 f.2.2.2 hr⟩
theorem box_zero (w : World) (t : TypeId) : ∃ (q : Nat) (w1 : World), q = w.heap.size ∧ w1 = w.alloc (.cells #[.slice none 0 0, .slice none 0 0, .slice none 0 0, .slice none 0 0] t) ∧ Box4 w1 q (.slice none 0 0) (.slice none 0 0) (.slice none 0 0) (.slice none 0 0) ∧ Frz4 w1 q ∧ Ext w w1 :=
 ⟨_, _, rfl, rfl, ⟨by go_simp, by go_simp, by go_simp, by go_simp⟩, ⟨by go_simp, by go_simp, by go_simp, by go_simp⟩, (Ext.refl _).alloc _⟩
end Go.Proofs.YtnheioehadldmaaGreat

/- THE WALKS over slices.Values at entries, slices.AppendSeq, slices.Collect: a range over a function. -/
namespace Go.Proofs.YtnheioehadldmaaGreat
open Go.RowKit Go.Shelf
section
attribute [local go_sem] Oper.semAt_some
def Sh.agg (x : Sh) : Value := .agg #[.int .i64 x.id, .int .i64 x.n, .int .i64 x.d]
def BoxA (W : World) (B : Nat) (x : Sh) : Prop := W.heap[B]? = some (.cells #[.int .i64 x.id, .int .i64 x.n, .int .i64 x.d] 41 (0, 0))
theorem BoxA.lt {W : World} {B : Nat} {x : Sh} (h : BoxA W B x) : B < W.heap.size := (Array.getElem?_eq_some_iff.1 h).1
theorem BoxA.kept {W W' : World} {row : Option Nat} {B : Nat} {x : Sh} (h : BoxA W B x) (hg : W.grownBy W' row) (hne : some B ≠ row) : BoxA W' B x := (hg.block B h.lt hne).trans h
theorem boxA_own {β : Type} (B : Nat) (f : β → Sh) : Own (fun s W => BoxA W B (f s)) := fun s X Y row hs hg hrow =>
 hs.kept hg (fun e' => by obtain ⟨o, ho, hc⟩ := hrow B e'.symm; rw [show X.heap[B]? = _ from hs] at ho; cases ho; cases hc)
theorem BoxA.cells {W : World} {B : Nat} {x : Sh} (h : BoxA W B x) : W.cell? ⟨B, 0, none⟩ = some (.int .i64 x.id) ∧ W.cell? ⟨B, 1, none⟩ = some (.int .i64 x.n) ∧ W.cell? ⟨B, 2, none⟩ = some (.int .i64 x.d) := by
 have h' : W.heap[B]? = _ := h
 refine ⟨?_, ?_, ?_⟩ <;> simp [World.cell?, h']
set_option maxRecDepth 100000 in
set_option maxHeartbeats 2000000 in
/-- slices.Values's closure over a slice that is not empty -/
theorem values1_in (F : Fence) (n : Nat) (h7 : F.fn 70) (hro : F.round = none) (hn : 1 ≤ n) (l Bs n₀ b off cap : Nat) (zs : List Sh) (hreach : zs.length ≤ 8000000) (hb : b < n₀) (J Jx : List Sh → World → Prop)
  (hY : ∀ pre x W, J pre W → pre.length < zs.length → YieldAt F (n - 1) Tryz.prog l #[.agg #[.int .i64 x.id, .int .i64 x.n, .int .i64 x.d]] W fun e W' =>
   (e = .returned (.bool true) ∧ J (pre ++ [x]) W' ∧ Below n₀ W W') ∨ (e = .returned (.bool false) ∧ Jx (pre ++ [x]) W'))
  (W : World) (hJ : AbidesFrom W.heap.size J) (hn0 : n₀ ≤ W.heap.size) (hBs : W.cell? ⟨Bs, 0, none⟩ = some (.slice (some ⟨b, off, none⟩) zs.length cap)) (hc : ∀ j, j < zs.length → W.cell? ⟨b, off + j * 3, none⟩ = some (.int .i64 zs[j]!.id) ∧ W.cell? ⟨b, off + j * 3 + 1, none⟩ = some (.int .i64 zs[j]!.n) ∧ W.cell? ⟨b, off + j * 3 + 2, none⟩ = some (.int .i64 zs[j]!.d)) (h0 : J [] W) :
  CallsIn F n Tryz.prog 70 #[.func (.yield l) #[] #[], .pointer (some ⟨Bs, 0, none⟩)] W fun e W' => (∃ v, e = .returned v) ∧
   ((∃ ys, ys = zs ∧ J ys W') ∨ (∃ pre, pre <+: zs ∧ Jx pre W')) := by
 have HC := Lib.hid hc
 have HT := Lib.hid (fun k (hk : k < zs.length) => (by rw [List.take_succ_eq_append_getElem hk, getElem!_pos zs k hk] : zs.take (k + 1) = zs.take k ++ [zs[k]!]))
 have HL := Lib.hid (fun k (hk : k < zs.length) => (by rw [List.length_take]; omega : (zs.take k).length < zs.length))
 clear hc
 refine callsIn_of_wp Tryz.func70 rfl h7 ?_ hro
 simp only [Tryz.ntmps70, List.size_toArray, List.length_cons, List.length_nil, Nat.reduceAdd, Nat.reduceSub, Array.replicate_succ, Array.replicate_zero, List.push_toArray, List.append_toArray, List.nil_append, List.cons_append]
 gi_wp2
 gi_loopw [7] (fun i wr => ∃ k : Nat, k ≤ zs.length ∧ i = .int .i64 k ∧ J (zs.take k) wr ∧ Below n₀ W wr)
  (fun i _ => zs.length - (intOf i).toNat)
 case atStart => exact ⟨0, Nat.zero_le _, rfl, h0, Below.refl _ _⟩
 case round =>
  obtain ⟨k, hk, rfl, hJs, hnx⟩ := hrel
  have hsz := hnx.size
  by_cases hlt : k < zs.length
  ·obtain ⟨c0, c1, c2⟩ := HC.out k hlt
   replace c0 := (hnx.cell (p := ⟨b, off + k * 3, none⟩) hb).trans c0
   replace c1 := (hnx.cell (p := ⟨b, off + k * 3 + 1, none⟩) hb).trans c1
   replace c2 := (hnx.cell (p := ⟨b, off + k * 3 + 2, none⟩) hb).trans c2
   have ht := HT.out k hlt
   have hll := HL.out k hlt
   generalize zs[k]! = x at *
   have HTK := Lib.hid ht
   clear ht
   have hJ2 : J (zs.take k) (wr.alloc (.cells #[.int .i64 x.id, .int .i64 x.n, .int .i64 x.d] 41)) := hJ _ _ _ none hJs (Ext.gr ((Ext.refl wr).alloc _) none) (fun r e => by cases e)
   obtain ⟨fn, tmps, assign, body, hy, hR⟩ := hY _ x _ hJ2 hll
   gi_wp2
   refine hR.mono ?_
   rintro e W3 (⟨rfl, hJ3, hk3⟩ | ⟨rfl, hJx3⟩)
   ·have HJ3 := Lib.hid (by rw [HTK.out]; exact hJ3 : J (zs.take (k + 1)) W3)
    gi_wp2
    go_roundw
    case rel => exact ⟨k + 1, by omega, by go_num, HJ3.out, hnx.trans (((Below.refl n₀ wr).alloc (by omega) _).trans hk3)⟩
    case measure => simp [intOf]; omega
   ·gi_wp2
    refine bodyPost_ret (results_none rfl _ _ _) rfl ?_
    exact ⟨⟨_, rfl⟩, .inr ⟨_, by rw [← HTK.out]; exact List.take_prefix _ _, hJx3⟩⟩
  ·have hke : zs.take k = zs := List.take_of_length_le (by omega)
   have HJE := Lib.hid (by rw [← hke]; exact hJs : J zs wr)
   clear hke
   gi_wp2
   go_end0
   exact ⟨⟨_, rfl⟩, .inl ⟨_, rfl, HJE.out⟩⟩
set_option maxRecDepth 100000 in
set_option maxHeartbeats 1000000 in
/-- .. over an empty one -/
theorem values1_nil_in (F : Fence) (n : Nat) (h7 : F.fn 70) (hro : F.round = none) (l Bs : Nat) (A : Option Addr) (cap : Nat) (J : List Sh → World → Prop) (W : World) (hBs : W.cell? ⟨Bs, 0, none⟩ = some (.slice A 0 cap)) (h0 : J [] W) :
  CallsIn F n Tryz.prog 70 #[.func (.yield l) #[] #[], .pointer (some ⟨Bs, 0, none⟩)] W fun e W' => (∃ v, e = .returned v) ∧ J [] W' := by
 refine callsIn_of_wp Tryz.func70 rfl h7 ?_ hro
 simp only [Tryz.ntmps70, List.size_toArray, List.length_cons, List.length_nil, Nat.reduceAdd, Nat.reduceSub, Array.replicate_succ, Array.replicate_zero, List.push_toArray, List.append_toArray, List.nil_append, List.cons_append]
 gi_wp2
 gi_loopw [7] (fun i wr => i = .int .i64 0 ∧ J [] wr) (fun _ _ => 0)
 case atStart => exact ⟨rfl, h0⟩
 case round =>
  obtain ⟨rfl, hJs⟩ := hrel
  gi_wp2
  go_end0
  exact ⟨⟨_, rfl⟩, hJs⟩
set_option maxHeartbeats 1000000 in
theorem values_in (F : Fence) (n : Nat) (h5 : F.fn 41) (hro : F.round = none) (a : Option Addr) (len cap : Nat) (w : World) :
  CallsIn F n Tryz.prog 41 #[.slice a len cap] w fun e w' => e = .returned (.func (.func 70) #[] #[.pointer (some ⟨w.heap.size, 0, none⟩)]) ∧ w' = w.alloc (.cells #[.slice a len cap] 42) := by
 refine callsIn_of_wp Tryz.func41 rfl h5 ?_ hro
 simp only [Tryz.ntmps41, List.size_toArray, List.length_cons, List.length_nil, Nat.reduceAdd, Nat.reduceSub, Array.replicate_succ, Array.replicate_zero, List.push_toArray, List.append_toArray, List.nil_append, List.cons_append]
 gi_wp2
 go_ret
 exact ⟨rfl, rfl⟩
theorem values_stops (F : Fence) (n : Nat) (h7 : F.fn 70) (hro : F.round = none) (hn : 1 ≤ n) (Bs n₀ : Nat) (A : Option Addr) (cap : Nat) (zs : List Sh) (hreach : zs.length ≤ 8000000) (w : World) (hBs : Bs < w.heap.size) (hn₀ : n₀ ≤ w.heap.size)
  (hc : w.cell? ⟨Bs, 0, none⟩ = some (.slice A zs.length cap)) (hI : Shares w (fun b => b < n₀) A zs) :
  SeqStopsK F n Tryz.prog 70 #[.pointer (some ⟨Bs, 0, none⟩)] (fun x : Sh => #[Value.agg #[.int .i64 x.id, .int .i64 x.n, .int .i64 x.d]]) (Below n₀) (fun ys => ys = zs) (fun pre => pre <+: zs) zs.length w := fun l J Jx W hW hJ _ hY h0 => by
 have hc' := (hW.cell (p := ⟨Bs, 0, none⟩) hBs).trans hc
 rcases Nat.eq_zero_or_pos zs.length with hz | hz
 ·obtain rfl : zs = [] := List.eq_nil_of_length_eq_zero hz
  exact (values1_nil_in F n h7 hro l Bs A cap J W hc' h0).mono fun e W' ⟨he, hj⟩ => ⟨he, .inl ⟨_, rfl, hj⟩⟩
 ·obtain ⟨b, off, rfl, hcs⟩ := hI.at_ hz
  have hb : b < n₀ := (hcs 0 hz).1
  refine values1_in F n h7 hro hn l Bs n₀ b off cap zs hreach hb J Jx hY W hJ (Nat.le_trans hn₀ hW.size) hc' (fun j hj => ?_) h0
  obtain ⟨-, d0, d1, d2⟩ := hcs j hj
  have hW0 := hW.mono hn₀
  exact ⟨(hW0.cell (p := ⟨b, off + j * 3, none⟩) hb).trans d0, (hW0.cell (p := ⟨b, off + j * 3 + 1, none⟩) hb).trans d1, (hW0.cell (p := ⟨b, off + j * 3 + 2, none⟩) hb).trans d2⟩
end
end Go.Proofs.YtnheioehadldmaaGreat
