/- PARTS OF THE WALKS, joined: Copied, SortF, SortG, MapOf, Zf, Zb. -/
import Derived.Test.YtgojggmjajlbpaaGreatDoorV07
import Derived.Laws.BitsAllLaws
import Derived.Deep.RegionHeld3
import Derived.WalkSpells
import Derived.Deep.Cut
import Derived.Test.YtgojggmjajlbpaaGreatDoorV08
import Derived.BigRegion
import Derived.WalkKit
import Derived.Test.YtgojggmjajlbpaaGreatDoorV03
import Derived.Laws.MakeOwn
import Derived.Maps.OwnSet
import Derived.Maps.OwnOps
import Derived.Test.YtgojggmjajlbpaaGreatDoorV00
import Derived.Test.YtgojggmjajlbpaaGreatDoorShelfG
import Derived.Test.YtgojggmjajlbpaaGreatDoorShelf
import Derived.Lib.AppendIntMem
/- THE WALK over value.copied. -/
namespace Go.Proofs.YtgojggmjajlbpaaGreatDoor
open Go.RowKit
/-- a row of cells whose first k elements bear copied lists -/
def MixTo (w : World) (ok ok' : Nat → Prop) (k : Nat) (l : List Val) (cs : List (List Value)) : Prop :=
  ∀ i (h : i < cs.length), ∃ (h' : i < l.length) (A : Option Addr) (c : Nat), cs[i] = (l[i]).cells A c ∧ (l[i]).l.length ≤ c ∧ (i < k → Vals w ok' A (l[i]).l) ∧ (k ≤ i → Vals w ok A (l[i]).l)
theorem MixTo.start {w : World} {ok ok' : Nat → Prop} {l : List Val} {cs : List (List Value)} (h : CopyTo w ok l cs) : MixTo w ok ok' 0 l cs := fun i hi => by
  obtain ⟨h', A, c, e1, e2, e3⟩ := h i hi
  exact ⟨h', A, c, e1, e2, fun h => absurd h (by omega), fun _ => e3⟩
theorem MixTo.done {w : World} {ok ok' : Nat → Prop} {l : List Val} {cs : List (List Value)} (h : MixTo w ok ok' cs.length l cs) : CopyTo w ok' l cs := fun i hi => by
  obtain ⟨h', A, c, e1, e2, e3, _⟩ := h i hi
  exact ⟨h', A, c, e1, e2, e3 hi⟩
theorem MixTo.size {w : World} {ok ok' : Nat → Prop} {k : Nat} {l : List Val} {cs : List (List Value)} (h : MixTo w ok ok' k l cs) : ∀ x ∈ cs, x.length = 5 := fun x hx => by
  obtain ⟨i, hi, rfl⟩ := List.getElem_of_mem hx
  obtain ⟨_, A, c, e, _⟩ := h i hi
  rw [e]; rfl
theorem MixTo.keep {w w' : World} {ok ok' : Nat → Prop} {k : Nat} {l : List Val} {cs : List (List Value)} (h : MixTo w ok ok' k l cs) (hk : ∀ b o x, ok b → w.cell? ⟨b, o, none⟩ = some x → w'.cell? ⟨b, o, none⟩ = some x) (hk' : ∀ b o x, ok' b → w.cell? ⟨b, o, none⟩ = some x → w'.cell? ⟨b, o, none⟩ = some x) : MixTo w' ok ok' k l cs := fun i hi => by
  obtain ⟨h', A, c, e1, e2, e3, e4⟩ := h i hi
  exact ⟨h', A, c, e1, e2, fun q => (e3 q).keep hk' (fun _ h => h), fun q => (e4 q).keep hk (fun _ h => h)⟩
theorem MixTo.step {w : World} {ok ok' : Nat → Prop} {k : Nat} {l : List Val} {cs : List (List Value)} (h : MixTo w ok ok' k l cs) (hk : k < cs.length) (hl : k < l.length) {A' : Option Addr} {c' : Nat} (hc : (l[k]).l.length ≤ c') (hv : Vals w ok' A' (l[k]).l) : MixTo w ok ok' (k + 1) l (cs.set k ((l[k]).cells A' c')) := fun i hi => by
  have hi' : i < cs.length := by simpa using hi
  by_cases e : i = k
  · subst e
    exact ⟨hl, A', c', by simp, hc, fun _ => hv, fun h => absurd h (by omega)⟩
  · obtain ⟨h', A, c, e1, e2, e3, e4⟩ := h i hi'
    exact ⟨h', A, c, by rw [List.getElem_set_ne (Ne.symm e)]; exact e1, e2, fun q => e3 (by omega), fun q => e4 (by omega)⟩
end Go.Proofs.YtgojggmjajlbpaaGreatDoor

/- ROWS THAT ARE SORTED: the elements are heads of rows of values. -/
namespace Go.Proofs.YtgojggmjajlbpaaGreatDoor
open Go.RowKit Go.Sort
/-- a head and the values that lie behind it in w, in good blocks -/
def GoodRow (w : World) (ok : Nat → Prop) (p : HeadS × List Val) : Prop := p.1.n = p.2.length ∧ p.2.length ≤ p.1.c ∧ Vals w ok p.1.A p.2
theorem GoodRow.keep {w w' : World} {ok ok' : Nat → Prop} {p : HeadS × List Val} (h : GoodRow w ok p) (hk : ∀ b o x, ok b → w.cell? ⟨b, o, none⟩ = some x → w'.cell? ⟨b, o, none⟩ = some x) (ho : ∀ b, ok b → ok' b) : GoodRow w' ok' p := ⟨h.1, h.2.1, h.2.2.keep hk ho⟩
abbrev RowE (w : World) (ok : Nat → Prop) := {p : HeadS × List Val // GoodRow w ok p}
instance (w : World) (ok : Nat → Prop) : Inhabited (RowE w ok) := ⟨⟨(⟨none, 0, 0⟩, []), rfl, Nat.le_refl _, SliceR.nil _ _ _⟩⟩
section
variable {w : World} {ok : Nat → Prop}
def hdE (x : RowE w ok) : HeadS := x.1.1
def rowE (x : RowE w ok) : List Val := x.1.2
theorem encE (x : RowE w ok) : encS hdE x = .slice (hdE x).A (rowE x).length (hdE x).c := by
  obtain ⟨⟨p, l⟩, h1, h2⟩ := x
  show Value.slice p.A p.n p.c = .slice p.A l.length p.c
  rw [show p.n = l.length from h1]
theorem goodE (x : RowE w ok) : (rowE x).length ≤ (hdE x).c ∧ Vals w ok (hdE x).A (rowE x) := x.2.2
end
theorem Vals.grown {w w' : World} {g : Nat} {ok : Nat → Prop} {A : Option Addr} {l : List Val} (h : Vals w ok A l) (hg : w.grownBy w' (some g)) (hne : ∀ b, ok b → b ≠ g) : Vals w' ok A l :=
  h.keep (fun _ _ _ hb hc => hg.cell hc (fun e => hne _ hb (Option.some.inj e))) (fun _ h => h)
theorem permIn_whole {α : Type} [Inhabited α] {d d' : Array α} (h : PermIn 0 d.size d d') : d'.toList.Perm d.toList := by
  have h1 := h.2.2
  have h2 : d'.extract 0 d.size = d' := by rw [← h.1]; exact Array.extract_size
  rw [h2, Array.extract_size] at h1
  exact h1
theorem swo_of {α : Type} {k : α → α → Int} (ha : ∀ x y, k y x = - k x y) (ht : ∀ x y z, k x y ≤ 0 → k y z ≤ 0 → k x z ≤ 0) : SWO (ltC k) := by
  have hlt : ∀ {x y}, ltC k x y = true ↔ k x y < 0 := fun {x y} => by unfold ltC; exact decide_eq_true_iff
  have hle : ∀ {x y}, ltC k x y = false ↔ k y x ≤ 0 := fun {x y} => by
    unfold ltC; rw [decide_eq_false_iff_not]; have := ha x y; omega
  refine ⟨fun x => ?_, fun x y z h1 h2 => ?_, fun x y z h1 h2 => ?_⟩
  · rw [hle]; have := ha x x; omega
  · rw [hlt] at *
    have := ht x y z (by omega) (by omega)
    have h5 := ha x z
    by_cases h6 : k x z = 0
    · have h7 := ht z x y (by omega) (by omega)
      have h8 := ha y z
      omega
    · omega
  · rw [hle] at *
    exact ht z y x h2 h1
/-- behind the sort: rows in memory -/
theorem SortW.rows {w W : World} {B g cap : Nat} {ok ok' : Nat → Prop} {d : Array (RowE w ok)} (h : SortW w B g cap 24 (encS hdE) d W) (hne : ∀ b, ok b → b ≠ g) (hok : ∀ b, ok b → ok' b) (hg : ok' g) (hm : d.size ≤ 140737488355328) :
    Rows W ok' (some ⟨g, 0, none⟩) (d.toList.map rowE) := by
  refine ⟨by rw [List.length_map, Array.length_toList]; exact hm, fun _ => ⟨g, 0, rfl, fun k hk => ?_⟩⟩
  rw [List.length_map, Array.length_toList] at hk
  have hc := h.cell hk
  rw [getElem!_pos d k hk, encE] at hc
  rw [List.getElem_map, Array.getElem_toList]
  refine ⟨hg, (hdE d[k]).A, (hdE d[k]).c, ?_, (goodE d[k]).1, ((goodE d[k]).2.grown h.gr hne).to hok⟩
  rw [Nat.zero_add, Nat.mul_one]
  exact hc
end Go.Proofs.YtgojggmjajlbpaaGreatDoor

/- THE WALK over value.SortRows. -/
namespace Go.Proofs.YtgojggmjajlbpaaGreatDoor
open Go.RowKit Go.Sort
theorem ZeroAt.grown {w w' : World} {g : Nat} (h : ZeroAt w) (hg : w.grownBy w' (some g)) (hne : 0 ≠ g) : ZeroAt w' :=
  ⟨hg.cell h.1 (fun e => hne (Option.some.inj e)), hg.cell h.2.1 (fun e => hne (Option.some.inj e)), Nat.lt_of_lt_of_le h.2.2 hg.size⟩
end Go.Proofs.YtgojggmjajlbpaaGreatDoor

/- MAPS THAT A CALL OWNS, element by element, elements of any type: what lies at each key. -/
namespace Go.Proofs.YtgojggmjajlbpaaGreatDoor
open Go.RowKit Go.ChangeMaps
open Go.Maps (Keyed has IsMap)
/-- block b is a map of at most n entries; g: what lies at each key -/
def MapOf (P : Program) (k : TypeId) (w : World) (b n : Nat) (g : Lit → Option Value) : Prop :=
  ∃ D : DataW Value, w.ownsMap P k (fun v => some (.held v, [])) b n D ∧ IsMap D ∧ ∀ kl, match g kl with
    | none => has D kl = false
    | some v => has D kl = true ∧ ∀ z, D.atKey kl z = .held v
section
variable {P : Program} {k e t : TypeId} {w w' : World} {b n : Nat} {g : Lit → Option Value}
theorem MapOf.made (P : Program) (k : TypeId) (w : World) : MapOf P k (w.alloc (.map #[] 0)) w.heap.size 0 (fun _ => none) :=
  ⟨.map [], World.ownsMap_made w P k _, Maps.isMap_empty, fun _ => rfl⟩
theorem MapOf.lt (h : MapOf P k w b n g) : b < w.heap.size := let ⟨_, h1, _⟩ := h; h1.lt
theorem MapOf.grown {row : Option Nat} (h : MapOf P k w b n g) (hg : w.grownBy w' row) (hne : some b ≠ row) : MapOf P k w' b n g :=
  let ⟨D, h1, h2, h3⟩ := h
  ⟨D, h1.kept hg hne, h2, h3⟩
theorem MapOf.ext (h : MapOf P k w b n g) (x : Ext w w') : MapOf P k w' b n g :=
  h.grown (row := none) ⟨x.os, x.tape, x.output, x.size, fun i hi _ => x.block i hi⟩ (by simp)
theorem MapOf.mono {n' : Nat} (h : MapOf P k w b n g) (hn : n ≤ n') : MapOf P k w b n' g :=
  let ⟨D, h1, h2, h3⟩ := h
  ⟨D, h1.mono hn, h2, h3⟩
theorem MapOf.look (h : MapOf P k w b n g) (K : Keyed P k) (ht : P.underlying t = some (.map k e)) {z : Value} (hz : (zeroValue e).run P w = .ok z w) {key : Value} {kl : Lit} (hkey : keyOf P k key = some kl) :
    (Instr.lookup t (.map (some b)) key false).run P w = .ok ((g kl).getD z) w := by
  obtain ⟨D, h1, h2, h3⟩ := h
  obtain ⟨v, ps, hrun, hR⟩ := h1.lookup K ht hz (zd := .held z) (zp := []) rfl hkey
  rw [hrun]
  have h4 := h3 kl
  injection hR with hR
  rw [Prod.mk.injEq] at hR
  cases hg : g kl with
  | none =>
    rw [hg] at h4
    rw [Maps.atKey_of_not_has h4] at hR
    injection hR.1 with e1
    rw [e1]; rfl
  | some u =>
    rw [hg] at h4
    rw [h4.2] at hR
    injection hR.1 with e1
    rw [e1]; rfl
theorem MapOf.look_ok (h : MapOf P k w b n g) (K : Keyed P k) (ht : P.underlying t = some (.map k e)) {z : Value} (hz : (zeroValue e).run P w = .ok z w) {key : Value} {kl : Lit} (hkey : keyOf P k key = some kl) :
    (Instr.lookup t (.map (some b)) key true).run P w = .ok (.tuple #[(g kl).getD z, .bool (g kl).isSome]) w := by
  obtain ⟨D, h1, h2, h3⟩ := h
  obtain ⟨v, ps, hrun, hR⟩ := h1.look_ok K ht hz (zd := .held z) (zp := []) rfl hkey
  rw [hrun]
  have h4 := h3 kl
  injection hR with hR
  rw [Prod.mk.injEq] at hR
  cases hg : g kl with
  | none =>
    rw [hg] at h4
    rw [Maps.atKey_of_not_has h4] at hR
    injection hR.1 with e1
    rw [e1, h4]; rfl
  | some u =>
    rw [hg] at h4
    rw [h4.2] at hR
    injection hR.1 with e1
    rw [e1, h4.1]; rfl
open Classical in
noncomputable def putM (g : Lit → Option Value) (kl : Lit) (v : Value) : Lit → Option Value := fun x => if x = kl then some v else g x
theorem putM_same (g : Lit → Option Value) (kl : Lit) (v : Value) : putM g kl v kl = some v := by unfold putM; rw [if_pos rfl]
theorem putM_other (g : Lit → Option Value) {kl x : Lit} (v : Value) (h : x ≠ kl) : putM g kl v x = g x := by unfold putM; rw [if_neg h]
theorem MapOf.put (h : MapOf P k w b n g) (K : Keyed P k) (ht : P.underlying t = some (.map k e)) (hn : n < maxLen) {key : Value} {kl : Lit} (hkey : keyOf P k key = some kl) (val : Value) :
    ∃ w', (Instr.mapUpdate t (.map (some b)) key val).run P w = .ok () w' ∧ MapOf P k w' b (n + 1) (putM g kl val) ∧ w.grownBy w' (some b) := by
  obtain ⟨D, h1, h2, h3⟩ := h
  obtain ⟨w', r0, r1, r2⟩ := h1.update K ht hn hkey (val := val) (d := .held val) (ps := []) rfl
  refine ⟨w', r0, ⟨_, r1, h2.put _ _, fun x => ?_⟩, r2⟩
  by_cases hx : x = kl
  · subst hx
    rw [putM_same]
    exact ⟨Maps.has_put_same h2 (K.key hkey) _, fun z => Maps.atKey_put_same h2 (K.key hkey) _ z⟩
  · rw [putM_other _ _ hx]
    have h4 := h3 x
    cases hg : g x with
    | none => rw [hg] at h4; exact (Maps.has_put_other hx _).trans h4
    | some u => rw [hg] at h4; exact ⟨(Maps.has_put_other hx _).trans h4.1, fun z => (Maps.atKey_put_other hx _ z).trans (h4.2 z)⟩
end
theorem wpList_put {P : Program} {w : World} {ops : Array Oper} {rest : List Oper} {o : Oper} {a : Act} {Q : Exit → Act → World → Prop} (hg : o.guard = none) (m x v : Operand) (t : TypeId) (hop : o.op = Op.mapUpdate t m x v)
    {k e : TypeId} (K : Keyed P k) (ht : P.underlying t = some (.map k e)) (b n : Nat) (g : Lit → Option Value) (hm : a.eval m = .map (some b)) (hown : MapOf P k w b n g) (hn : n < maxLen) (key val : Value) (kl : Lit) (hx : a.eval x = key) (hv : a.eval v = val) (hkey : keyOf P k key = some kl)
    (hK : ∀ w', MapOf P k w' b (n + 1) (putM g kl val) → w.grownBy w' (some b) → wpList P ops Q rest (a.put o.dst undef) w') : wpList P ops Q (o :: rest) a w := by
  refine wpList_plain hg fun K' hK' => ?_
  obtain ⟨w', hrun, r1, r2⟩ := hown.put K ht hn hkey val
  unfold Oper.wp
  simp [execOp, hop, hm, hx, hv, hrun, Result.andThen]
  exact hK' _ _ (hK w' r1 r2)
end Go.Proofs.YtgojggmjajlbpaaGreatDoor

/- THE WALKS over zset's predicates and compare; the library's sort over bags; lookups in a map of the call's own. -/
namespace Go.Proofs.YtgojggmjajlbpaaGreatDoor
open Go.RowKit Go.Sort
open Go.Maps (Keyed)
theorem ret_b {a b : Bool} (h : a = b) : Ending.returned (.bool a) = .returned (.bool b) := by rw [h]
theorem z_pred0 : PredZ 38 (fun x => x.2 == 0) := fun W x => by
  unfold agS
  go_enter Tryz.func38, Tryz.ntmps38
  go_wp2_with fail
  go_ret
  exact ⟨rfl, (by repeat (first | with_reducible exact Ext.refl _ | with_reducible assumption | with_reducible refine Ext.drew ?_ | with_reducible refine Ext.drewN ?_ _ | with_reducible refine Ext.alloc ?_ _ | (with_reducible refine Ext.setCell ?_ (by first | omega | (simp; done) | (simp; omega)) _)))⟩
theorem z_pred1 : PredZ 41 (fun x => decide (x.2 < 0)) := fun W x => by
  unfold agS
  go_enter Tryz.func41, Tryz.ntmps41
  go_wp2_with fail
  go_ret
  exact ⟨rfl, (by repeat (first | with_reducible exact Ext.refl _ | with_reducible assumption | with_reducible refine Ext.drew ?_ | with_reducible refine Ext.drewN ?_ _ | with_reducible refine Ext.alloc ?_ _ | (with_reducible refine Ext.setCell ?_ (by first | omega | (simp; done) | (simp; omega)) _)))⟩
theorem z_cmp (x y : HSg) (ok ok' : Nat → Prop) (W : World) (hz : ZeroAt W) (hx : Vals W ok x.A x.x.1) (hy : Vals W ok' y.A y.x.1) : Calls Tryz.prog 40 #[agS x, agS y] W fun e w' => e = .returned (.int .i64 (ordL x.x.1 y.x.1)) ∧ Ext W w' := by
  unfold agS
  have HC := Lib.hid (fun V (e : Ext W V) => v_OrderRows x.x.1 y.x.1 ok ok' x.A y.A x.c y.c V (hz.ext e) (hx.ext e) (hy.ext e))
  clear hz hx hy
  go_enter Tryz.func40, Tryz.ntmps40
  go_wp2_with (go_at_call 35; ((with_reducible refine (HC.out _ (by repeat (first | with_reducible exact Ext.refl _ | with_reducible assumption | with_reducible refine Ext.drew ?_ | with_reducible refine Ext.drewN ?_ _ | with_reducible refine Ext.alloc ?_ _ | (with_reducible refine Ext.setCell ?_ (by first | omega | (simp; done) | (simp; omega)) _)))).mono ?_); rintro e w6 ⟨rfl, hx6⟩))
  go_ret
  exact ⟨rfl, Ext.trans (by repeat (first | with_reducible exact Ext.refl _ | with_reducible assumption | with_reducible refine Ext.drew ?_ | with_reducible refine Ext.drewN ?_ _ | with_reducible refine Ext.alloc ?_ _ | (with_reducible refine Ext.setCell ?_ (by first | omega | (simp; done) | (simp; omega)) _))) hx6⟩
theorem eg_of {f : Nat} {fn : Func} {c : Code} (hf : Tryz.prog.funcs[f]? = some fn) (hname : (fn.name == "runtime.NumGoroutine") = false) (hb : fn.body = some c) : ∀ args w, (callFunc f args).run Tryz.prog w = .ok (.enter f args) w := run_enter hf hname hb
theorem eg_p0 : ∀ args w, (callFunc 38 args).run Tryz.prog w = .ok (.enter 38 args) w := eg_of Tryz.func38 (by kernel_rfl) rfl
theorem eg_p1 : ∀ args w, (callFunc 41 args).run Tryz.prog w = .ok (.enter 41 args) w := eg_of Tryz.func41 (by kernel_rfl) rfl
theorem eg_c : ∀ args w, (callFunc 40 args).run Tryz.prog w = .ok (.enter 40 args) w := eg_of Tryz.func40 (by kernel_rfl) rfl
theorem swo_row : SWO (ltOf (fun x y : HSg => ordL x.x.1 y.x.1)) := by
  refine ⟨fun x => ?_, fun x y z h1 h2 => ?_, fun x y z h1 h2 => ?_⟩
  · show decide (ordL x.x.1 x.x.1 < 0) = false
    rw [ordL_self]; rfl
  · have h1' : ordL x.x.1 y.x.1 < 0 := of_decide_eq_true h1
    have h2' : ordL y.x.1 z.x.1 < 0 := of_decide_eq_true h2
    exact decide_eq_true (ordL_lt h1' (Int.le_of_lt h2'))
  · have h1' : ¬ ordL x.x.1 y.x.1 < 0 := of_decide_eq_false h1
    have h2' : ¬ ordL y.x.1 z.x.1 < 0 := of_decide_eq_false h2
    refine decide_eq_false (fun (h3 : ordL x.x.1 z.x.1 < 0) => ?_)
    have a1 := ordL_anti x.x.1 y.x.1
    have a2 := ordL_anti y.x.1 z.x.1
    have a3 := ordL_anti x.x.1 z.x.1
    have := TotC.row.trans z.x.1 y.x.1 x.x.1 (by omega) (by omega)
    omega
theorem sort_sg (hs : List HSg) (base : Nat) (ok0 : Nat → Prop) (g cap : Nat) (w : World) (h : OwnZ w base ok0 (.slice (some ⟨g, 0, none⟩) hs.length cap) hs) (hl : hs.length ≤ 8000000) (hz : ZeroAt w) (hzg : 0 ≠ g) :
    Calls Tryz.prog 39 #[.slice (some ⟨g, 0, none⟩) hs.length cap, .func (.func 40) #[] #[]] w fun r w' => r = .returned (.tuple #[]) ∧ ∃ hs' : List HSg, hs'.Perm hs ∧ hs'.Pairwise (fun x y => ordL x.x.1 y.x.1 ≤ 0) ∧ OwnZ w' base ok0 (.slice (some ⟨g, 0, none⟩) hs.length cap) hs' ∧ w.grownBy w' (some g) := by
  have H := own_sort (P := Tryz.prog) (K := KSg) Tryz.laysSortSg Tryz.isAgg38 Tryz.sizeOf38 ⟨none, 0, ([], 0)⟩ (fun _ _ => ⟨Nat.le_refl _, SliceR.nil _ _ _⟩) (fun x y => ordL x.x.1 y.x.1) swo_row 40 w base ok0 g cap hs h hl eg_c (fun W x y hg hx hy => z_cmp x y _ _ W (hz.grown hg hzg) hx.2 hy.2)
  refine (show Calls Tryz.prog 39 _ w _ from H).mono ?_
  rintro r w' ⟨rfl, hs', hp, hpw, hO, hG⟩
  exact ⟨rfl, hs', hp, hpw.imp (fun {x y} h => by have := ordL_anti x.x.1 y.x.1; omega), hO, hG⟩
theorem wpList_lookok {P : Program} {w : World} {ops : Array Oper} {rest : List Oper} {o : Oper} {a : Act} {Q : Exit → Act → World → Prop} (hg : o.guard = none) (m x : Operand) (t : TypeId) (hop : o.op = Op.lookup t m x true)
    {k e : TypeId} (K : Keyed P k) (ht : P.underlying t = some (.map k e)) {z : Value} (hz : (zeroValue e).run P w = .ok z w) (b n : Nat) (g : Lit → Option Value) (hm : a.eval m = .map (some b)) (hown : MapOf P k w b n g) (key : Value) (kl : Lit) (hx : a.eval x = key) (hkey : keyOf P k key = some kl)
    (hK : wpList P ops Q rest (a.put o.dst (.tuple #[(g kl).getD z, .bool (g kl).isSome])) w) : wpList P ops Q (o :: rest) a w := by
  refine wpList_plain hg fun K' hK' => ?_
  have hrun := hown.look_ok K ht hz hkey
  unfold Oper.wp
  simp [execOp, hop, hm, hx, hrun, Result.andThen]
  exact hK' _ _ hK
theorem key_row (r : List Val) (h : (keyT r).length ≤ 30000000) : keyOf Tryz.prog 9 (.string ⟨(keyT r).toArray⟩) = some (.string (keyT r)) := by
  have := WideMaps.keyOf_string_mk (P := Tryz.prog) (s := ⟨(keyT r).toArray⟩) Tryz.underlying9 (by show (keyT r).toArray.size ≤ maxLen; unfold maxLen; simp; omega)
  exact this
/-- the map tells where a row has been collected -/
def IdxM (gf : Lit → Option Value) (acc : List Sg) : Prop := ∀ r : List Val, gf (.string (keyT r)) = (findZ r acc).map (fun i => .int .i64 (i : Int))
theorem IdxM.nil : IdxM (fun _ => none) [] := fun _ => rfl
theorem IdxM.bump {gf : Lit → Option Value} {acc : List Sg} (h : IdxM gf acc) (i : Nat) (n : Int) : IdxM gf (bumpZ i n acc) := fun r => by rw [h r, findZ_map (bumpZ_fst i n acc).symm]
theorem IdxM.new {gf : Lit → Option Value} {acc : List Sg} (h : IdxM gf acc) (x : Sg) (hf : findZ x.1 acc = none) : IdxM (putM gf (.string (keyT x.1)) (.int .i64 (acc.length : Int))) (acc ++ [x]) := fun r => by
  by_cases he : x.1 = r
  · subst he
    rw [putM_same, findZ_snoc hf x rfl]; rfl
  · rw [putM_other _ _ (fun e => he (keyT_inj (by injection e with e; exact e.symm))), findZ_snoc_ne x he, h r]
end Go.Proofs.YtgojggmjajlbpaaGreatDoor

/- THE WALK over zset.key: the text that names a row. -/
namespace Go.Proofs.YtgojggmjajlbpaaGreatDoor
open Go.RowKit
/-- the table that Itoa reads -/
def TabW (w : World) : Prop := Lib.TabIs Tryz.prog w "internal/strconv.uint64pow10" .u64 Lib.pow10Tab
theorem var_ext {w w' : World} {n : String} {cs : Array Value} (hb : Ext w w') (h : w.var? Tryz.prog n = some cs) : w'.var? Tryz.prog n = some cs := by
  unfold World.var? at h ⊢
  obtain ⟨g, hg, h⟩ := Option.bind_eq_some_iff.1 h
  rw [hg]
  have hlt : g < w.heap.size := by
    rcases Nat.lt_or_ge g w.heap.size with k | k
    · exact k
    · rw [Array.getElem?_eq_none k] at h; cases h
  show (match w'.heap[g]? with | some (.cells cs _ _) => some cs | _ => none) = some cs
  rw [hb.block g hlt]; exact h
theorem TabW.ext {w w' : World} (h : TabW w) (e : Ext w w') : TabW w' := var_ext e h
theorem z_Itoa (n : Int) (w : World) (hw : TabW w) (h : inW n) (S : ByteArray) (hS : S = ⟨(Lib.itoa n).toArray⟩) : Calls Tryz.prog 49 #[.int .i64 n] w fun e w' => e = .returned (.string S) ∧ Ext w w' := by
  subst hS
  refine (Tryz.strconv_Itoa n h.1 h.2 w hw).mono ?_
  rintro e w' ⟨rfl, k, os, rfl⟩
  exact ⟨rfl, Lib.below_grow w.heap.size w (Nat.le_refl _) k os⟩
theorem toL_app (a b : ByteArray) : (a ++ b).data.toList = a.data.toList ++ b.data.toList := by simp
theorem size_toL (a : ByteArray) : a.data.toList.length = a.size := Array.length_toList
theorem str_of {a : ByteArray} {l : List UInt8} (h : a.data.toList = l) : a = ⟨l.toArray⟩ := by
  apply ByteArray.ext
  apply Array.toList_inj.1
  simpa using h
theorem rgL_take {l : List Val} (h : rgL l) : ∀ k, rgL (l.take k) := by
  induction l with
  | nil => intro k; simp [rgL]
  | cons x l ih =>
    intro k
    obtain ⟨h1, h2⟩ := rgL_cons.1 h
    cases k with
    | zero => simp [rgL]
    | succ k => rw [List.take_succ_cons]; exact rgL_cons.2 ⟨h1, ih h2 k⟩
theorem keyB_take {l : List Val} {k : Nat} (h : k < l.length) : keyB (l.take (k + 1)) = keyB (l.take k) ++ keyB [l[k]!] := by
  rw [List.take_add_one, List.getElem?_eq_getElem h, Option.toList_some, keyB_snoc, getV h]
set_option maxRecDepth 100000 in
set_option maxHeartbeats 3200000 in
theorem z_keyStep (l : List Val) (ok : Nat → Prop) (A : Option Addr) (c : Nat) (w : World) (hw : TabW w) (hv : Vals w ok A l) (hr : rgL l) (hk0 : bkL l ≤ 1048576)
    (ih : ∀ x ∈ l, ∀ (Ax : Option Addr) (cx : Nat) (W : World), TabW W → Vals W ok Ax x.l → Calls Tryz.prog 36 #[.slice Ax x.l.length cx] W fun e W' => e = .returned (.string ⟨(keyT x.l).toArray⟩) ∧ Ext W W') :
    Calls Tryz.prog 36 #[.slice A l.length c] w fun e w' => e = .returned (.string ⟨(keyT l).toArray⟩) ∧ Ext w w' := by
  have hm := hv.len
  have hlb := bkL_len l
  have hln : inW (l.length : Int) := by unfold inW; omega
  have HV := Lib.hid hv
  have HI := Lib.hid ih
  have HW := Lib.hid hw
  have HR := Lib.hid hr
  have HB := Lib.hid hk0
  obtain ⟨S0, hS0⟩ : ∃ S : ByteArray, S = ⟨(Lib.itoa (l.length : Int)).toArray⟩ := ⟨_, rfl⟩
  have HS0 := Lib.hid hS0
  have L0 : S0.size ≤ 21 := by
    have := itoa_len21 hln
    rw [← size_toL, hS0]; exact this
  have HC0 := Lib.hid (z_Itoa (l.length : Int) w hw hln S0 hS0)
  have n0 : ¬ 9223372036854775807 < S0.size + 1 := by omega
  clear hv ih hw hr hS0
  go_enter Tryz.func36, Tryz.ntmps36
  go_upto_region 2 with (go_at_call 49; ((with_reducible refine (HC0.out).mono ?_); rintro e w0 ⟨rfl, hx0⟩))
  clear n0 HC0
  have HE0 := Lib.hid (show (S0 ++ ⟨#[91]⟩ : ByteArray).data.toList = Lib.itoa (l.length : Int) ++ 91 :: keyB (l.take 0) by rw [toL_app, HS0.out]; simp [keyB])
  have HZ0 := Lib.hid (show (S0 ++ ⟨#[91]⟩ : ByteArray).size ≤ 30000000 by rw [ByteArray.size_append]; have : (⟨#[91]⟩ : ByteArray).size = 1 := rfl; omega)
  go_wp2_with fail
  go_loopw [3, 12] (fun s u W => ∃ (k : Nat) (a : ByteArray), s = .string a ∧ u = .int .i64 k ∧ k ≤ l.length ∧ Hid (a.data.toList = Lib.itoa (l.length : Int) ++ 91 :: keyB (l.take k)) ∧ Hid (a.size ≤ 30000000) ∧ Ext w W) (fun _ u _ => l.length - (intOf u).toNat)
  case atStart => exact ⟨0, _, rfl, rfl, Nat.zero_le _, HE0.out, HZ0.out, hx0⟩
  case round =>
    obtain ⟨k, a, rfl, rfl, hk, hda, hsa, hE⟩ := hrel
    have hsz := hsa.out
    by_cases hlt : k < l.length
    · obtain ⟨b, o, rfl, A', c', hv5, -, hl5⟩ := HV.out.at5 hlt
      obtain ⟨d0, d1, d2, d3, d4⟩ := hv5.ext hE
      obtain ⟨g, w1, hg, hw1, h6, hx, -⟩ := box_val wr l[k]! A' c' 56
      obtain ⟨p0, p1, p2, p3, p4⟩ := h6
      have HW1 := Lib.hid hw1
      have HG := Lib.hid hg
      have hmem : l[k]! ∈ l := by rw [getV hlt]; exact List.getElem_mem hlt
      have hrv := rgL_mem hmem HR.out
      have hbv := Nat.le_trans (bkL_mem hmem) HB.out
      have HC := Lib.hid (fun W (e : Ext w1 W) => HI.out l[k]! hmem A' c' W (HW.out.ext ((hE.trans hx).trans e)) (hl5.ext ((hE.trans hx).trans e)))
      have HKT := Lib.hid (keyB_take hlt)
      have HLN := Lib.hid (Nat.le_trans (keyB_len (l.take (k + 1)) (rgL_take HR.out _) (Nat.le_trans (bkL_take l _) HB.out)) (Nat.mul_le_mul_left 20 (Nat.le_trans (bkL_take l (k + 1)) HB.out)))
      have hkl := keyT_len hrv.2.2.2 (by unfold bkV at hbv; omega)
      clear hv5 hl5 hw1 hg hmem
      generalize l[k]! = x at *
      have j1 := itoa_len21 hrv.1
      have j2 := itoa_len21 hrv.2.1
      have j3 := itoa_len21 hrv.2.2.1
      have hzs : inW (x.s.size : Int) := by unfold bkV at hbv; unfold inW; omega
      have j4 := itoa_len21 hzs
      obtain ⟨S1, hS1⟩ : ∃ S : ByteArray, S = ⟨(Lib.itoa x.kind).toArray⟩ := ⟨_, rfl⟩
      obtain ⟨S2, hS2⟩ : ∃ S : ByteArray, S = ⟨(Lib.itoa x.n).toArray⟩ := ⟨_, rfl⟩
      obtain ⟨S3, hS3⟩ : ∃ S : ByteArray, S = ⟨(Lib.itoa x.d).toArray⟩ := ⟨_, rfl⟩
      obtain ⟨S4, hS4⟩ : ∃ S : ByteArray, S = ⟨(Lib.itoa (x.s.size : Int)).toArray⟩ := ⟨_, rfl⟩
      obtain ⟨S5, hS5⟩ : ∃ S : ByteArray, S = ⟨(keyT x.l).toArray⟩ := ⟨_, rfl⟩
      have HC1 := Lib.hid (fun W (e : Ext w W) => z_Itoa x.kind W (HW.out.ext e) hrv.1 S1 hS1)
      have HC2 := Lib.hid (fun W (e : Ext w W) => z_Itoa x.n W (HW.out.ext e) hrv.2.1 S2 hS2)
      have HC3 := Lib.hid (fun W (e : Ext w W) => z_Itoa x.d W (HW.out.ext e) hrv.2.2.1 S3 hS3)
      have HC4 := Lib.hid (fun W (e : Ext w W) => z_Itoa (x.s.size : Int) W (HW.out.ext e) hzs S4 hS4)
      have HC5 := Lib.hid (fun W (e : Ext w1 W) => (show Calls Tryz.prog 36 #[.slice A' x.l.length c'] W fun e W' => e = .returned (.string S5) ∧ Ext W W' by rw [hS5]; exact HC.out W e))
      have l1 : S1.size ≤ 21 := by rw [← size_toL, hS1]; exact j1
      have l2 : S2.size ≤ 21 := by rw [← size_toL, hS2]; exact j2
      have l3 : S3.size ≤ 21 := by rw [← size_toL, hS3]; exact j3
      have l4 : S4.size ≤ 21 := by rw [← size_toL, hS4]; exact j4
      have l5 : S5.size ≤ 30000000 := by rw [← size_toL, hS5]; show (keyT x.l).length ≤ _; unfold bkV at hbv; omega
      have l6 : x.s.size ≤ 1048576 := by unfold bkV at hbv; omega
      have HD := Lib.hid (show (a ++ (S1 ++ ⟨#[44]⟩ ++ S2 ++ ⟨#[44]⟩ ++ S3 ++ ⟨#[44]⟩ ++ S4 ++ ⟨#[58]⟩ ++ x.s ++ S5) : ByteArray).data.toList = Lib.itoa (l.length : Int) ++ 91 :: keyB (l.take (k + 1)) by
        rw [HKT.out, keyB_cons]
        simp only [toL_app, hda.out, hS1, hS2, hS3, hS4, hS5]
        simp [keyB])
      have HZ := Lib.hid (show (a ++ (S1 ++ ⟨#[44]⟩ ++ S2 ++ ⟨#[44]⟩ ++ S3 ++ ⟨#[44]⟩ ++ S4 ++ ⟨#[58]⟩ ++ x.s ++ S5) : ByteArray).size ≤ 30000000 by
        rw [← size_toL, HD.out]
        have h1 := HLN.out
        have h2 := itoa_len21 hln
        simp only [List.length_append, List.length_cons]
        omega)
      have n1 : ¬ 9223372036854775807 < S1.size + 1 := by omega
      have n2 : ¬ 9223372036854775807 < S1.size + 1 + S2.size := by omega
      have n3 : ¬ 9223372036854775807 < S1.size + 1 + S2.size + 1 := by omega
      have n4 : ¬ 9223372036854775807 < S1.size + 1 + S2.size + 1 + S3.size := by omega
      have n5 : ¬ 9223372036854775807 < S1.size + 1 + S2.size + 1 + S3.size + 1 := by omega
      have n6 : ¬ 9223372036854775807 < S1.size + 1 + S2.size + 1 + S3.size + 1 + S4.size := by omega
      have n7 : ¬ 9223372036854775807 < S1.size + 1 + S2.size + 1 + S3.size + 1 + S4.size + 1 := by omega
      have n8 : ¬ 9223372036854775807 < S1.size + 1 + S2.size + 1 + S3.size + 1 + S4.size + 1 + x.s.size := by omega
      have n9 : ¬ 9223372036854775807 < S1.size + 1 + S2.size + 1 + S3.size + 1 + S4.size + 1 + x.s.size + S5.size := by omega
      have n10 : ¬ 9223372036854775807 < a.size + (S1.size + 1 + S2.size + 1 + S3.size + 1 + S4.size + 1 + x.s.size + S5.size) := by omega
      clear hrv hbv hkl j1 j2 j3 j4 l1 l2 l3 l4 l5 l6 hS1 hS2 hS3 hS4 hS5 hzs HC HKT HLN hda hsa hsz
      go_upto_region 5 with (fail)
      rw [← HW1.out, ← HG.out]
      have hE1 := hE.trans hx
      clear HW1 HG d0 d1 d2 d3 d4 hx hE
      (have MKR1 := Lib.hid (fun V (e : Ext w1 V) => (⟨e.cell p0, e.cell p1, e.cell p2, e.cell p3, e.cell p4, e⟩ : V.cell? ⟨g, 0, none⟩ = some (.int .i64 x.kind) ∧ V.cell? ⟨g, 0 + 1, none⟩ = some (.int .i64 x.n) ∧ V.cell? ⟨g, 0 + 2, none⟩ = some (.int .i64 x.d) ∧ V.cell? ⟨g, 0 + 3, none⟩ = some (.string x.s) ∧ V.cell? ⟨g, 0 + 4, none⟩ = some (.slice A' x.l.length c') ∧ Ext w1 V)); go_region_held3 (fun V => V.cell? ⟨g, 0, none⟩ = some (.int .i64 x.kind) ∧ V.cell? ⟨g, 0 + 1, none⟩ = some (.int .i64 x.n) ∧ V.cell? ⟨g, 0 + 2, none⟩ = some (.int .i64 x.d) ∧ V.cell? ⟨g, 0 + 3, none⟩ = some (.string x.s) ∧ V.cell? ⟨g, 0 + 4, none⟩ = some (.slice A' x.l.length c') ∧ Ext w1 V) ((exact MKR1.out _ (by with_reducible repeat (first | exact Ext.refl _ | assumption | refine Ext.drew ?_ | refine Ext.drewN ?_ _ | refine Ext.alloc ?_ _)))) ((first | (go_at_call 49; first | ((with_reducible refine (HC1.out _ (hE1.trans (by with_reducible repeat (first | exact Ext.refl _ | assumption | refine Ext.drew ?_ | refine Ext.drewN ?_ _ | refine Ext.alloc ?_ _)))).mono ?_); rintro e w2 ⟨rfl, hx2⟩; replace hx2 : Ext w1 w2 := Ext.trans (by with_reducible repeat (first | exact Ext.refl _ | assumption | refine Ext.drew ?_ | refine Ext.drewN ?_ _ | refine Ext.alloc ?_ _)) hx2) | ((with_reducible refine (HC2.out _ (hE1.trans (by with_reducible repeat (first | exact Ext.refl _ | assumption | refine Ext.drew ?_ | refine Ext.drewN ?_ _ | refine Ext.alloc ?_ _)))).mono ?_); rintro e w3 ⟨rfl, hx3⟩; replace hx3 : Ext w1 w3 := Ext.trans (by with_reducible repeat (first | exact Ext.refl _ | assumption | refine Ext.drew ?_ | refine Ext.drewN ?_ _ | refine Ext.alloc ?_ _)) hx3) | ((with_reducible refine (HC3.out _ (hE1.trans (by with_reducible repeat (first | exact Ext.refl _ | assumption | refine Ext.drew ?_ | refine Ext.drewN ?_ _ | refine Ext.alloc ?_ _)))).mono ?_); rintro e w4 ⟨rfl, hx4⟩; replace hx4 : Ext w1 w4 := Ext.trans (by with_reducible repeat (first | exact Ext.refl _ | assumption | refine Ext.drew ?_ | refine Ext.drewN ?_ _ | refine Ext.alloc ?_ _)) hx4) | ((with_reducible refine (HC4.out _ (hE1.trans (by with_reducible repeat (first | exact Ext.refl _ | assumption | refine Ext.drew ?_ | refine Ext.drewN ?_ _ | refine Ext.alloc ?_ _)))).mono ?_); rintro e w5 ⟨rfl, hx5⟩; replace hx5 : Ext w1 w5 := Ext.trans (by with_reducible repeat (first | exact Ext.refl _ | assumption | refine Ext.drew ?_ | refine Ext.drewN ?_ _ | refine Ext.alloc ?_ _)) hx5)) | (go_at_call 36; ((with_reducible refine (HC5.out _ (by with_reducible repeat (first | exact Ext.refl _ | assumption | refine Ext.drew ?_ | refine Ext.drewN ?_ _ | refine Ext.alloc ?_ _))).mono ?_); rintro e w6 ⟨rfl, hx6⟩; replace hx6 : Ext w1 w6 := Ext.trans (by with_reducible repeat (first | exact Ext.refl _ | assumption | refine Ext.drew ?_ | refine Ext.drewN ?_ _ | refine Ext.alloc ?_ _)) hx6)))); clear MKR1)
      go_wp2_with fail
      go_roundw
      case rel => exact ⟨k + 1, _, rfl, by go_num, by omega, HD.out, HZ.out, hE1.trans (by with_reducible repeat (first | exact Ext.refl _ | assumption | refine Ext.drew ?_ | refine Ext.drewN ?_ _ | refine Ext.alloc ?_ _))⟩
      case measure => simp [intOf]; omega
    · have hk' : k = l.length := by omega
      have HF := Lib.hid (show (a ++ ⟨#[93]⟩ : ByteArray) = ⟨(keyT l).toArray⟩ by
        refine str_of ?_
        rw [toL_app, hda.out, hk', List.take_length]; unfold keyT; simp)
      have n1 : ¬ 9223372036854775807 < a.size + 1 := by omega
      go_wp2_with fail
      go_ret
      exact ⟨congrArg (fun z => Ending.returned (.string z)) HF.out, hE⟩
theorem z_keyN : ∀ (N : Nat) (l : List Val) (ok : Nat → Prop) (A : Option Addr) (c : Nat) (w : World), wtL l ≤ N → TabW w → Vals w ok A l → rgL l → bkL l ≤ 1048576 →
    Calls Tryz.prog 36 #[.slice A l.length c] w fun e w' => e = .returned (.string ⟨(keyT l).toArray⟩) ∧ Ext w w'
  | 0, l, ok, A, c, w, hN, hw, hv, hr, hb => z_keyStep l ok A c w hw hv hr hb (fun x hx => by have := wtL_kids hx; omega)
  | N + 1, l, ok, A, c, w, hN, hw, hv, hr, hb => z_keyStep l ok A c w hw hv hr hb (fun x hx Ax cx W hW hx' => by
    have h1 := wtL_kids hx
    have h2 := bkL_mem hx
    exact z_keyN N x.l ok Ax cx W (by omega) hW hx' (rgL_mem hx hr).2.2.2 (by unfold bkV at h2; omega))
theorem z_key (l : List Val) (ok : Nat → Prop) (A : Option Addr) (c : Nat) (w : World) (hw : TabW w) (hv : Vals w ok A l) (hr : rgL l) (hb : bkL l ≤ 1048576) :
    Calls Tryz.prog 36 #[.slice A l.length c] w fun e w' => e = .returned (.string ⟨(keyT l).toArray⟩) ∧ Ext w w' :=
  z_keyN (wtL l) l ok A c w (Nat.le_refl _) hw hv hr hb
end Go.Proofs.YtgojggmjajlbpaaGreatDoor
