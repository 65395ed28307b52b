/- PARTS OF THE WALKS, joined: RkE, RkF, Stage, RkG, RkH. -/
import Derived.Test.YtlkpmbkmmfoakaaDoorV09
import Derived.Test.YtlkpmbkmmfoakaaDoorV00
import Derived.Deep.RegionHeld
/- ONE STEP, plain; the walks over the reference's rest and in. -/
namespace Go.Proofs.YtlkpmbkmmfoakaaDoor
open Go.RowKit
theorem frozen_ext {a b : World} (e : Ext a b) {p : Addr} {v : Value} (hc : a.cell? p = some v) (hf : a.frozen? p = false) : b.frozen? p = false := (frozen_heap (a := a) (e.block _ (block_lt_of_cell hc))).trans hf
def restStep (d : Int → Nat) (a : Option Fr) (x : Sh) : Option Fr := if d x.id = 0 then a.bind (fun s => addO s (x.n, x.d)) else a
/-- the sum of the shares of the nodes that no edge leaves -/
def restO (d : Int → Nat) (l : List Sh) : Option Fr := l.foldl (restStep d) (some (0, 1))
theorem restO_snoc (d : Int → Nat) (l : List Sh) (k : Nat) (h : k < l.length) : restO d (l.take (k + 1)) = restStep d (restO d (l.take k)) l[k]! := by
  unfold restO
  rw [List.take_succ_eq_append_getElem h, List.foldl_append, getElem!_pos l k h]; rfl
theorem restStep_none (d : Int → Nat) (x : Sh) : restStep d none x = none := by unfold restStep; split <;> rfl
theorem restO_none {d : Int → Nat} {l : List Sh} {k : Nat} (h : restO d (l.take k) = none) : restO d l = none := by
  have : ∀ l' : List Sh, l'.foldl (restStep d) none = none := fun l' => by
    induction l' with
    | nil => rfl
    | cons x r ih => rw [List.foldl_cons, restStep_none]; exact ih
  unfold restO at *
  rw [← List.take_append_drop k l, List.foldl_append, h]; exact this _
def restV (d : Int → Nat) (l : List Sh) (n : Int) : Option Fr := (restO d l).bind (fun s => divO s (n, 1))
def inStep (types : List ByteArray) (d : Int → Nat) (l : List Sh) (id : Int) (a : Option Fr) (e : EdgeG) : Option Fr :=
  if e.to_ = id ∧ typB types e.typ = true then a.bind (fun s => (divO (shareOf l e.frm) ((d e.frm : Int), 1)).bind (fun q => addO s q)) else a
/-- what a node gets by its edges -/
def inO (types : List ByteArray) (d : Int → Nat) (l : List Sh) (E : List EdgeG) (id : Int) : Option Fr := E.foldl (inStep types d l id) (some (0, 1))
theorem inO_snoc (types : List ByteArray) (d : Int → Nat) (l : List Sh) (E : List EdgeG) (id : Int) (k : Nat) (h : k < E.length) : inO types d l (E.take (k + 1)) id = inStep types d l id (inO types d l (E.take k) id) E[k]! := by
  unfold inO
  rw [List.take_succ_eq_append_getElem h, List.foldl_append, getElem!_pos E k h]; rfl
theorem inStep_none (types : List ByteArray) (d : Int → Nat) (l : List Sh) (id : Int) (e : EdgeG) : inStep types d l id none e = none := by unfold inStep; split <;> rfl
theorem inO_none {types : List ByteArray} {d : Int → Nat} {l : List Sh} {E : List EdgeG} {id : Int} {k : Nat} (h : inO types d l (E.take k) id = none) : inO types d l E id = none := by
  have : ∀ l' : List EdgeG, l'.foldl (inStep types d l id) none = none := fun l' => by
    induction l' with
    | nil => rfl
    | cons x r ih => rw [List.foldl_cons, inStep_none]; exact ih
  unfold inO at *
  rw [← List.take_append_drop k E, List.foldl_append, h]; exact this _
/-- what a function of a fraction and a Boolean tells -/
def TellsO (V : Option Fr) (w : World) (e : Ending) (w' : World) : Prop := (∃ a b : Int, e = .returned (.tuple #[.agg #[.int .i64 a, .int .i64 b], .bool V.isSome]) ∧ ∀ f, V = some f → f = (a, b)) ∧ Ext w w'
theorem addO_of (a b : Fr) : (addS a.1 a.2 b.1 b.2).2.2 = (addO a b).isSome ∧ ∀ f, addO a b = some f → f = ((addS a.1 a.2 b.1 b.2).1, (addS a.1 a.2 b.1 b.2).2.1) := by
  unfold addO; split <;> simp_all
theorem q3_Add (a b : Fr) (w : World) : Calls Tryd.prog 26 #[.agg #[.int .i64 a.1, .int .i64 a.2], .agg #[.int .i64 b.1, .int .i64 b.2]] w (TellsO (addO a b) w) :=
  (r3_Add a.1 a.2 b.1 b.2 w).mono fun _ _ ⟨h1, h2⟩ => ⟨⟨_, _, by rw [h1, (addO_of a b).1], (addO_of a b).2⟩, of_below h2⟩
end Go.Proofs.YtlkpmbkmmfoakaaDoor

/- THE WALK over the reference's in: what a node gets by its edges. -/
namespace Go.Proofs.YtlkpmbkmmfoakaaDoor
open Go.RowKit
theorem box_frac (w : World) (a b : Int) (t : TypeId) : ∃ (q : Nat) (w1 : World), q = w.heap.size ∧ w1 = w.alloc (.cells #[.int .i64 a, .int .i64 b] t) ∧ w1.cell? ⟨q, 0, none⟩ = some (.int .i64 a) ∧ w1.cell? ⟨q, 1, none⟩ = some (.int .i64 b) ∧ w1.frozen? ⟨q, 0, none⟩ = false ∧ w1.frozen? ⟨q, 1, none⟩ = false ∧ Ext w w1 :=
  ⟨_, _, rfl, rfl, by go_simp, by go_simp, by go_simp, by go_simp, (Ext.refl _).alloc _⟩
end Go.Proofs.YtlkpmbkmmfoakaaDoor

/- A DRAWN REGION THAT READS CELLS FIRST AND WRITES THEM LATER: what the reads need is kept only until operation E comes up. -/
namespace Go.Proofs.YtlkpmbkmmfoakaaDoor
open Go.RowKit
section
variable {P : Program} {ops : Array Oper} {Q : Exit → Act → World → Prop} {md : Region.Mode} {S : World → Prop} {E : Nat}
/-- any order; S holds behind each operation that comes up ahead of E -/
def AnyE (P : Program) (md : Region.Mode) (ops : Array Oper) (Q : Exit → Act → World → Prop) (S : World → Prop) (E : Nat) : Nat → Array Bool → Act → World → Prop
  | 0, l, a, w => Region.ready md ops l = [] ∧ Q .normal a w
  | f + 1, l, a, w => (Region.ready md ops l = [] → Q .normal a w) ∧
    ∀ i ∈ Region.ready md ops l, wpOp P ops Q i (fun a' w' => ((l.setIfInBounds i true).getD E false = false → S w') ∧ AnyE P md ops Q S E f (l.setIfInBounds i true) a' w') a w
theorem AnyE.any : ∀ (f : Nat) (l : Array Bool) (a : Act) (w : World), AnyE P md ops Q S E f l a w → wpAny P md ops Q f l a w
  | 0, _, _, _, h => h
  | f + 1, _, _, _, h => ⟨h.1, fun i hi => wpOp_mono (fun a' w' hk => AnyE.any f _ a' w' hk.2) (h.2 i hi)⟩
theorem AnyE.start {id : Nat} {a : Act} {w : World} (hm : P.follows .mixedOrders = true) (hS : S w.drew) (h : S w.drew → AnyE P .any ops Q S E ops.size (Array.replicate ops.size false) a w.drew) : (Code.region id ops true).wp P Q a w :=
  wp_region_any hm (AnyE.any _ _ _ _ (h hS))
theorem AnyE.done {l : Array Bool} {a : Act} {w : World} (hr : Region.ready md ops l = []) (h : Q .normal a w) : ∀ f, AnyE P md ops Q S E f l a w
  | 0 => ⟨hr, h⟩
  | _ + 1 => ⟨fun _ => h, fun i hi => by rw [hr] at hi; cases hi⟩
/-- does E wait for i -/
def waitsOn (md : Region.Mode) (ops : Array Oper) (E i : Nat) : Bool := match ops[E]? with
  | some o => o.after.any (fun e => Region.binds md e && e.on == i)
  | none => false
theorem AnyE.first {i : Nat} {oi : Oper} {v : Value} (hi : ops[i]? = some oi) (hs : Region.noSelect ops = true) (hQ : ∀ c a w, Q (.panic c) (a.put oi.dst v) w → Q (.panic c) a w) (hE : waitsOn md ops E i = true) (hne : i ≠ E) (hlE : ∀ l : Array Bool, l.getD i true = false → E ∈ Region.ready md ops l → False) :
    ∀ (f : Nat) (l : Array Bool) (a : Act) (w : World), (∀ j oj, ops[j]? = some oj → j ≠ i → l.getD j true = false → (∀ e ∈ oj.after, Region.binds md e = true → e.on ≠ i) → oi.apart ops oj = true) →
      i ∈ Region.ready md ops l → l.getD E false = false → YieldsIf P ops S oi v a → S w → AnyE P md ops Q S E f (l.setIfInBounds i true) (a.put oi.dst v) w → AnyE P md ops Q S E (f + 1) l a w := by
  intro f
  induction f with
  | zero =>
    intro l a w _ hr _ hy hS H
    refine ⟨fun h => absurd hr (by rw [h]; exact List.not_mem_nil), fun j hj => ?_⟩
    rcases Nat.decEq j i with hji | hji
    · have hk := ready_mono hj hji
      rw [H.1] at hk
      exact absurd hk List.not_mem_nil
    · subst hji
      exact hy.wpOp hi hS ⟨fun _ => hS, H⟩
  | succ f ih =>
    intro l a w hfree hr hlf hy hS H
    refine ⟨fun h => absurd hr (by rw [h]; exact List.not_mem_nil), fun j hj => ?_⟩
    rcases Nat.decEq j i with hji | hji
    · have hun := (mem_ready.1 hr).1
      have hjE : j ≠ E := fun e => hlE l hun (e ▸ hj)
      obtain ⟨hjun, oj, hoj, hall⟩ := mem_ready.1 hj
      have hno : ∀ e ∈ oj.after, Region.binds md e = true → e.on ≠ i := fun e he hb heq => by
        have h1 := hall e he hb
        rw [heq] at h1
        rcases Nat.lt_or_ge i l.size with hlt | hge
        · simp [hlt] at hun h1
          exact Bool.noConfusion (hun.symm.trans h1)
        · simp [Array.getElem?_eq_none hge] at h1
      have h2 := wpOp_putIf hoj (hfree j oj hoj hji hjun hno) (fun cs b => Region.noSelect_spec hs i oi cs b hi) (fun cs b => Region.noSelect_spec hs j oj cs b hoj) hQ hy (H.2 j (ready_mono hj hji))
      refine wpOp_mono (fun a' w' hk => ?_) h2
      have hS' : S w' := hk.2.1 (by rw [getD_set_ne false hjE, getD_set_ne false hne]; exact hlf)
      refine ⟨fun _ => hS', ih (l.setIfInBounds j true) a' w' (fun k ok hok hki hunk hnok => ?_) (ready_mono hr (fun e => hji e.symm)) (by rw [getD_set_ne false hjE]; exact hlf) hk.1 hS' ?_⟩
      · refine hfree k ok hok hki ?_ hnok
        rcases Nat.decEq j k with hjk | hjk
        · rw [getD_set_ne true hjk] at hunk; exact hunk
        · subst hjk; exact hjun
      · rw [Array.setIfInBounds_comm _ _ hji]
        exact hk.2.2
    · subst hji
      exact hy.wpOp hi hS ⟨fun _ => hS, H⟩
theorem AnyE.firstP {i : Nat} {oi : Oper} {v : Value} (hi : ops[i]? = some oi) (hs : Region.noSelect ops = true) (hQ : ∀ c a w, Q (.panic c) (a.put oi.dst v) w → Q (.panic c) a w) (hne : i ≠ E) :
    ∀ (f : Nat) (l : Array Bool) (a : Act) (w : World), (∀ j oj, ops[j]? = some oj → j ≠ i → l.getD j true = false → (∀ e ∈ oj.after, Region.binds md e = true → e.on ≠ i) → oi.apart ops oj = true) →
      i ∈ Region.ready md ops l → YieldsIf P ops (fun _ => True) oi v a → (l.getD E false = false → S w) → AnyE P md ops Q S E f (l.setIfInBounds i true) (a.put oi.dst v) w → AnyE P md ops Q S E (f + 1) l a w := by
  intro f
  induction f with
  | zero =>
    intro l a w _ hr hy hS H
    refine ⟨fun h => absurd hr (by rw [h]; exact List.not_mem_nil), fun j hj => ?_⟩
    rcases Nat.decEq j i with hji | hji
    · have hk := ready_mono hj hji
      rw [H.1] at hk
      exact absurd hk List.not_mem_nil
    · subst hji
      exact hy.wpOp hi trivial ⟨fun h => hS (by rw [getD_set_ne false hne] at h; exact h), H⟩
  | succ f ih =>
    intro l a w hfree hr hy hS H
    refine ⟨fun h => absurd hr (by rw [h]; exact List.not_mem_nil), fun j hj => ?_⟩
    rcases Nat.decEq j i with hji | hji
    · have hun := (mem_ready.1 hr).1
      obtain ⟨hjun, oj, hoj, hall⟩ := mem_ready.1 hj
      have hno : ∀ e ∈ oj.after, Region.binds md e = true → e.on ≠ i := fun e he hb heq => by
        have h1 := hall e he hb
        rw [heq] at h1
        rcases Nat.lt_or_ge i l.size with hlt | hge
        · simp [hlt] at hun h1
          exact Bool.noConfusion (hun.symm.trans h1)
        · simp [Array.getElem?_eq_none hge] at h1
      have h2 := wpOp_putIf hoj (hfree j oj hoj hji hjun hno) (fun cs b => Region.noSelect_spec hs i oi cs b hi) (fun cs b => Region.noSelect_spec hs j oj cs b hoj) hQ hy (H.2 j (ready_mono hj hji))
      refine wpOp_mono (fun a' w' hk => ?_) h2
      have hS' : (l.setIfInBounds j true).getD E false = false → S w' := fun h => hk.2.1 (by rw [Array.setIfInBounds_comm _ _ (fun e => hji e.symm), getD_set_ne false hne]; exact h)
      refine ⟨hS', ih (l.setIfInBounds j true) a' w' (fun k ok hok hki hunk hnok => ?_) (ready_mono hr (fun e => hji e.symm)) hk.1 hS' ?_⟩
      · refine hfree k ok hok hki ?_ hnok
        rcases Nat.decEq j k with hjk | hjk
        · rw [getD_set_ne true hjk] at hunk; exact hunk
        · subst hjk; exact hjun
      · rw [Array.setIfInBounds_comm _ _ hji]
        exact hk.2.2
    · subst hji
      exact hy.wpOp hi trivial ⟨fun h => hS (by rw [getD_set_ne false hne] at h; exact h), H⟩
theorem waits_not {i : Nat} (h : waitsOn md ops E i = true) : ∀ l : Array Bool, l.getD i true = false → E ∈ Region.ready md ops l → False := fun l hl hr => by
  obtain ⟨-, o, ho, hall⟩ := mem_ready.1 hr
  unfold waitsOn at h
  rw [ho] at h
  obtain ⟨k, hk, he⟩ := Array.any_eq_true.1 h
  rw [Bool.and_eq_true] at he
  have h1 := hall o.after[k] (Array.getElem_mem hk) he.1
  rw [show o.after[k].on = i by simpa using he.2] at h1
  rcases Nat.lt_or_ge i l.size with hlt | hge
  · simp [hlt] at hl h1
    exact Bool.noConfusion (hl.symm.trans h1)
  · simp [Array.getElem?_eq_none hge] at h1
theorem AnyE.take {i : Nat} {oi : Oper} {v : Value} {f : Nat} {l : Array Bool} {a : Act} {w : World} (hi : ops[i]? = some oi) (hs : Region.noSelect ops = true) (hf : Region.free md ops l i = true) (hr : (Region.ready md ops l).contains i = true)
    (hQ : ∀ c a w, Q (.panic c) (a.put oi.dst v) w → Q (.panic c) a w) (hE : waitsOn md ops E i = true) (hne : (i == E) = false) (hl : l.getD E false = false) (hy : YieldsIf P ops S oi v a) (hS : S w)
    (h : AnyE P md ops Q S E f (l.setIfInBounds i true) (a.put oi.dst v) w) : AnyE P md ops Q S E (f + 1) l a w :=
  AnyE.first hi hs hQ hE (by simpa using hne) (waits_not hE) f l a w (Region.free_spec hi hf) (by simpa using hr) hl hy hS h
theorem AnyE.takeP {i : Nat} {oi : Oper} {v : Value} {f : Nat} {l : Array Bool} {a : Act} {w : World} (hi : ops[i]? = some oi) (hs : Region.noSelect ops = true) (hf : Region.free md ops l i = true) (hr : (Region.ready md ops l).contains i = true)
    (hQ : ∀ c a w, Q (.panic c) (a.put oi.dst v) w → Q (.panic c) a w) (hne : (i == E) = false) (hy : YieldsIf P ops (fun _ => True) oi v a) (hS : l.getD E false = false → S w)
    (h : AnyE P md ops Q S E f (l.setIfInBounds i true) (a.put oi.dst v) w) : AnyE P md ops Q S E (f + 1) l a w :=
  AnyE.firstP hi hs hQ (by simpa using hne) f l a w (Region.free_spec hi hf) (by simpa using hr) hy hS h
/-- each of those that may come up -/
def AllE (P : Program) (md : Region.Mode) (ops : Array Oper) (Q : Exit → Act → World → Prop) (S : World → Prop) (E : Nat) (f : Nat) (l : Array Bool) (a : Act) (w : World) (rs : List Nat) : Prop :=
  ∀ i ∈ rs, wpOp P ops Q i (fun a' w' => ((l.setIfInBounds i true).getD E false = false → S w') ∧ AnyE P md ops Q S E f (l.setIfInBounds i true) a' w') a w
theorem AllE.nil {f : Nat} {l : Array Bool} {a : Act} {w : World} : AllE P md ops Q S E f l a w [] := fun _ h => absurd h List.not_mem_nil
theorem AllE.cons {f : Nat} {l : Array Bool} {a : Act} {w : World} {i : Nat} {o : Oper} {rs : List Nat} (ho : ops[i]? = some o)
    (h : ∀ K : Act → World → Prop, Shut (∀ a w, ((l.setIfInBounds i true).getD E false = false → S w) → (((l.setIfInBounds i true).getD E false = false → S w) → AnyE P md ops Q S E f (l.setIfInBounds i true) a w) → K a w) → if Region.wanted o (yielded ops a.tmps) = true then Oper.wp P o a w K Q else K (a.put o.dst undef) w)
    (hs : AllE P md ops Q S E f l a w rs) : AllE P md ops Q S E f l a w (i :: rs) := fun j hj => by
  rcases List.mem_cons.1 hj with rfl | hj
  · exact wpOp_step ho (fun K hK => h K (fun a w h1 h2 => hK a w ⟨h1, h2 h1⟩))
  · exact hs j hj
theorem AnyE.ready {rs : List Nat} {f : Nat} {l : Array Bool} {a : Act} {w : World} (hr : Region.ready md ops l = rs) (hne : rs ≠ []) (h : AllE P md ops Q S E f l a w rs) : AnyE P md ops Q S E (f + 1) l a w := by
  subst hr
  exact ⟨fun e => absurd e hne, h⟩
end
end Go.Proofs.YtlkpmbkmmfoakaaDoor

/- A STEP, plain; the walk over the reference's Step. -/
namespace Go.Proofs.YtlkpmbkmmfoakaaDoor
open Go.RowKit
def outsStep (f : Sh → Option Sh) (a : Option (List Sh)) (x : Sh) : Option (List Sh) := a.bind (fun O => (f x).map (fun y => O ++ [y]))
def outsO (f : Sh → Option Sh) (l : List Sh) : Option (List Sh) := l.foldl (outsStep f) (some [])
theorem outsO_snoc (f : Sh → Option Sh) (l : List Sh) (k : Nat) (h : k < l.length) : outsO f (l.take (k + 1)) = outsStep f (outsO f (l.take k)) l[k]! := by
  unfold outsO
  rw [List.take_succ_eq_append_getElem h, List.foldl_append, getElem!_pos l k h]; rfl
theorem outsO_none {f : Sh → Option Sh} {l : List Sh} {k : Nat} (h : outsO f (l.take k) = none) : outsO f l = none := by
  have : ∀ l' : List Sh, l'.foldl (outsStep f) none = none := fun l' => by
    induction l' with
    | nil => rfl
    | cons x r ih => rw [List.foldl_cons]; exact ih
  unfold outsO at *
  rw [← List.take_append_drop k l, List.foldl_append, h]; exact this _
/-- what a share becomes -/
def outF (inV : Option Fr) (r b damp : Fr) : Option Fr := inV.bind (fun x => (addO x r).bind (fun y => (mulO damp y).bind (fun z => addO b z)))
/-- a step's shares, where all of them are in range -/
def stepR (types : List ByteArray) (E : List EdgeG) (damp : Fr) (l : List Sh) (nn : Int) : Option (List Sh) :=
  (restV (fun i => degN types E i) l nn).bind (fun r => ((subO (1, 1) damp).bind (fun x => divO x ((l.length : Int), 1))).bind (fun b => outsO (fun s => (outF (inO types (fun i => degN types E i) l E s.id) r b damp).map (fun f => (⟨s.id, f.1, f.2⟩ : Sh))) l))
def stepP (g : GraphG) (types : List ByteArray) (damp : Fr) (l : List Sh) : List Sh × Int :=
  if chkG g = 0 then (if dampB damp && fitsB g l then (if l.length = 0 then ([], 0) else match stepR types g.edges damp l (g.nodes.length : Int) with | some o => (o, 0) | none => ([], 24)) else ([], 1)) else ([], chkG g)
theorem stepP_err {g : GraphG} {types : List ByteArray} {damp : Fr} {l : List Sh} (h : chkG g ≠ 0) : stepP g types damp l = ([], chkG g) := by unfold stepP; rw [if_neg h]
theorem stepP_arg {g : GraphG} {types : List ByteArray} {damp : Fr} {l : List Sh} (h : chkG g = 0) (h1 : (dampB damp && fitsB g l) = false) : stepP g types damp l = ([], 1) := by unfold stepP; rw [if_pos h, h1]; rfl
theorem stepP_nil {g : GraphG} {types : List ByteArray} {damp : Fr} {l : List Sh} (h : chkG g = 0) (h1 : (dampB damp && fitsB g l) = true) (h2 : l.length = 0) : stepP g types damp l = ([], 0) := by unfold stepP; rw [if_pos h, h1, if_pos rfl, if_pos h2]
theorem stepP_on {g : GraphG} {types : List ByteArray} {damp : Fr} {l : List Sh} (h : chkG g = 0) (h1 : (dampB damp && fitsB g l) = true) (h2 : l.length ≠ 0) : stepP g types damp l = match stepR types g.edges damp l (g.nodes.length : Int) with | some o => (o, 0) | none => ([], 24) := by unfold stepP; rw [if_pos h, h1, if_pos rfl, if_neg h2]
def outFn (types : List ByteArray) (E : List EdgeG) (l : List Sh) (r b damp : Fr) : Sh → Option Sh := fun s => (outF (inO types (fun i => degN types E i) l E s.id) r b damp).map (fun f => (⟨s.id, f.1, f.2⟩ : Sh))
theorem outs_next {types : List ByteArray} {E : List EdgeG} {l O : List Sh} {r b damp f : Fr} {k : Nat} (hO : outsO (outFn types E l r b damp) (l.take k) = some O) (hk : k < l.length) (h : outF (inO types (fun i => degN types E i) l E l[k]!.id) r b damp = some f) : outsO (outFn types E l r b damp) (l.take (k + 1)) = some (O ++ [⟨l[k]!.id, f.1, f.2⟩]) := by
  rw [outsO_snoc _ _ _ hk, hO]; unfold outsStep outFn; rw [Option.bind_some, h]; rfl
/-- what a function of shares and an error number tells -/
def ShErr (P : List Sh × Int) (w : World) (e : Ending) (w' : World) : Prop := (∃ A' c', e = .returned (.tuple #[.slice A' P.1.length c', .int .i64 P.2]) ∧ P.1.length ≤ c' ∧ Shares w' (fun b => w.heap.size ≤ b) A' P.1) ∧ Ext w w'
theorem shErr_nil (z : Int) (w w' : World) (h : Ext w w') : ShErr ([], z) w (.returned (.tuple #[.slice none 0 0, .int .i64 z])) w' := ⟨⟨none, 0, rfl, Nat.le_refl _, SliceR.nil _ _ _⟩, h⟩
theorem box_gf (w : World) (A B : Option Addr) (c d : Nat) (g : GraphG) (f : Fr) (t t' : TypeId) : ∃ (q : Nat) (w1 : World), q = w.heap.size ∧ w1 = (w.alloc (.cells #[.slice A g.nodes.length c, .slice B g.edges.length d, .int .i64 g.nn, .int .i64 g.ne] t)).alloc (.cells #[.int .i64 f.1, .int .i64 f.2] t') ∧ w1.cell? ⟨q, 0, none⟩ = some (.slice A g.nodes.length c) ∧ w1.cell? ⟨q, 1, none⟩ = some (.slice B g.edges.length d) ∧ w1.cell? ⟨q, 2, none⟩ = some (.int .i64 g.nn) ∧ w1.cell? ⟨q, 3, none⟩ = some (.int .i64 g.ne) ∧ w1.cell? ⟨q + 1, 0, none⟩ = some (.int .i64 f.1) ∧ w1.cell? ⟨q + 1, 1, none⟩ = some (.int .i64 f.2) ∧ Ext w w1 :=
  ⟨_, _, rfl, rfl, by go_simp, by go_simp, by go_simp, by go_simp, by go_simp, by go_simp, ((Ext.refl _).alloc _).alloc _⟩
end Go.Proofs.YtlkpmbkmmfoakaaDoor

/- WHAT THE PROGRAM'S STEP KEEPS, plain: three maps, a sum, a flag; what they tell of the reference's step. -/
namespace Go.Proofs.YtlkpmbkmmfoakaaDoor
open Go.RowKit
def frV (f : Fr) : Value := .agg #[.int .i64 f.1, .int .i64 f.2]
abbrev lk (i : Int) : Lit := .int .i64 i
theorem lk_ne {i j : Int} (h : i ≠ j) : lk i ≠ lk j := fun e => h (by unfold lk at e; injection e)
def Dist (l : List Sh) : Prop := ∀ i j, i < j → j < l.length → l[i]!.id < l[j]!.id
theorem Dist.ne {l : List Sh} (h : Dist l) {i j : Nat} (hi : i < l.length) (hj : j < l.length) (hne : i ≠ j) : l[i]!.id ≠ l[j]!.id := by
  rcases Nat.lt_or_gt_of_ne hne with h1 | h1
  · have := h i j h1 hj; omega
  · have := h j i h1 hi; omega
theorem Dist.share {l : List Sh} (h : Dist l) {k : Nat} (hk : k < l.length) : shareOf l l[k]!.id = (l[k]!.n, l[k]!.d) :=
  shareOf_at k hk (fun j hj => h.ne (by omega) hk (by omega)) rfl
theorem hasN_ex {l : List NodeG} {i : Int} (h : hasN l i = true) : ∃ j < l.length, l[j]!.id = i := by
  unfold hasN at h
  rw [List.any_eq_true] at h
  obtain ⟨x, hx, he⟩ := h
  obtain ⟨j, hj, rfl⟩ := List.getElem_of_mem hx
  exact ⟨j, hj, by rw [getElem!_pos l j hj]; exact of_decide_eq_true he⟩
theorem chkG_parts {g : GraphG} (h : chkG g = 0) : nodesE g = 0 ∧ edgesE g = 0 := by
  unfold chkG at h
  split at h
  · split at h
    · rename_i h2; exact ⟨h2, h⟩
    · rename_i h2; exact absurd h h2
  · rename_i h1; exact absurd h h1
theorem chkG_nn {g : GraphG} (h : chkG g = 0) : g.nn ≤ 1000001 := by
  unfold chkG at h
  split at h
  · rename_i h1
    unfold headE at h1
    split at h1
    · cases h1
    · split at h1
      · cases h1
      · omega
  · rename_i h1; exact absurd h h1
theorem edge_ends {g : GraphG} (h : chkG g = 0) {k : Nat} (hk : k < g.edges.length) : hasN g.nodes g.edges[k]!.frm = true ∧ hasN g.nodes g.edges[k]!.to_ = true := by
  have h1 := firstE_all (chkG_parts h).2 k hk
  unfold edgeE at h1
  split at h1
  · cases h1
  · split at h1
    · cases h1
    · split at h1
      · rename_i h3; rwa [Bool.and_eq_true] at h3
      · cases h1
theorem dist_of {g : GraphG} {l : List Sh} (h : chkG g = 0) (hf : fitsB g l = true) : Dist l := by
  obtain ⟨h1, h2⟩ := fitsB_iff.1 hf
  intro i j hij hj
  rw [(h2 i (by omega)).1, (h2 j hj).1]
  exact nodes_lt (chkG_parts h).1 hij (by omega)
theorem id_rng {g : GraphG} {l : List Sh} (h : chkG g = 0) (hf : fitsB g l = true) {k : Nat} (hk : k < l.length) : 1 ≤ l[k]!.id ∧ l[k]!.id ≤ 1000001 := by
  obtain ⟨h1, h2⟩ := fitsB_iff.1 hf
  have h3 := nodes_rise (chkG_parts h).1 (i := k) (by omega)
  have h4 := chkG_nn h
  rw [(h2 k hk).1]; omega
theorem ends_of {g : GraphG} {l : List Sh} (h : chkG g = 0) (hf : fitsB g l = true) {k : Nat} (hk : k < g.edges.length) : (∃ j < l.length, l[j]!.id = g.edges[k]!.frm) ∧ (∃ j < l.length, l[j]!.id = g.edges[k]!.to_) := by
  obtain ⟨h1, h2⟩ := fitsB_iff.1 hf
  obtain ⟨h3, h4⟩ := edge_ends h hk
  obtain ⟨j, hj, e⟩ := hasN_ex h3
  obtain ⟨j', hj', e'⟩ := hasN_ex h4
  exact ⟨⟨j, by omega, by rw [(h2 j (by omega)).1]; exact e⟩, ⟨j', by omega, by rw [(h2 j' (by omega)).1]; exact e'⟩⟩
section
variable (types : List ByteArray) (E : List EdgeG) (damp : Fr) (l : List Sh)
abbrev degE : Int → Nat := fun i => degN types E i
abbrev baseO : Option Fr := (subO (1, 1) damp).bind (fun x => divO x ((l.length : Int), 1))
abbrev stepN : Option (List Sh) := stepR types E damp l (l.length : Int)
variable {types E damp l}
theorem stepN_rest (h : restV (degE types E) l (l.length : Int) = none) : stepN types E damp l = none := by unfold stepN stepR; rw [show restV (fun i => degN types E i) l (l.length : Int) = none from h]; rfl
theorem stepN_base (h : baseO damp l = none) : stepN types E damp l = none := by
  unfold stepN stepR
  cases restV (fun i => degN types E i) l (l.length : Int) with
  | none => rfl
  | some r => rw [Option.bind_some, show (subO (1, 1) damp).bind (fun x => divO x ((l.length : Int), 1)) = none from h]; rfl
theorem stepN_on {r b : Fr} (h1 : restV (degE types E) l (l.length : Int) = some r) (h2 : baseO damp l = some b) : stepN types E damp l = outsO (outFn types E l r b damp) l := by
  unfold stepN stepR
  rw [show restV (fun i => degN types E i) l (l.length : Int) = some r from h1, Option.bind_some, show (subO (1, 1) damp).bind (fun x => divO x ((l.length : Int), 1)) = some b from h2, Option.bind_some]; rfl
theorem outs_fail {f : Sh → Option Sh} {k : Nat} (hk : k < l.length) (h : f l[k]! = none) : outsO f l = none := by
  refine outsO_none (k := k + 1) ?_
  rw [outsO_snoc _ _ _ hk]; unfold outsStep
  cases outsO f (l.take k) with
  | none => rfl
  | some O => rw [Option.bind_some, h]; rfl
theorem stepN_in {k : Nat} (hk : k < l.length) (h : inO types (degE types E) l E l[k]!.id = none) : stepN types E damp l = none := by
  cases h1 : restV (degE types E) l (l.length : Int) with
  | none => exact stepN_rest h1
  | some r =>
    cases h2 : baseO damp l with
    | none => exact stepN_base h2
    | some b =>
      rw [stepN_on h1 h2]
      refine outs_fail hk ?_
      unfold outFn outF; rw [show inO types (fun i => degN types E i) l E l[k]!.id = none from h]; rfl
/-- the first loop: shares and noughts -/
def Rel0 (l : List Sh) (k : Nat) (gs gi : Lit → Option Value) : Prop := ∀ j < k, gs (lk l[j]!.id) = some (frV (l[j]!.n, l[j]!.d)) ∧ gi (lk l[j]!.id) = some (frV (0, 1))
theorem Rel0.next {gs gi : Lit → Option Value} {k : Nat} (hd : Dist l) (hk : k < l.length) (h : Rel0 l k gs gi) : Rel0 l (k + 1) (putM gs (lk l[k]!.id) (frV (l[k]!.n, l[k]!.d))) (putM gi (lk l[k]!.id) (frV (0, 1))) := by
  intro j hj
  by_cases e : j = k
  · subst e; exact ⟨putM_same _ _ _, putM_same _ _ _⟩
  · have hne := lk_ne (hd.ne (by omega) hk e)
    rw [putM_other _ _ hne, putM_other _ _ hne]; exact h j (by omega)
/-- the second loop: degrees -/
def Rel2 (types : List ByteArray) (E : List EdgeG) (k : Nat) (gd : Lit → Option Value) : Prop := ∀ i, (gd (lk i)).getD (.int .i64 0) = .int .i64 (degN types (E.take k) i : Int)
theorem Rel2.zero : Rel2 types E 0 (fun _ => none) := fun _ => rfl
theorem Rel2.skip {gd : Lit → Option Value} {k : Nat} (hk : k < E.length) (h : Rel2 types E k gd) (ht : typB types E[k]!.typ = false) : Rel2 types E (k + 1) gd := by
  intro i; rw [degN_snoc _ _ _ _ hk, ht, Bool.and_false]; simpa using h i
theorem Rel2.next {gd : Lit → Option Value} {k : Nat} (hk : k < E.length) (h : Rel2 types E k gd) (ht : typB types E[k]!.typ = true) : Rel2 types E (k + 1) (putM gd (lk E[k]!.frm) (.int .i64 ((degN types (E.take k) E[k]!.frm : Int) + 1))) := by
  intro i
  rw [degN_snoc _ _ _ _ hk, ht, Bool.and_true]
  by_cases e : i = E[k]!.frm
  · subst e; rw [putM_same]; simp
  · rw [putM_other _ _ (lk_ne e), h i, decide_eq_false (fun h => e h.symm)]; simp
/-- the third loop: the rest -/
def Rel4 (types : List ByteArray) (E : List EdgeG) (damp : Fr) (l : List Sh) (k : Nat) (r : Fr) (ov : Bool) : Prop := (ov = true → stepN types E damp l = none) ∧ (ov = false → restO (degE types E) (l.take k) = some r)
theorem Rel4.zero : Rel4 types E damp l 0 (0, 1) false := ⟨fun h => Bool.noConfusion h, fun _ => rfl⟩
theorem restO_fail {k : Nat} (h : restO (degE types E) (l.take k) = none) : stepN types E damp l = none := stepN_rest (by unfold restV; rw [restO_none h]; rfl)
theorem Rel4.skip {k : Nat} {r : Fr} {ov : Bool} (hk : k < l.length) (h : Rel4 types E damp l k r ov) (hz : degN types E l[k]!.id ≠ 0) : Rel4 types E damp l (k + 1) r ov :=
  ⟨h.1, fun e => by rw [restO_snoc _ _ _ hk, h.2 e]; unfold restStep; rw [if_neg hz]⟩
theorem Rel4.next {k : Nat} {r : Fr} {ov : Bool} (hk : k < l.length) (h : Rel4 types E damp l k r ov) (hz : degN types E l[k]!.id = 0) : Rel4 types E damp l (k + 1) (orZ (addO r (l[k]!.n, l[k]!.d))) (ov || (addO r (l[k]!.n, l[k]!.d)).isNone) := by
  cases ov with
  | true => exact ⟨fun _ => h.1 rfl, fun e => by simp at e⟩
  | false =>
    have h1 := h.2 rfl
    have h2 : restO (degE types E) (l.take (k + 1)) = addO r (l[k]!.n, l[k]!.d) := by rw [restO_snoc _ _ _ hk, h1]; unfold restStep; rw [if_pos hz, Option.bind_some]
    cases h3 : addO r (l[k]!.n, l[k]!.d) with
    | none => exact ⟨fun _ => restO_fail (h2.trans h3), fun e => by simp at e⟩
    | some f => exact ⟨fun e => by simp at e, fun _ => by rw [h2, h3]; rfl⟩
def Rel5 (types : List ByteArray) (E : List EdgeG) (damp : Fr) (l : List Sh) (r : Fr) (ov : Bool) : Prop := (ov = true → stepN types E damp l = none) ∧ (ov = false → restV (degE types E) l (l.length : Int) = some r)
theorem Rel4.div {k : Nat} {r : Fr} {ov : Bool} (hk : ¬ k < l.length) (h : Rel4 types E damp l k r ov) : Rel5 types E damp l (orZ (divO r ((l.length : Int), 1))) (ov || (divO r ((l.length : Int), 1)).isNone) := by
  cases ov with
  | true => exact ⟨fun _ => h.1 rfl, fun e => by simp at e⟩
  | false =>
    have h1 := h.2 rfl
    rw [List.take_of_length_le (by omega)] at h1
    have h2 : restV (degE types E) l (l.length : Int) = divO r ((l.length : Int), 1) := by unfold restV; rw [h1, Option.bind_some]
    cases h3 : divO r ((l.length : Int), 1) with
    | none => exact ⟨fun _ => stepN_rest (h2.trans h3), fun e => by simp at e⟩
    | some f => exact ⟨fun e => by simp at e, fun _ => by rw [h2, h3]; rfl⟩
/-- the fourth loop: what comes in -/
def Rel6 (types : List ByteArray) (E : List EdgeG) (damp : Fr) (l : List Sh) (r : Fr) (k : Nat) (gi : Lit → Option Value) (ov : Bool) : Prop :=
  Rel5 types E damp l r ov ∧ ∀ j < l.length, ∃ f : Fr, gi (lk l[j]!.id) = some (frV f) ∧ (ov = false → inO types (degE types E) l (E.take k) l[j]!.id = some f)
theorem Rel6.zero {r : Fr} {ov : Bool} {gs gi : Lit → Option Value} {n : Nat} (hn : ¬ n < l.length) (h : Rel5 types E damp l r ov) (h0 : Rel0 l n gs gi) : Rel6 types E damp l r 0 gi ov :=
  ⟨h, fun j hj => ⟨(0, 1), (h0 j (by omega)).2, fun _ => rfl⟩⟩
theorem Rel6.skip {r : Fr} {ov : Bool} {gi : Lit → Option Value} {k : Nat} (hk : k < E.length) (h : Rel6 types E damp l r k gi ov) (ht : typB types E[k]!.typ = false) : Rel6 types E damp l r (k + 1) gi ov :=
  ⟨h.1, fun j hj => by
    obtain ⟨f, h1, h2⟩ := h.2 j hj
    exact ⟨f, h1, fun e => by rw [inO_snoc _ _ _ _ _ _ hk, h2 e]; unfold inStep; rw [if_neg (fun hh => by rw [ht] at hh; cases hh.2)]⟩⟩
theorem Rel6.get {r : Fr} {ov : Bool} {gi : Lit → Option Value} {k : Nat} {i : Int} (h : Rel6 types E damp l r k gi ov) (hi : ∃ j < l.length, l[j]!.id = i) : ∃ f : Fr, gi (lk i) = some (frV f) := by
  obtain ⟨j, hj, rfl⟩ := hi
  obtain ⟨f, h1, -⟩ := h.2 j hj
  exact ⟨f, h1⟩
theorem Rel6.next {r a : Fr} {ov : Bool} {gi : Lit → Option Value} {k : Nat} (hk : k < E.length) (h : Rel6 types E damp l r k gi ov) (ht : typB types E[k]!.typ = true) (hto : ∃ j < l.length, l[j]!.id = E[k]!.to_) (ha : gi (lk E[k]!.to_) = some (frV a)) {q : Option Fr} (hq : q = divO (shareOf l E[k]!.frm) ((degN types E E[k]!.frm : Int), 1)) :
    Rel6 types E damp l r (k + 1) (putM gi (lk E[k]!.to_) (frV (orZ (addO a (orZ q))))) ((ov || q.isNone) || (addO a (orZ q)).isNone) := by
  obtain ⟨j0, hj0, e0⟩ := hto
  obtain ⟨f0, h1, h2⟩ := h.2 j0 hj0
  rw [e0] at h1 h2
  rw [ha] at h1
  obtain rfl : a = f0 := by
    injection h1 with h1
    unfold frV at h1
    simp only [Value.agg.injEq, Array.mk.injEq, List.cons.injEq, Value.int.injEq, true_and, and_true] at h1
    exact Prod.ext h1.1 h1.2
  have hin : ∀ j < l.length, l[j]!.id ≠ E[k]!.to_ → inO types (degE types E) l (E.take (k + 1)) l[j]!.id = inO types (degE types E) l (E.take k) l[j]!.id := by
    intro j hj hne
    rw [inO_snoc _ _ _ _ _ _ hk]; unfold inStep
    rw [if_neg (fun hh => hne hh.1.symm)]
  have hin0 : ov = false → inO types (degE types E) l (E.take (k + 1)) E[k]!.to_ = q.bind (fun x => addO a x) := by
    intro e
    rw [inO_snoc _ _ _ _ _ _ hk, h2 e]; unfold inStep
    rw [if_pos ⟨rfl, ht⟩, hq]; rfl
  have hbad : inO types (degE types E) l (E.take (k + 1)) E[k]!.to_ = none → stepN types E damp l = none := fun e => stepN_in hj0 (by rw [e0]; exact inO_none e)
  refine ⟨⟨fun e => ?_, fun e => ?_⟩, fun j hj => ?_⟩
  · cases ov with
    | true => exact h.1.1 rfl
    | false =>
      refine hbad ?_
      rw [hin0 rfl]
      cases q with
      | none => rfl
      | some x => rw [Option.bind_some]; cases h3 : addO a x with
        | none => rfl
        | some y => rw [orZ_some, h3] at e; simp at e
  · cases ov with
    | true => simp at e
    | false => exact h.1.2 rfl
  · by_cases hne : l[j]!.id = E[k]!.to_
    · rw [hne]
      refine ⟨_, putM_same _ _ _, fun e => ?_⟩
      cases ov with
      | true => simp at e
      | false =>
        rw [hin0 rfl]
        cases q with
        | none => simp at e
        | some x =>
          rw [Option.bind_some, orZ_some]
          rw [orZ_some] at e
          cases h3 : addO a x with
          | none => rw [h3] at e; simp at e
          | some y => rfl
    · obtain ⟨f, h3, h4⟩ := h.2 j hj
      refine ⟨f, (putM_other _ _ (lk_ne hne)).trans h3, fun e => ?_⟩
      rw [hin j hj hne]
      cases ov with
      | true => simp at e
      | false => exact h4 rfl
/-- with the base -/
def Rel7 (types : List ByteArray) (E : List EdgeG) (damp : Fr) (l : List Sh) (r b : Fr) (gi : Lit → Option Value) (ov : Bool) : Prop :=
  (ov = true → stepN types E damp l = none) ∧ (ov = false → stepN types E damp l = outsO (outFn types E l r b damp) l) ∧ ∀ j < l.length, ∃ f : Fr, gi (lk l[j]!.id) = some (frV f) ∧ (ov = false → inO types (degE types E) l E l[j]!.id = some f)
theorem Rel6.base {r : Fr} {ov : Bool} {gi : Lit → Option Value} {k : Nat} (hk : ¬ k < E.length) (h : Rel6 types E damp l r k gi ov) {v : Option Fr} (hv : v = subO (1, 1) damp) :
    Rel7 types E damp l r (orZ (divO (orZ v) ((l.length : Int), 1))) gi ((ov || v.isNone) || (divO (orZ v) ((l.length : Int), 1)).isNone) := by
  have h1 := h.1
  have h2 := h.2
  rw [List.take_of_length_le (by omega)] at h2
  have hb : baseO damp l = v.bind (fun x => divO x ((l.length : Int), 1)) := by rw [hv]
  refine ⟨fun e => ?_, fun e => ?_, fun j hj => ?_⟩
  · cases ov with
    | true => exact h1.1 rfl
    | false =>
      refine stepN_base ?_
      rw [hb]
      cases v with
      | none => rfl
      | some x =>
        rw [Option.bind_some]
        cases h3 : divO x ((l.length : Int), 1) with
        | none => rfl
        | some y => rw [orZ_some, h3] at e; simp at e
  · cases ov with
    | true => simp at e
    | false =>
      refine stepN_on (h1.2 rfl) ?_
      rw [hb]
      cases v with
      | none => simp at e
      | some x =>
        rw [Option.bind_some, orZ_some]
        rw [orZ_some] at e
        cases h3 : divO x ((l.length : Int), 1) with
        | none => rw [h3] at e; simp at e
        | some y => rfl
  · obtain ⟨f, h3, h4⟩ := h2 j hj
    refine ⟨f, h3, fun e => h4 ?_⟩
    cases ov with
    | true => simp at e
    | false => rfl
/-- the last loop -/
def Rel8 (types : List ByteArray) (E : List EdgeG) (damp : Fr) (l : List Sh) (r b : Fr) (k : Nat) (gi : Lit → Option Value) (O : List Sh) (ov : Bool) : Prop :=
  Rel7 types E damp l r b gi ov ∧ O.length = k ∧ (ov = false → outsO (outFn types E l r b damp) (l.take k) = some O)
theorem Rel8.zero {r b : Fr} {ov : Bool} {gi : Lit → Option Value} (h : Rel7 types E damp l r b gi ov) : Rel8 types E damp l r b 0 gi [] ov := ⟨h, rfl, fun _ => rfl⟩
theorem Rel8.get {r b : Fr} {ov : Bool} {gi : Lit → Option Value} {O : List Sh} {k : Nat} (h : Rel8 types E damp l r b k gi O ov) (hk : k < l.length) : ∃ f : Fr, gi (lk l[k]!.id) = some (frV f) := by
  obtain ⟨f, h1, -⟩ := h.1.2.2 k hk
  exact ⟨f, h1⟩
theorem Rel8.next {r b a : Fr} {ov : Bool} {gi : Lit → Option Value} {O : List Sh} {k : Nat} (h : Rel8 types E damp l r b k gi O ov) (hk : k < l.length) (ha : gi (lk l[k]!.id) = some (frV a)) {y z f : Option Fr} (hy : y = addO a r) (hz : z = mulO damp (orZ y)) (hf : f = addO b (orZ z)) :
    Rel8 types E damp l r b (k + 1) gi (O ++ [⟨l[k]!.id, (orZ f).1, (orZ f).2⟩]) (((ov || y.isNone) || z.isNone) || f.isNone) := by
  obtain ⟨f0, h1, h2⟩ := h.1.2.2 k hk
  rw [ha] at h1
  obtain rfl : a = f0 := by
    injection h1 with h1
    unfold frV at h1
    simp only [Value.agg.injEq, Array.mk.injEq, List.cons.injEq, Value.int.injEq, true_and, and_true] at h1
    exact Prod.ext h1.1 h1.2
  have hof : ov = false → outF (inO types (degE types E) l E l[k]!.id) r b damp = y.bind (fun y => (mulO damp y).bind (fun z => addO b z)) := by
    intro e; unfold outF; rw [h2 e, Option.bind_some, hy]
  have hnone : ov = false → outF (inO types (degE types E) l E l[k]!.id) r b damp = none → stepN types E damp l = none := by
    intro e e2
    rw [h.1.2.1 e]
    exact outs_fail hk (by unfold outFn; rw [show outF (inO types (fun i => degN types E i) l E l[k]!.id) r b damp = none from e2]; rfl)
  have hsome : ∀ x, ov = false → outF (inO types (degE types E) l E l[k]!.id) r b damp = some x → outsO (outFn types E l r b damp) (l.take (k + 1)) = some (O ++ [⟨l[k]!.id, x.1, x.2⟩]) := fun x e e2 => outs_next (h.2.2 e) hk e2
  refine ⟨⟨fun e => ?_, fun e => ?_, fun j hj => ?_⟩, by rw [List.length_append, h.2.1]; rfl, fun e => ?_⟩
  · cases ov with
    | true => exact h.1.1 rfl
    | false =>
      refine hnone rfl ?_
      rw [hof rfl]
      cases y with
      | none => rfl
      | some y =>
        rw [Option.bind_some]
        rw [orZ_some] at hz
        rw [← hz]
        cases z with
        | none => rfl
        | some z =>
          rw [Option.bind_some]
          rw [orZ_some] at hf
          rw [← hf]
          cases f with
          | none => rfl
          | some f => simp at e
  · cases ov with
    | true => simp at e
    | false => exact h.1.2.1 rfl
  · obtain ⟨f', h3, h4⟩ := h.1.2.2 j hj
    refine ⟨f', h3, fun e => h4 ?_⟩
    cases ov with
    | true => simp at e
    | false => rfl
  · cases ov with
    | true => simp at e
    | false =>
      refine hsome _ rfl ?_
      rw [hof rfl]
      cases y with
      | none => simp at e
      | some y =>
        rw [Option.bind_some]
        rw [orZ_some] at hz
        rw [← hz]
        cases z with
        | none => simp at e
        | some z =>
          rw [Option.bind_some]
          rw [orZ_some] at hf
          rw [← hf]
          cases f with
          | none => simp at e
          | some f => rfl
theorem Rel8.done {r b : Fr} {ov : Bool} {gi : Lit → Option Value} {O : List Sh} {k : Nat} (h : Rel8 types E damp l r b k gi O ov) (hk : ¬ k < l.length) : (ov = true → stepN types E damp l = none) ∧ (ov = false → stepN types E damp l = some O) :=
  ⟨h.1.1, fun e => by have := h.2.2 e; rw [List.take_of_length_le (by omega)] at this; rw [h.1.2.1 e]; exact this⟩
end
end Go.Proofs.YtlkpmbkmmfoakaaDoor
