/- PARTS OF THE WALKS, joined: Stage, Jh, Ka. -/
import Derived.Test.YtbjddimafilflaaGreatDoorP00
import Derived.Deep.RegionHeld
import Derived.Test.YtbjddimafilflaaGreatDoorP20
import Derived.OneCell
import Derived.Test.YtbjddimafilflaaGreatDoorP19
import Derived.Deep.RegionHeld3
/- A DRAWN REGION THAT READS CELLS FIRST AND WRITES THEM LATER: what the reads need is kept only until operation E comes up. -/
namespace Go.Proofs.YtbjddimafilflaaGreatDoor
open Go.RowKit
section
variable {P : Program} {ops : Array Oper} {Q : Exit → Act → World → Prop} {md : Region.Mode} {S : World → Prop} {E : Nat}
/-- any order; S holds behind each operation that comes up ahead of E -/
def AnyE (P : Program) (md : Region.Mode) (ops : Array Oper) (Q : Exit → Act → World → Prop) (S : World → Prop) (E : Nat) : Nat → Array Bool → Act → World → Prop
  | 0, l, a, w => Region.ready md ops l = [] ∧ Q .normal a w
  | f + 1, l, a, w => (Region.ready md ops l = [] → Q .normal a w) ∧
    ∀ i ∈ Region.ready md ops l, wpOp P ops Q i (fun a' w' => ((l.setIfInBounds i true).getD E false = false → S w') ∧ AnyE P md ops Q S E f (l.setIfInBounds i true) a' w') a w
theorem AnyE.any : ∀ (f : Nat) (l : Array Bool) (a : Act) (w : World), AnyE P md ops Q S E f l a w → wpAny P md ops Q f l a w
  | 0, _, _, _, h => h
  | f + 1, _, _, _, h => ⟨h.1, fun i hi => wpOp_mono (fun a' w' hk => AnyE.any f _ a' w' hk.2) (h.2 i hi)⟩
theorem AnyE.start {id : Nat} {a : Act} {w : World} (hm : P.follows .mixedOrders = true) (hS : S w.drew) (h : S w.drew → AnyE P .any ops Q S E ops.size (Array.replicate ops.size false) a w.drew) : (Code.region id ops true).wp P Q a w :=
  wp_region_any hm (AnyE.any _ _ _ _ (h hS))
theorem AnyE.done {l : Array Bool} {a : Act} {w : World} (hr : Region.ready md ops l = []) (h : Q .normal a w) : ∀ f, AnyE P md ops Q S E f l a w
  | 0 => ⟨hr, h⟩
  | _ + 1 => ⟨fun _ => h, fun i hi => by rw [hr] at hi; cases hi⟩
/-- does E wait for i -/
def waitsOn (md : Region.Mode) (ops : Array Oper) (E i : Nat) : Bool := match ops[E]? with
  | some o => o.after.any (fun e => Region.binds md e && e.on == i)
  | none => false
theorem AnyE.first {i : Nat} {oi : Oper} {v : Value} (hi : ops[i]? = some oi) (hs : Region.noSelect ops = true) (hQ : ∀ c a w, Q (.panic c) (a.put oi.dst v) w → Q (.panic c) a w) (hE : waitsOn md ops E i = true) (hne : i ≠ E) (hlE : ∀ l : Array Bool, l.getD i true = false → E ∈ Region.ready md ops l → False) :
    ∀ (f : Nat) (l : Array Bool) (a : Act) (w : World), (∀ j oj, ops[j]? = some oj → j ≠ i → l.getD j true = false → (∀ e ∈ oj.after, Region.binds md e = true → e.on ≠ i) → oi.apart ops oj = true) →
      i ∈ Region.ready md ops l → l.getD E false = false → YieldsIf P ops S oi v a → S w → AnyE P md ops Q S E f (l.setIfInBounds i true) (a.put oi.dst v) w → AnyE P md ops Q S E (f + 1) l a w := by
  intro f
  induction f with
  | zero =>
    intro l a w _ hr _ hy hS H
    refine ⟨fun h => absurd hr (by rw [h]; exact List.not_mem_nil), fun j hj => ?_⟩
    rcases Nat.decEq j i with hji | hji
    · have hk := ready_mono hj hji
      rw [H.1] at hk
      exact absurd hk List.not_mem_nil
    · subst hji
      exact hy.wpOp hi hS ⟨fun _ => hS, H⟩
  | succ f ih =>
    intro l a w hfree hr hlf hy hS H
    refine ⟨fun h => absurd hr (by rw [h]; exact List.not_mem_nil), fun j hj => ?_⟩
    rcases Nat.decEq j i with hji | hji
    · have hun := (mem_ready.1 hr).1
      have hjE : j ≠ E := fun e => hlE l hun (e ▸ hj)
      obtain ⟨hjun, oj, hoj, hall⟩ := mem_ready.1 hj
      have hno : ∀ e ∈ oj.after, Region.binds md e = true → e.on ≠ i := fun e he hb heq => by
        have h1 := hall e he hb
        rw [heq] at h1
        rcases Nat.lt_or_ge i l.size with hlt | hge
        · simp [hlt] at hun h1
          exact Bool.noConfusion (hun.symm.trans h1)
        · simp [Array.getElem?_eq_none hge] at h1
      have h2 := wpOp_putIf hoj (hfree j oj hoj hji hjun hno) (fun cs b => Region.noSelect_spec hs i oi cs b hi) (fun cs b => Region.noSelect_spec hs j oj cs b hoj) hQ hy (H.2 j (ready_mono hj hji))
      refine wpOp_mono (fun a' w' hk => ?_) h2
      have hS' : S w' := hk.2.1 (by rw [getD_set_ne false hjE, getD_set_ne false hne]; exact hlf)
      refine ⟨fun _ => hS', ih (l.setIfInBounds j true) a' w' (fun k ok hok hki hunk hnok => ?_) (ready_mono hr (fun e => hji e.symm)) (by rw [getD_set_ne false hjE]; exact hlf) hk.1 hS' ?_⟩
      · refine hfree k ok hok hki ?_ hnok
        rcases Nat.decEq j k with hjk | hjk
        · rw [getD_set_ne true hjk] at hunk; exact hunk
        · subst hjk; exact hjun
      · rw [Array.setIfInBounds_comm _ _ hji]
        exact hk.2.2
    · subst hji
      exact hy.wpOp hi hS ⟨fun _ => hS, H⟩
theorem AnyE.firstP {i : Nat} {oi : Oper} {v : Value} (hi : ops[i]? = some oi) (hs : Region.noSelect ops = true) (hQ : ∀ c a w, Q (.panic c) (a.put oi.dst v) w → Q (.panic c) a w) (hne : i ≠ E) :
    ∀ (f : Nat) (l : Array Bool) (a : Act) (w : World), (∀ j oj, ops[j]? = some oj → j ≠ i → l.getD j true = false → (∀ e ∈ oj.after, Region.binds md e = true → e.on ≠ i) → oi.apart ops oj = true) →
      i ∈ Region.ready md ops l → YieldsIf P ops (fun _ => True) oi v a → (l.getD E false = false → S w) → AnyE P md ops Q S E f (l.setIfInBounds i true) (a.put oi.dst v) w → AnyE P md ops Q S E (f + 1) l a w := by
  intro f
  induction f with
  | zero =>
    intro l a w _ hr hy hS H
    refine ⟨fun h => absurd hr (by rw [h]; exact List.not_mem_nil), fun j hj => ?_⟩
    rcases Nat.decEq j i with hji | hji
    · have hk := ready_mono hj hji
      rw [H.1] at hk
      exact absurd hk List.not_mem_nil
    · subst hji
      exact hy.wpOp hi trivial ⟨fun h => hS (by rw [getD_set_ne false hne] at h; exact h), H⟩
  | succ f ih =>
    intro l a w hfree hr hy hS H
    refine ⟨fun h => absurd hr (by rw [h]; exact List.not_mem_nil), fun j hj => ?_⟩
    rcases Nat.decEq j i with hji | hji
    · have hun := (mem_ready.1 hr).1
      obtain ⟨hjun, oj, hoj, hall⟩ := mem_ready.1 hj
      have hno : ∀ e ∈ oj.after, Region.binds md e = true → e.on ≠ i := fun e he hb heq => by
        have h1 := hall e he hb
        rw [heq] at h1
        rcases Nat.lt_or_ge i l.size with hlt | hge
        · simp [hlt] at hun h1
          exact Bool.noConfusion (hun.symm.trans h1)
        · simp [Array.getElem?_eq_none hge] at h1
      have h2 := wpOp_putIf hoj (hfree j oj hoj hji hjun hno) (fun cs b => Region.noSelect_spec hs i oi cs b hi) (fun cs b => Region.noSelect_spec hs j oj cs b hoj) hQ hy (H.2 j (ready_mono hj hji))
      refine wpOp_mono (fun a' w' hk => ?_) h2
      have hS' : (l.setIfInBounds j true).getD E false = false → S w' := fun h => hk.2.1 (by rw [Array.setIfInBounds_comm _ _ (fun e => hji e.symm), getD_set_ne false hne]; exact h)
      refine ⟨hS', ih (l.setIfInBounds j true) a' w' (fun k ok hok hki hunk hnok => ?_) (ready_mono hr (fun e => hji e.symm)) hk.1 hS' ?_⟩
      · refine hfree k ok hok hki ?_ hnok
        rcases Nat.decEq j k with hjk | hjk
        · rw [getD_set_ne true hjk] at hunk; exact hunk
        · subst hjk; exact hjun
      · rw [Array.setIfInBounds_comm _ _ hji]
        exact hk.2.2
    · subst hji
      exact hy.wpOp hi trivial ⟨fun h => hS (by rw [getD_set_ne false hne] at h; exact h), H⟩
theorem waits_not {i : Nat} (h : waitsOn md ops E i = true) : ∀ l : Array Bool, l.getD i true = false → E ∈ Region.ready md ops l → False := fun l hl hr => by
  obtain ⟨-, o, ho, hall⟩ := mem_ready.1 hr
  unfold waitsOn at h
  rw [ho] at h
  obtain ⟨k, hk, he⟩ := Array.any_eq_true.1 h
  rw [Bool.and_eq_true] at he
  have h1 := hall o.after[k] (Array.getElem_mem hk) he.1
  rw [show o.after[k].on = i by simpa using he.2] at h1
  rcases Nat.lt_or_ge i l.size with hlt | hge
  · simp [hlt] at hl h1
    exact Bool.noConfusion (hl.symm.trans h1)
  · simp [Array.getElem?_eq_none hge] at h1
theorem AnyE.take {i : Nat} {oi : Oper} {v : Value} {f : Nat} {l : Array Bool} {a : Act} {w : World} (hi : ops[i]? = some oi) (hs : Region.noSelect ops = true) (hf : Region.free md ops l i = true) (hr : (Region.ready md ops l).contains i = true)
    (hQ : ∀ c a w, Q (.panic c) (a.put oi.dst v) w → Q (.panic c) a w) (hE : waitsOn md ops E i = true) (hne : (i == E) = false) (hl : l.getD E false = false) (hy : YieldsIf P ops S oi v a) (hS : S w)
    (h : AnyE P md ops Q S E f (l.setIfInBounds i true) (a.put oi.dst v) w) : AnyE P md ops Q S E (f + 1) l a w :=
  AnyE.first hi hs hQ hE (by simpa using hne) (waits_not hE) f l a w (Region.free_spec hi hf) (by simpa using hr) hl hy hS h
theorem AnyE.takeP {i : Nat} {oi : Oper} {v : Value} {f : Nat} {l : Array Bool} {a : Act} {w : World} (hi : ops[i]? = some oi) (hs : Region.noSelect ops = true) (hf : Region.free md ops l i = true) (hr : (Region.ready md ops l).contains i = true)
    (hQ : ∀ c a w, Q (.panic c) (a.put oi.dst v) w → Q (.panic c) a w) (hne : (i == E) = false) (hy : YieldsIf P ops (fun _ => True) oi v a) (hS : l.getD E false = false → S w)
    (h : AnyE P md ops Q S E f (l.setIfInBounds i true) (a.put oi.dst v) w) : AnyE P md ops Q S E (f + 1) l a w :=
  AnyE.firstP hi hs hQ (by simpa using hne) f l a w (Region.free_spec hi hf) (by simpa using hr) hy hS h
/-- each of those that may come up -/
def AllE (P : Program) (md : Region.Mode) (ops : Array Oper) (Q : Exit → Act → World → Prop) (S : World → Prop) (E : Nat) (f : Nat) (l : Array Bool) (a : Act) (w : World) (rs : List Nat) : Prop :=
  ∀ i ∈ rs, wpOp P ops Q i (fun a' w' => ((l.setIfInBounds i true).getD E false = false → S w') ∧ AnyE P md ops Q S E f (l.setIfInBounds i true) a' w') a w
theorem AllE.nil {f : Nat} {l : Array Bool} {a : Act} {w : World} : AllE P md ops Q S E f l a w [] := fun _ h => absurd h List.not_mem_nil
theorem AllE.cons {f : Nat} {l : Array Bool} {a : Act} {w : World} {i : Nat} {o : Oper} {rs : List Nat} (ho : ops[i]? = some o)
    (h : ∀ K : Act → World → Prop, Shut (∀ a w, ((l.setIfInBounds i true).getD E false = false → S w) → (((l.setIfInBounds i true).getD E false = false → S w) → AnyE P md ops Q S E f (l.setIfInBounds i true) a w) → K a w) → if Region.wanted o (yielded ops a.tmps) = true then Oper.wp P o a w K Q else K (a.put o.dst undef) w)
    (hs : AllE P md ops Q S E f l a w rs) : AllE P md ops Q S E f l a w (i :: rs) := fun j hj => by
  rcases List.mem_cons.1 hj with rfl | hj
  · exact wpOp_step ho (fun K hK => h K (fun a w h1 h2 => hK a w ⟨h1, h2 h1⟩))
  · exact hs j hj
theorem AnyE.ready {rs : List Nat} {f : Nat} {l : Array Bool} {a : Act} {w : World} (hr : Region.ready md ops l = rs) (hne : rs ≠ []) (h : AllE P md ops Q S E f l a w rs) : AnyE P md ops Q S E (f + 1) l a w := by
  subst hr
  exact ⟨fun e => absurd e hne, h⟩
end
end Go.Proofs.YtbjddimafilflaaGreatDoor

/- THE WALKS over join.begin and joiner.columns. -/
namespace Go.Proofs.YtbjddimafilflaaGreatDoor
open Go.RowKit Go.Sort
def intV (i : Nat) : Value := .int .i64 (i : Int)
theorem own_grown {w w' : World} {base e size n : Nat} {v : Value} {xs : List Value} {row : Option Nat} (h : w.ownsRow base e size v n xs) (hg : w.grownBy w' row) (hne : ∀ g, v.ownBlock = some g → row ≠ some g) : w'.ownsRow base e size v n xs := by
  refine ⟨h.1, h.2.imp id (fun ⟨g, cap, cur, h1, h2, h3, h4⟩ => ⟨g, cap, cur, h1, h2, ?_, h4⟩)⟩
  subst h1
  refine (hg.block g ?_ (fun e => hne g rfl e.symm)).trans h3
  rcases Nat.lt_or_ge g w.heap.size with hlt | hge
  · exact hlt
  · rw [Array.getElem?_eq_none hge] at h3; cases h3
/-- three things by number -/
def t3 {α : Type} (x y z : α) : Nat → α
  | 0 => x
  | 1 => y
  | _ => z
def upd {α : Type} (f : Nat → α) (i : Nat) (x : α) (j : Nat) : α := if j = i then x else f j
theorem frozen_grown {W W' : World} {row : Option Nat} (hg : W.grownBy W' row) {b : Nat} {x : Value} {i : Nat} (hc : W.cell? ⟨b, i, none⟩ = some x) (hne : row ≠ some b) (j : Nat) (h : W.frozen? ⟨b, j, none⟩ = false) : W'.frozen? ⟨b, j, none⟩ = false := by
  have hb := hg.block b (block_lt_of_cell hc) (fun e => hne e.symm)
  unfold World.frozen? at h ⊢
  rw [hb]; exact h
/-- the joiner that is being built in block q: three rows of numbers, each in its own block; its cells 4, 5, 6 hold cv -/
structure BegW (w5 : World) (q : Nat) (cv v : Nat → Value) (ls : Nat → List Nat) (W : World) : Prop where
  gr : w5.grownBy W (some q)
  hq : q < w5.heap.size
  own : ∀ i, i < 3 → W.ownsRow w5.heap.size 3 1 (v i) (ls i).length ((ls i).map intV)
  d : ∀ i j, i < 3 → j < 3 → i ≠ j → ∀ g, (v i).ownBlock = some g → (v j).ownBlock ≠ some g
  cel : ∀ i, i < 3 → W.cell? ⟨q, 4 + i, none⟩ = some (cv i)
  fz : ∀ i, W.frozen? ⟨q, i, none⟩ = false
  c : ∀ i x, i < 4 → w5.cell? ⟨q, i, none⟩ = some x → W.cell? ⟨q, i, none⟩ = some x
section
variable {w5 W W' : World} {q : Nat} {cv v : Nat → Value} {ls : Nat → List Nat}
theorem BegW.notq (h : BegW w5 q cv v ls W) {i : Nat} (hi : i < 3) : (v i).ownBlock ≠ some q := fun e => by
  have := ((h.own i hi).lt q e).1
  have := h.hq
  omega
theorem BegW.ext (h : BegW w5 q cv v ls W) (e : Ext W W') : BegW w5 q cv v ls W' :=
  ⟨grown_trans h.gr (e.grownBy _), h.hq, fun i hi => own_ext (h.own i hi) e, h.d, fun i hi => e.cell (h.cel i hi), fun i => frozen_grown (e.grownBy none) (h.cel 0 (by decide)) (fun e => by cases e) i (h.fz i), fun i x hi hx => e.cell (h.c i x hi hx)⟩
theorem BegW.grow (h : BegW w5 q cv v ls W) {i k : Nat} {x : Value} (hi : i < 3) (hg : W.grownBy W' (v i).ownBlock) (hO : W'.ownsRow w5.heap.size 3 1 x ((ls i).length + 1) ((ls i).map intV ++ [intV k])) (hb : x.ownBlock = (v i).ownBlock ∨ x.ownBlock = some W.heap.size) :
    BegW w5 q cv (upd v i x) (upd ls i (ls i ++ [k])) W' := by
  have hnq := h.notq hi
  refine ⟨⟨hg.os.trans h.gr.os, hg.tape.trans h.gr.tape, hg.output.trans h.gr.output, Nat.le_trans h.gr.size hg.size, fun j hj hne => ?_⟩, h.hq, fun j hj => ?_, fun j k' hj hk' hjk g e1 e2 => ?_, fun j hj => hg.cell (h.cel j hj) (fun e => hnq e.symm), fun j => frozen_grown hg (h.cel 0 (by decide)) hnq j (h.fz j), fun j x hj hx => hg.cell (h.c j x hj hx) (fun e => hnq e.symm)⟩
  · exact (hg.block j (Nat.lt_of_lt_of_le hj h.gr.size) (fun e => by have := ((h.own i hi).lt j e.symm).1; omega)).trans (h.gr.block j hj hne)
  · unfold upd
    by_cases hji : j = i
    · rw [if_pos hji, if_pos hji, List.length_append, List.map_append]; exact hO
    · rw [if_neg hji, if_neg hji]
      exact own_grown (h.own j hj) hg (fun g e1 e2 => h.d j i hj hi hji g e1 e2)
  · unfold upd at e1 e2
    by_cases h1 : j = i
    · have h2 : k' ≠ i := fun e => hjk (h1.trans e.symm)
      rw [if_pos h1] at e1
      rw [if_neg h2] at e2
      rcases hb with e | e
      · exact h.d i k' hi hk' (Ne.symm h2) g (e ▸ e1) e2
      · rw [e] at e1
        cases e1
        exact absurd ((h.own k' hk').lt _ e2).2 (by omega)
    · rw [if_neg h1] at e1
      by_cases h2 : k' = i
      · rw [if_pos h2] at e2
        rcases hb with e | e
        · exact h.d j i hj hi h1 g e1 (e ▸ e2)
        · rw [e] at e2
          cases e2
          exact absurd ((h.own j hj).lt _ e1).2 (by omega)
      · rw [if_neg h2] at e2
        exact h.d j k' hj hk' hjk g e1 e2
theorem BegW.store (h : BegW w5 q cv v ls W) {i : Nat} (hi : i < 3) (x : Value) : BegW w5 q (upd cv i x) v ls (W.setCell ⟨q, 4 + i, none⟩ x) := by
  refine ⟨⟨h.gr.os, h.gr.tape, h.gr.output, by simpa using h.gr.size, fun j hj hne => ?_⟩, h.hq, fun j hj => ownsRow_setCell_other (h.own j hj) (h.notq hj) _, h.d, fun j hj => ?_, fun j => by rw [World.frozen?_setCell]; exact h.fz j, fun j y hj hy => ?_⟩
  · exact (Below.heap_setCell W _ _ j (fun e => hne (by rw [e]))).trans (h.gr.block j hj hne)
  · unfold upd
    by_cases hji : j = i
    · subst hji
      rw [if_pos rfl]
      exact World.cell?_setCell_same' _ _ _ (by rw [h.cel j hj]; rfl)
    · rw [if_neg hji, World.cell?_setCell_other _ _ _ _ (by intro e; injection e with _ e2; omega)]
      exact h.cel j hj
  · rw [World.cell?_setCell_other _ _ _ _ (by intro e; injection e with _ e2; omega)]
    exact h.c j y hj hy
end
theorem step_pushN {ops : Array Oper} {o : Oper} {a : Act} {w : World} {K : Act → World → Prop} {Q : Exit → Act → World → Prop} {E : Prop} (hg : o.guard = none) (s x : Operand)
    (ho : o.op = .call { callee := .builtin .append, args := #[s, x], argTypes := #[61, 61] }) (base : Nat) (v : Value) (n : Nat) (xs : List Value) (y : Value) (hs : a.eval s = v) (hown : w.ownsRow base 3 1 v n xs) (ad : Addr) (hx : a.eval x = .slice (some ad) 1 1) (hy : w.cell? ad = some y) (h1 : y.oneCell' = true) (h63 : n ≤ 8000000) (hb : base ≤ w.heap.size)
    (hK : ∀ v' w', w'.ownsRow base 3 1 v' (n + 1) (xs ++ [y]) → w.grownBy w' v.ownBlock → (v'.ownBlock = v.ownBlock ∨ v'.ownBlock = some w.heap.size) → K (a.put o.dst v') w') : if Region.wanted o (yielded ops a.tmps) = true then Oper.wp Tryz.prog o a w K Q else E := by
  obtain ⟨z, hz, hzc⟩ := T_int.hi
  obtain ⟨i, hi, hz0, hz1, hz2⟩ := info_parts hz
  obtain ⟨v', w', hr, k2, k3, -, k5⟩ := run_append_own_at (P := Tryz.prog) w base 61 o.type 3 i z 1 8 T_int.ht hi hz0 hz1 hz2 hzc T_int.hs v n xs hown ad 1 1 [y] rfl (fun j u hj => by
    match j, hj with
    | 0, hj => simp at hj; rw [← hj, show ad.add 0 = ad by cases ad; simp [Addr.add]]; exact hy) (fun u hu => by rw [List.mem_singleton.1 hu]; exact h1) (by unfold maxLen; omega) (by omega) hb
  exact step_append_run' hg s x _ _ ho v _ hs hx hr (hK v' w' k2 k3 k5)
theorem own_pushN {ops : Array Oper} {rest : List Oper} {o : Oper} {a : Act} {w : World} {Q : Exit → Act → World → Prop} (hg : o.guard = none) (s x : Operand)
    (ho : o.op = .call { callee := .builtin .append, args := #[s, x], argTypes := #[61, 61] }) (base : Nat) (v : Value) (n : Nat) (xs : List Value) (y : Value) (hs : a.eval s = v) (hown : w.ownsRow base 3 1 v n xs) (ad : Addr) (hx : a.eval x = .slice (some ad) 1 1) (hy : w.cell? ad = some y) (h1 : y.oneCell' = true) (h63 : n ≤ 8000000) (hb : base ≤ w.heap.size)
    (hK : ∀ v' w', w'.ownsRow base 3 1 v' (n + 1) (xs ++ [y]) → w.grownBy w' v.ownBlock → (v'.ownBlock = v.ownBlock ∨ v'.ownBlock = some w.heap.size) → wpList Tryz.prog ops Q rest (a.put o.dst v') w') : wpList Tryz.prog ops Q (o :: rest) a w := by
  obtain ⟨z, hz, hzc⟩ := T_int.hi
  obtain ⟨i, hi, hz0, hz1, hz2⟩ := info_parts hz
  obtain ⟨v', w', hr, k2, k3, -, k5⟩ := run_append_own_at (P := Tryz.prog) w base 61 o.type 3 i z 1 8 T_int.ht hi hz0 hz1 hz2 hzc T_int.hs v n xs hown ad 1 1 [y] rfl (fun j u hj => by
    match j, hj with
    | 0, hj => simp at hj; rw [← hj, show ad.add 0 = ad by cases ad; simp [Addr.add]]; exact hy) (fun u hu => by rw [List.mem_singleton.1 hu]; exact h1) (by unfold maxLen; omega) (by omega) hb
  refine wpList_plain hg fun _ hk => ?_
  unfold Oper.wp execOp
  simp only [ho, resolve, invoke, builtin, Sem.run_bind, Sem.run_pure, Result.andThen_ok, List.map_toArray, List.map_cons, List.map_nil, hs, hx, hr]
  exact hk _ _ (hK v' w' k2 k3 k5)
end Go.Proofs.YtbjddimafilflaaGreatDoor

/- THE WALKS over the reference's column, Check and both. -/
namespace Go.Proofs.YtbjddimafilflaaGreatDoor
open Go.RowKit Go.Sort
set_option maxRecDepth 100000 in
theorem r_column (l : List ByteArray) (s : ByteArray) (ok : Nat → Prop) (A : Option Addr) (c : Nat) (w : World) (hv : Strs w ok A l) :
    Calls Tryz.prog 28 #[.slice A l.length c, .string s] w fun e w' => e = .returned (.int .i64 (idxF (fun t => decide (s = t)) l)) ∧ Ext w w' := by
  have hm := hv.len
  have HV := Lib.hid hv
  have HY := Lib.hid (fun h => idxF_none (p := fun t => decide (s = t)) (l := l) h)
  have HB := Lib.hid (fun i (hi : i < l.length) h1 h2 => idxF_at (p := fun t => decide (s = t)) i hi h1 h2)
  obtain ⟨R, hR⟩ : ∃ R, R = idxF (fun t => decide (s = t)) l := ⟨_, rfl⟩
  rw [← hR] at HY HB ⊢
  clear hv hR
  go_enter Tryz.func28, Tryz.ntmps28
  go_wp2_with fail
  go_loopw [5] (fun u W => ∃ k : Nat, u = .int .i64 k ∧ k ≤ l.length ∧ Hid (∀ i (hi : i < l.length), i < k → decide (s = l[i]) = false) ∧ Ext w W) (fun u _ => l.length - (intOf u).toNat)
  case atStart => exact ⟨0, rfl, Nat.zero_le _, Lib.hid (fun i _ hi => absurd hi (Nat.not_lt_zero _)), Ext.refl _⟩
  case round =>
    obtain ⟨k, rfl, hk, hgd, hE⟩ := hrel
    by_cases hlt : k < l.length
    · obtain ⟨b, o, rfl, hc⟩ := HV.out.2 (by omega)
      have h5 := (hc k hlt).2
      rw [Nat.mul_one] at h5
      have d0 := hE.cell h5
      have HS := Lib.hid (fun (h : decide (s = l[k]) = false) i hi (hj : i < k + 1) => (if e : i = k then (by subst e; exact h) else hgd.out i hi (by omega) : decide (s = l[i]) = false))
      have HB' := Lib.hid (HB.out k hlt hgd.out)
      clear hc h5 HB hgd
      generalize l[k] = x at *
      by_cases hq : s = x
      · have HT := Lib.hid (HB'.out (decide_eq_true hq))
        have hq2 := str_eq hq.symm
        clear hq
        go_wp2_with fail
        go_ret
        exact ⟨ret_int HT.out.symm, hE⟩
      · have HT := Lib.hid (HS.out (decide_eq_false hq))
        have hq2 := str_ne (fun e => hq e.symm)
        clear hq
        go_wp2_with fail
        go_roundw
        case rel => exact ⟨k + 1, by go_num, by omega, HT, hE⟩
        case measure => simp [intOf]; omega
    · have HT := Lib.hid (HY.out (fun i hi => hgd.out i hi (by omega)))
      go_wp2_with fail
      go_ret
      exact ⟨ret_int HT.out.symm, hE⟩
theorem idxF_take {l : List ByteArray} {k : Nat} (hk : k < l.length) : 0 ≤ idxF (fun t => decide (l[k] = t)) (l.take k) ↔ l[k] ∈ l.take k := by
  rw [idxF_pos]
  cases h : posJ (l.take k) l[k] with
  | none => exact ⟨fun h1 => absurd h1 (by decide), fun h1 => absurd h1 (posJ_none.1 h)⟩
  | some i =>
    obtain ⟨h1, h2⟩ := posJ_some h
    refine ⟨fun _ => ?_, fun _ => Int.natCast_nonneg i⟩
    rw [← h2, getElem!_pos _ i h1]; exact List.getElem_mem h1
theorem nodup_take {l : List ByteArray} {k : Nat} (hk : k < l.length) (h : (l.take k).Nodup) (h2 : l[k] ∉ l.take k) : (l.take (k + 1)).Nodup := by
  rw [List.take_succ_eq_append_getElem hk, List.nodup_append]
  refine ⟨h, by simp, fun a ha b hb => ?_⟩
  rw [List.mem_singleton.1 hb]
  exact fun e => h2 (e ▸ ha)
theorem not_nodup_take {l : List ByteArray} {k : Nat} (hk : k < l.length) (h2 : l[k] ∈ l.take k) : ¬ l.Nodup := fun h => by
  obtain ⟨j, hj, e⟩ := List.getElem_of_mem h2
  rw [List.length_take] at hj
  rw [List.getElem_take] at e
  have := (List.getElem_inj h).1 e
  omega
set_option maxRecDepth 100000 in
set_option maxHeartbeats 1600000 in
theorem r_Check (t : Tab) (ok : Nat → Prop) (A B : Option Addr) (c d : Nat) (w : World) (hv : TabAt w ok A B t) (hcp : t.cols.length ≤ c) :
    Calls Tryz.prog 10 #[.agg #[.slice A t.cols.length c, .slice B t.rows.length d]] w fun e w' => e = .returned (.int .i64 (chkT t)) ∧ Ext w w' := by
  obtain ⟨q, hq⟩ : ∃ q, q = w.heap.size := ⟨_, rfl⟩
  obtain ⟨w1, hw1⟩ : ∃ w1, w1 = w.alloc (.cells #[.slice A t.cols.length c, .slice B t.rows.length d] 25) := ⟨_, rfl⟩
  have hx1 : Ext w w1 := by rw [hw1]; exact (Ext.refl _).alloc _
  have q0 : w1.cell? ⟨q, 0, none⟩ = some (.slice A t.cols.length c) := by rw [hw1, hq, cell_of_row _ _ _ _ _ _ (heap_alloc_new w _)]; rfl
  have q1 : w1.cell? ⟨q, 1, none⟩ = some (.slice B t.rows.length d) := by rw [hw1, hq, cell_of_row _ _ _ _ _ _ (heap_alloc_new w _)]; rfl
  have HT := Lib.hid (fun h => chkT_twice (t := t) h)
  have HA := Lib.hid (fun h r hr h2 => chkT_arg (t := t) h (r := r) hr h2)
  have HO := Lib.hid (fun h h2 => chkT_ok (t := t) h h2)
  have HC := Lib.hid (hv.cols.ext hx1)
  have HR := Lib.hid (hv.rows.ext hx1)
  have hm1 := hv.cols.len
  have hm2 := hv.rows.len
  have MK := Lib.hid (fun V (e : Ext w1 V) => (⟨e.cell q0, e.cell q1, e⟩ : V.cell? ⟨q, 0, none⟩ = some (.slice A t.cols.length c) ∧ V.cell? ⟨q, 1, none⟩ = some (.slice B t.rows.length d) ∧ Ext w1 V))
  obtain ⟨l, hl'⟩ : ∃ l, l = t.cols := ⟨_, rfl⟩
  obtain ⟨rs, hr'⟩ : ∃ rs, rs = t.rows := ⟨_, rfl⟩
  obtain ⟨R, hR⟩ : ∃ R, R = chkT t := ⟨_, rfl⟩
  have HW1 := Lib.hid hw1
  have HG := Lib.hid hq
  rw [← hl'] at HT HA HO HC HW1 MK hcp hm1 q0 ⊢
  rw [← hr'] at HA HO HR HW1 MK hm2 q1 ⊢
  rw [← hR] at HT HA HO ⊢
  clear hl' hr' hR hv hw1 hq
  go_enter Tryz.func10, Tryz.ntmps10
  go_upto_region 1 with (fail)
  rw [← HW1.out, ← HG.out]
  clear HW1 HG
  go_wp2_with fail
  go_loopw [3] (fun u W => ∃ k : Nat, u = .int .i64 k ∧ k ≤ l.length ∧ Hid ((l.take k).Nodup) ∧ Ext w1 W) (fun u _ => l.length - (intOf u).toNat)
  case atStart => exact ⟨0, rfl, Nat.zero_le _, Lib.hid (by simp), Ext.refl _⟩
  case round =>
    obtain ⟨k, rfl, hk, hnd, hE⟩ := hrel
    have s0 := hE.cell q0
    have s1 := hE.cell q1
    by_cases hlt : k < l.length
    · obtain ⟨b, o, rfl, hc⟩ := HC.out.2 (by omega)
      have h5 := (hc k hlt).2
      rw [Nat.mul_one] at h5
      have d0 := hE.cell h5
      have hkl : (l.take k).length = k := by rw [List.length_take]; omega
      have HX := Lib.hid (fun W (e : Ext wr W) => r_column (l.take k) l[k] ok (some ⟨b, o, none⟩) c W (Strs.ext (SliceR.take HC.out k) (hE.trans e)))
      rw [hkl] at HX
      have HI := Lib.hid (idxF_take hlt)
      have HN1 := Lib.hid (fun h => HT.out (not_nodup_take hlt h))
      have HN2 := Lib.hid (fun h => nodup_take hlt hnd.out h)
      have MK2 := Lib.hid (fun V (e : Ext wr V) => (⟨MK.out V (hE.trans e), e.cell d0⟩ : (V.cell? ⟨q, 0, none⟩ = some (.slice (some ⟨b, o, none⟩) l.length c) ∧ V.cell? ⟨q, 1, none⟩ = some (.slice B rs.length d) ∧ Ext w1 V) ∧ V.cell? ⟨b, o + k, none⟩ = some (.string l[k])))
      clear hc h5 hkl hnd HT
      generalize l[k] = x at *
      generalize hz : idxF (fun t => decide (x = t)) (l.take k) = z at *
      clear hz
      have hkc : k ≤ c := by omega
      clear q0 q1 s1 MK
      go_upto_region 4 with (fail)
      go_region_held3 (fun V => (V.cell? ⟨q, 0, none⟩ = some (.slice (some ⟨b, o, none⟩) l.length c) ∧ V.cell? ⟨q, 1, none⟩ = some (.slice B rs.length d) ∧ Ext w1 V) ∧ V.cell? ⟨b, o + k, none⟩ = some (.string x)) ((exact MK2.out _ (by repeat (first | with_reducible exact Ext.refl _ | with_reducible assumption | with_reducible refine Ext.drew ?_ | with_reducible refine Ext.drewN ?_ _ | with_reducible refine Ext.alloc ?_ _)))) ((with_reducible refine (HX.out _ (by repeat (first | with_reducible exact Ext.refl _ | with_reducible assumption | with_reducible refine Ext.drew ?_ | with_reducible refine Ext.drewN ?_ _ | with_reducible refine Ext.alloc ?_ _))).mono ?_; rintro e w2 ⟨rfl, hx2⟩; replace hx2 : Ext wr w2 := Ext.trans (by repeat (first | with_reducible exact Ext.refl _ | with_reducible assumption | with_reducible refine Ext.drew ?_ | with_reducible refine Ext.drewN ?_ _ | with_reducible refine Ext.alloc ?_ _)) hx2))
      clear HX MK2
      obtain ⟨⟨h0, h1, -⟩, -⟩ := ‹_ ∧ _›
      have hE2 := hE.trans hx2
      by_cases hz : 0 ≤ z
      · have HX := Lib.hid (HN1.out (HI.out.1 hz))
        go_wp2_with fail
        go_ret
        exact ⟨ret_int HX.out.symm, hx1.trans hE2⟩
      · have HN := Lib.hid (HN2.out (fun h => hz (HI.out.2 h)))
        go_wp2_with fail
        go_roundw
        case rel => exact ⟨k + 1, by go_num, by omega, HN, hE2⟩
        case measure => simp [intOf]; omega
    · have HD := Lib.hid (show l.Nodup by have := hnd.out; rwa [List.take_of_length_le (by omega)] at this)
      clear HT hnd
      go_wp2_with fail
      go_loopw [4] (fun u V => ∃ j : Nat, u = .int .i64 j ∧ j ≤ rs.length ∧ Hid (∀ i (hi : i < rs.length), i < j → rs[i].length = l.length) ∧ Ext w1 V) (fun u _ => rs.length - (intOf u).toNat)
      case atStart => exact ⟨0, rfl, Nat.zero_le _, Lib.hid (fun i _ hi => absurd hi (Nat.not_lt_zero _)), hE⟩
      case round =>
        obtain ⟨j, rfl, hj, hgd, hE2⟩ := hrel
        clear s0 s1
        have s0 := hE2.cell q0
        have s1 := hE2.cell q1
        by_cases hjl : j < rs.length
        · obtain ⟨b, o, rfl, hc⟩ := HR.out.2 (by omega)
          obtain ⟨-, A2, c2, h5, -, -⟩ := hc j hjl
          rw [Nat.mul_one] at h5
          have d0 := hE2.cell h5
          have HAG := Lib.hid (HA.out HD.out rs[j] (List.getElem_mem hjl))
          have HST := Lib.hid (fun (h : rs[j].length = l.length) i hi (hi2 : i < j + 1) => (if e : i = j then (by subst e; exact h) else hgd.out i hi (by omega) : rs[i].length = l.length))
          clear hc h5 hgd
          generalize rs[j] = x at *
          by_cases hxl : x.length = l.length
          · have HS2 := Lib.hid (HST.out hxl)
            have hxd : (x.length : Int) = (l.length : Int) := by omega
            clear hxl
            go_upto_region 9 with (fail)
            (have MKR1 := Lib.hid (fun V (e : Ext wr V) => (⟨e.cell s0, e.cell s1, e.cell d0, e⟩ : V.cell? ⟨q, 0, none⟩ = some (.slice A l.length c) ∧ V.cell? ⟨q, 1, none⟩ = some (.slice (some ⟨b, o, none⟩) rs.length d) ∧ V.cell? ⟨b, o + j, none⟩ = some (.slice A2 x.length c2) ∧ Ext wr V)); go_region_held3 (fun V => V.cell? ⟨q, 0, none⟩ = some (.slice A l.length c) ∧ V.cell? ⟨q, 1, none⟩ = some (.slice (some ⟨b, o, none⟩) rs.length d) ∧ V.cell? ⟨b, o + j, none⟩ = some (.slice A2 x.length c2) ∧ Ext wr V) ((exact MKR1.out _ (by repeat (first | with_reducible exact Ext.refl _ | with_reducible assumption | with_reducible refine Ext.drew ?_ | with_reducible refine Ext.drewN ?_ _ | with_reducible refine Ext.alloc ?_ _)))) ((fail)); clear MKR1)
            go_wp2_with fail
            go_roundw
            case rel => exact ⟨j + 1, by go_num, by omega, HS2, hE2.drew⟩
            case measure => simp [intOf]; omega
          · have HX := Lib.hid (HAG.out hxl)
            have hxd : ¬ (x.length : Int) = (l.length : Int) := by omega
            clear hxl
            go_upto_region 9 with (fail)
            (have MKR2 := Lib.hid (fun V (e : Ext wr V) => (⟨e.cell s0, e.cell s1, e.cell d0, e⟩ : V.cell? ⟨q, 0, none⟩ = some (.slice A l.length c) ∧ V.cell? ⟨q, 1, none⟩ = some (.slice (some ⟨b, o, none⟩) rs.length d) ∧ V.cell? ⟨b, o + j, none⟩ = some (.slice A2 x.length c2) ∧ Ext wr V)); go_region_held3 (fun V => V.cell? ⟨q, 0, none⟩ = some (.slice A l.length c) ∧ V.cell? ⟨q, 1, none⟩ = some (.slice (some ⟨b, o, none⟩) rs.length d) ∧ V.cell? ⟨b, o + j, none⟩ = some (.slice A2 x.length c2) ∧ Ext wr V) ((exact MKR2.out _ (by repeat (first | with_reducible exact Ext.refl _ | with_reducible assumption | with_reducible refine Ext.drew ?_ | with_reducible refine Ext.drewN ?_ _ | with_reducible refine Ext.alloc ?_ _)))) ((fail)); clear MKR2)
            go_wp2_with fail
            go_ret
            exact ⟨ret_int HX.out.symm, hx1.trans hE2.drew⟩
        · have HX := Lib.hid (HO.out HD.out (fun r hr => by
            obtain ⟨i, hi, rfl⟩ := List.getElem_of_mem hr
            exact hgd.out i hi (by omega)))
          go_wp2_with fail
          go_ret
          exact ⟨ret_int HX.out.symm, hx1.trans hE2⟩
set_option maxRecDepth 100000 in
theorem r_both (t u : Tab) (ok ok' : Nat → Prop) (A B A' B' : Option Addr) (c d c' d' : Nat) (w : World) (hv : TabAt w ok A B t) (hu : TabAt w ok' A' B' u) (hcp : t.cols.length ≤ c) (hcp' : u.cols.length ≤ c') :
    Calls Tryz.prog 37 #[.agg #[.slice A t.cols.length c, .slice B t.rows.length d], .agg #[.slice A' u.cols.length c', .slice B' u.rows.length d']] w fun e w' => e = .returned (.int .i64 (if chkT t = 0 then chkT u else chkT t)) ∧ Ext w w' := by
  obtain ⟨q, w2, hq, hw2, q0, q1, p0, p1, hx⟩ := box_tab2 w A B A' B' t.cols.length c t.rows.length d u.cols.length c' u.rows.length d' 25 25
  have H1 := Lib.hid (fun W (e : Ext w2 W) => r_Check t ok A B c d W (hv.ext (hx.trans e)) hcp)
  have H2 := Lib.hid (fun W (e : Ext w2 W) => r_Check u ok' A' B' c' d' W (hu.ext (hx.trans e)) hcp')
  have HW2 := Lib.hid hw2
  have HG1 := Lib.hid hq
  clear hv hu hw2 hq hcp hcp'
  generalize t.cols.length = n at *
  generalize t.rows.length = m at *
  generalize u.cols.length = n' at *
  generalize u.rows.length = m' at *
  generalize chkT t = z at *
  generalize chkT u = z' at *
  go_enter Tryz.func37, Tryz.ntmps37
  go_upto_region 1 with (fail)
  rw [← HW2.out, ← HG1.out]
  clear HG1 HW2
  by_cases hz : z = 0
  · subst hz
    go_wp2_with (first | (go_at_call 10; ((with_reducible refine (H1.out _ (Ext.refl _)).mono ?_); rintro e w3 ⟨rfl, hx3⟩; have p0' := hx3.cell p0; have p1' := hx3.cell p1)) | (go_at_call 10; ((with_reducible refine (H2.out _ hx3).mono ?_); rintro e w4 ⟨rfl, hx4⟩)))
    go_ret
    exact ⟨rfl, hx.trans (hx3.trans hx4)⟩
  · go_wp2_with (first | (go_at_call 10; ((with_reducible refine (H1.out _ (Ext.refl _)).mono ?_); rintro e w3 ⟨rfl, hx3⟩; have p0' := hx3.cell p0; have p1' := hx3.cell p1)) | (go_at_call 10; ((with_reducible refine (H2.out _ hx3).mono ?_); rintro e w4 ⟨rfl, hx4⟩)))
    go_ret
    exact ⟨rfl, hx.trans hx3⟩
end Go.Proofs.YtbjddimafilflaaGreatDoor
