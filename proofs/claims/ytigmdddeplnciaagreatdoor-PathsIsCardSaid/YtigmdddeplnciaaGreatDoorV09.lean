/- PARTS OF THE WALKS, joined: HV, Stage, Gn, Go, GrF, PtA. -/
import Derived.Test.YtigmdddeplnciaaGreatDoorV06
import Derived.Test.YtigmdddeplnciaaGreatDoorV08
import Derived.Test.YtigmdddeplnciaaGreatDoorV00
import Derived.Deep.RegionHeld
import Derived.Deep.Cut
import Derived.Test.YtigmdddeplnciaaGreatDoorV04
/- ROWS OF VALUES THAT A CALL OWNS, whose lists lie elsewhere. -/
namespace Go.Proofs.YtigmdddeplnciaaGreatDoor
open Go.RowKit
theorem frz_heap {a b : World} {p : Addr} (h : b.heap[p.block]? = a.heap[p.block]?) : b.frozen? p = a.frozen? p := by unfold World.frozen?; rw [h]
theorem frz_ext {a b : World} (e : Ext a b) {p : Addr} {v : Value} (hc : a.cell? p = some v) (hf : a.frozen? p = false) : b.frozen? p = false := (frz_heap (a := a) (e.block _ (block_lt_of_cell hc))).trans hf
theorem frz_grown {a c : World} {row : Option Nat} (e : a.grownBy c row) {p : Addr} {v : Value} (hc : a.cell? p = some v) (hf : a.frozen? p = false) (hp : some p.block ≠ row) : c.frozen? p = false := (frz_heap (a := a) (e.block _ (block_lt_of_cell hc) hp)).trans hf
theorem gr_set (W : World) (s j : Nat) (u : Value) : W.grownBy (W.setCell ⟨s, j, none⟩ u) (some s) := ⟨rfl, rfl, rfl, by simp, fun k _ hk => Below.heap_setCell _ _ _ k (fun e => hk (by rw [e]))⟩
theorem flat_set5 {α : Type} (f : α → List Value) (hf : ∀ x, (f x).length = 5) (a0 a1 a2 a3 a4 : Value) : ∀ (l : List α) (i : Nat) (y : α), i < l.length → f y = [a0, a1, a2, a3, a4] → (l.set i y).flatMap f = (((((l.flatMap f).set (i * 5) a0).set (i * 5 + 1) a1).set (i * 5 + 2) a2).set (i * 5 + 3) a3).set (i * 5 + 4) a4
  | [], i, y, h, _ => absurd h (by simp)
  | x :: l, 0, y, _, hy => by
    have hx := hf x
    match hfx : f x, hx with
    | [b0, b1, b2, b3, b4], _ => simp [hfx, hy]
  | x :: l, i + 1, y, h, hy => by
    have ih := flat_set5 f hf a0 a1 a2 a3 a4 l i y (by simpa using h) hy
    have e0 : (i + 1) * 5 = 5 + i * 5 := by omega
    have hx : (f x).length = 5 := hf x
    have S : ∀ (m : List Value) (j : Nat) (u : Value), (f x ++ m).set (5 + j) u = f x ++ m.set j u := fun m j u => by
      rw [List.set_append_right _ _ (by omega), hx, Nat.add_sub_cancel_left]
    rw [List.set_cons_succ, List.flatMap_cons, List.flatMap_cons, ih, e0, S, Nat.add_assoc, S, Nat.add_assoc, S, Nat.add_assoc, S, Nat.add_assoc, S]
section
variable {α : Type} {K : KindG α} {e : TypeId} {W : World} {base : Nat} {ok0 : Nat → Prop} {v : Value} {hs : List α}
/-- a whole element of five cells stored at place i -/
theorem OwnG.put5 (hK : K.size = 5) {g n c : Nat} (h : OwnG K e W base ok0 (.slice (some ⟨g, 0, none⟩) n c) hs) {i : Nat} (hi : i < hs.length) (y : α) {a0 a1 a2 a3 a4 : Value} (hy : K.enc y = [a0, a1, a2, a3, a4]) (hl : K.lies W (fun b => ok0 b ∧ some b ≠ some g) y) :
    OwnG K e (((((W.setCell ⟨g, i * 5, none⟩ a0).setCell ⟨g, i * 5 + 1, none⟩ a1).setCell ⟨g, i * 5 + 2, none⟩ a2).setCell ⟨g, i * 5 + 3, none⟩ a3).setCell ⟨g, i * 5 + 4, none⟩ a4) base ok0 (.slice (some ⟨g, 0, none⟩) n c) (hs.set i y) ∧ W.grownBy (((((W.setCell ⟨g, i * 5, none⟩ a0).setCell ⟨g, i * 5 + 1, none⟩ a1).setCell ⟨g, i * 5 + 2, none⟩ a2).setCell ⟨g, i * 5 + 3, none⟩ a3).setCell ⟨g, i * 5 + 4, none⟩ a4) (some g) := by
  obtain ⟨A, c', hv⟩ := own_form h.own
  injection hv with h1 h2 h3
  subst h2
  obtain ⟨k0, g0⟩ := World.ownsRow.stored h.own (i * 5) a0
  obtain ⟨k1, g1⟩ := World.ownsRow.stored k0 (i * 5 + 1) a1
  obtain ⟨k2, g2⟩ := World.ownsRow.stored k1 (i * 5 + 2) a2
  obtain ⟨k3, g3⟩ := World.ownsRow.stored k2 (i * 5 + 3) a3
  obtain ⟨k4, g4⟩ := World.ownsRow.stored k3 (i * 5 + 4) a4
  have G := grown_two g0 (grown_two g1 (grown_two g2 (grown_two g3 g4)))
  refine ⟨⟨?_, fun p hp => ?_⟩, G⟩
  · rw [List.length_set, flat_set5 K.enc (fun x => by rw [K.len, hK]) _ _ _ _ _ hs i y hi hy]; exact k4
  · have hlies : K.lies W (fun b => ok0 b ∧ some b ≠ (Value.slice (some ⟨g, 0, none⟩) hs.length c).ownBlock) p := by
      rcases List.mem_or_eq_of_mem_set hp with hp | hp
      · exact h.lies p hp
      · rw [hp]; exact hl
    exact K.keep _ _ _ _ _ (fun b o x hb hc => ⟨G.cell hc (fun e2 => hb.2 (by rw [e2]; rfl)), hb⟩) hlies
/-- one element appended that lies at ad: the run -/
theorem run_pushAt {P : Program} {t bytes : Nat} (T : ElT P t e K.size bytes) (ty : TypeId) (h : OwnG K e W base ok0 v hs) (hb : base ≤ W.heap.size) (x : α) (hx : K.lies W (fun b => ok0 b ∧ some b ≠ v.ownBlock) x)
    (ad : Addr) (c : Nat) (hc : ∀ j u, (K.enc x)[j]? = some u → W.cell? (ad.add j) = some u) (h63 : hs.length + 1 ≤ 8388608) (hbytes : bytes ≤ 1000000) :
    ∃ v' w', (Builtin.append_ #[t, t] ty #[v, .slice (some ad) 1 c]).run P W = .ok v' w' ∧ OwnG K e w' base ok0 v' (hs ++ [x]) ∧ W.grownBy w' v.ownBlock ∧ (v'.ownBlock = v.ownBlock ∨ v'.ownBlock = some W.heap.size) := by
  obtain ⟨z, hz, hzc⟩ := T.hi
  obtain ⟨i, hi, hz0, hz1, hz2⟩ := info_parts hz
  obtain ⟨v', w', hr, k1, k2, -, k3⟩ := run_append_own_at (P := P) W base t ty e i z K.size bytes T.ht hi hz0 hz1 hz2 hzc T.hs v hs.length (hs.flatMap K.enc) h.own ad 1 c (K.enc x) (by rw [K.len, Nat.one_mul]) hc (K.one x) (by unfold maxLen; omega) (Nat.le_trans (Nat.mul_le_mul h63 hbytes) (by decide)) hb
  have hcell : ∀ b o y, (ok0 b ∧ some b ≠ v.ownBlock) → W.cell? ⟨b, o, none⟩ = some y → w'.cell? ⟨b, o, none⟩ = some y ∧ (ok0 b ∧ some b ≠ v'.ownBlock) := fun b o y hb hc => by
    have hlt : b < W.heap.size := block_lt_of_cell hc
    refine ⟨k2.cell hc hb.2, hb.1, ?_⟩
    rcases k3 with e2 | e2
    · rw [e2]; exact hb.2
    · rw [e2]
      intro e3
      injection e3 with e3
      omega
  refine ⟨v', w', hr, ⟨by rw [List.length_append, List.flatMap_append]; simpa using k1, fun p hp => ?_⟩, k2, k3⟩
  rcases List.mem_append.1 hp with hp | hp
  · exact K.keep _ _ _ _ _ hcell (h.lies p hp)
  · rw [List.mem_singleton.1 hp]; exact K.keep _ _ _ _ _ hcell hx
/-- .. at a step of a drawn region -/
theorem step_pushAt {P : Program} {t bytes : Nat} (T : ElT P t e K.size bytes) {ops : Array Oper} {o : Oper} {a : Act} {K2 : Act → World → Prop} {Q : Exit → Act → World → Prop} {E : Prop} (hg : o.guard = none) (s y : Operand)
    (ho : o.op = .call { callee := .builtin .append, args := #[s, y], argTypes := #[t, t] }) (hs' : a.eval s = v) (h : OwnG K e W base ok0 v hs) (hb : base ≤ W.heap.size) (x : α) (hx : K.lies W (fun b => ok0 b ∧ some b ≠ v.ownBlock) x)
    (ad : Addr) (c : Nat) (hy : a.eval y = .slice (some ad) 1 c) (hc : ∀ j u, (K.enc x)[j]? = some u → W.cell? (ad.add j) = some u) (h63 : hs.length + 1 ≤ 8388608) (hbytes : bytes ≤ 1000000)
    (hK : ∀ v' w', OwnG K e w' base ok0 v' (hs ++ [x]) → W.grownBy w' v.ownBlock → (v'.ownBlock = v.ownBlock ∨ v'.ownBlock = some W.heap.size) → K2 (a.put o.dst v') w') : if Region.wanted o (yielded ops a.tmps) = true then Oper.wp P o a W K2 Q else E := by
  obtain ⟨v', w', hr, h1, h2, h3⟩ := run_pushAt T o.type h hb x hx ad c hc h63 hbytes
  exact step_append_run' hg s y _ _ ho v _ hs' hy hr (hK v' w' h1 h2 h3)
end
/-- a value, with its list's head -/
structure HV where
  A : Option Addr
  c : Nat
  v : Val
instance : Inhabited HV := ⟨⟨none, 0, default⟩⟩
def HV.cells (h : HV) : List Value := h.v.cells h.A h.c
def KHV : KindG HV := ⟨HV.cells, 5, fun W ok h => h.v.l.length ≤ h.c ∧ Vals W ok h.A h.v.l, fun _ => rfl, fun _ u hu => Val.cells_one _ _ _ u hu, fun _ _ _ _ _ hk hl => ⟨hl.1, hl.2.keep' hk⟩⟩
theorem T_hv : ElT Tryz.prog 32 37 KHV.size 64 := T_val
abbrev OwnV (W : World) (base : Nat) (ok0 : Nat → Prop) (v : Value) (hs : List HV) : Prop := OwnG KHV 37 W base ok0 v hs
theorem OwnV.vals {W : World} {base : Nat} {ok0 : Nat → Prop} {v : Value} {hs : List HV} (h : OwnV W base ok0 v hs) (hm : hs.length ≤ 8000000) : ∃ A c, v = .slice A hs.length c ∧ hs.length ≤ c ∧ Vals W (fun b => ok0 b ∨ base ≤ b) A (hs.map HV.v) :=
  OwnG.slice (K := KHV) HV.v h (by omega) (fun g o x hg hc hl => VCells.iff.2 ⟨.inr hg, x.A, x.c, ⟨hc 0 _ rfl, hc 1 _ rfl, hc 2 _ rfl, hc 3 _ rfl, hc 4 _ rfl⟩, hl.1, hl.2.to (fun _ hb => .inl hb)⟩)
theorem own_cells5 {W : World} {base g n c : Nat} {ok0 : Nat → Prop} {hs : List HV} (h : OwnV W base ok0 (.slice (some ⟨g, 0, none⟩) n c) hs) {i : Nat} (hi : i < hs.length) : (W.cell? ⟨g, i * 5, none⟩ = some (.int .i64 hs[i].v.kind) ∧ W.cell? ⟨g, i * 5 + 1, none⟩ = some (.int .i64 hs[i].v.n) ∧ W.cell? ⟨g, i * 5 + 2, none⟩ = some (.int .i64 hs[i].v.d) ∧ W.cell? ⟨g, i * 5 + 3, none⟩ = some (.string hs[i].v.s) ∧ W.cell? ⟨g, i * 5 + 4, none⟩ = some (.slice hs[i].A hs[i].v.l.length hs[i].c)) ∧
    W.frozen? ⟨g, i * 5, none⟩ = false ∧ W.frozen? ⟨g, i * 5 + 1, none⟩ = false ∧ W.frozen? ⟨g, i * 5 + 2, none⟩ = false ∧ W.frozen? ⟨g, i * 5 + 3, none⟩ = false ∧ W.frozen? ⟨g, i * 5 + 4, none⟩ = false := by
  obtain ⟨g', hg, -, -, -, -, hc⟩ := OwnG.cellAt h hi
  injection hg with hg
  injection hg with hg
  subst hg
  exact ⟨⟨(hc 0 (by decide)).1, (hc 1 (by decide)).1, (hc 2 (by decide)).1, (hc 3 (by decide)).1, (hc 4 (by decide)).1⟩, (hc 0 (by decide)).2, (hc 1 (by decide)).2, (hc 2 (by decide)).2, (hc 3 (by decide)).2, (hc 4 (by decide)).2⟩
theorem ownV_some {W : World} {base : Nat} {ok0 : Nat → Prop} {v : Value} {hs : List HV} (h : OwnV W base ok0 v hs) (hne : 0 < hs.length) : ∃ g c, v = .slice (some ⟨g, 0, none⟩) hs.length c ∧ base ≤ g ∧ g < W.heap.size ∧ hs.length ≤ c := by
  rcases h.own.2 with ⟨hv, h0⟩ | ⟨g, cap, cur, hv, hb, hh, hc, -⟩
  · omega
  · refine ⟨g, cap, hv, hb, ?_, hc⟩
    subst hv
    exact (OwnG.lt h rfl).2
/-- the heads of values that lie -/
theorem Vals.heads {w : World} {ok : Nat → Prop} {A : Option Addr} {l : List Val} (h : Vals w ok A l) : ∃ hs : List HV, hs.map HV.v = l ∧ (∀ p ∈ hs, KHV.lies w ok p) ∧ ∀ ad, A = some ad → ∀ j u, (hs.flatMap HV.cells)[j]? = some u → w.cell? (ad.add j) = some u := by
  obtain ⟨cs, h1, h2, h3⟩ := h.flat
  suffices H : ∀ (l : List Val) (cs : List (List Value)), cs.length = l.length → CopyTo w ok l cs → ∃ hs : List HV, hs.map HV.v = l ∧ (∀ p ∈ hs, KHV.lies w ok p) ∧ hs.flatMap HV.cells = cs.flatten by
    obtain ⟨hs, k1, k2, k3⟩ := H l cs h1 h2
    exact ⟨hs, k1, k2, fun ad e j u hu => h3 ad e j u (by rw [← k3]; exact hu)⟩
  intro l
  induction l with
  | nil => intro cs hl _; exact ⟨[], rfl, fun p hp => absurd hp (by simp), by rw [List.eq_nil_of_length_eq_zero hl]; rfl⟩
  | cons x l ih =>
    intro cs hl hc
    cases cs with
    | nil => cases hl
    | cons y cs =>
      obtain ⟨h0', A', c', e0, e1, e2⟩ := hc 0 (by simp)
      obtain ⟨hs, k1, k2, k3⟩ := ih cs (by simpa using hl) (fun i hi => by
        obtain ⟨a, b⟩ := hc (i + 1) (by simpa using hi)
        exact ⟨by simpa using a, by simpa using b⟩)
      have e0' : y = x.cells A' c' := e0
      refine ⟨⟨A', c', x⟩ :: hs, by rw [List.map_cons, k1], fun p hp => ?_, by rw [List.flatMap_cons, k3, List.flatten_cons, e0']; rfl⟩
      rcases List.mem_cons.1 hp with e | e
      · rw [e]; exact ⟨e1, e2⟩
      · exact k2 p e
end Go.Proofs.YtigmdddeplnciaaGreatDoor

/- A DRAWN REGION THAT READS CELLS FIRST AND WRITES THEM LATER: what the reads need is kept only until operation E comes up. -/
namespace Go.Proofs.YtigmdddeplnciaaGreatDoor
open Go.RowKit
section
variable {P : Program} {ops : Array Oper} {Q : Exit → Act → World → Prop} {md : Region.Mode} {S : World → Prop} {E : Nat}
/-- any order; S holds behind each operation that comes up ahead of E -/
def AnyE (P : Program) (md : Region.Mode) (ops : Array Oper) (Q : Exit → Act → World → Prop) (S : World → Prop) (E : Nat) : Nat → Array Bool → Act → World → Prop
  | 0, l, a, w => Region.ready md ops l = [] ∧ Q .normal a w
  | f + 1, l, a, w => (Region.ready md ops l = [] → Q .normal a w) ∧
    ∀ i ∈ Region.ready md ops l, wpOp P ops Q i (fun a' w' => ((l.setIfInBounds i true).getD E false = false → S w') ∧ AnyE P md ops Q S E f (l.setIfInBounds i true) a' w') a w
theorem AnyE.any : ∀ (f : Nat) (l : Array Bool) (a : Act) (w : World), AnyE P md ops Q S E f l a w → wpAny P md ops Q f l a w
  | 0, _, _, _, h => h
  | f + 1, _, _, _, h => ⟨h.1, fun i hi => wpOp_mono (fun a' w' hk => AnyE.any f _ a' w' hk.2) (h.2 i hi)⟩
theorem AnyE.start {id : Nat} {a : Act} {w : World} (hm : P.follows .mixedOrders = true) (hS : S w.drew) (h : S w.drew → AnyE P .any ops Q S E ops.size (Array.replicate ops.size false) a w.drew) : (Code.region id ops true).wp P Q a w :=
  wp_region_any hm (AnyE.any _ _ _ _ (h hS))
theorem AnyE.done {l : Array Bool} {a : Act} {w : World} (hr : Region.ready md ops l = []) (h : Q .normal a w) : ∀ f, AnyE P md ops Q S E f l a w
  | 0 => ⟨hr, h⟩
  | _ + 1 => ⟨fun _ => h, fun i hi => by rw [hr] at hi; cases hi⟩
/-- does E wait for i -/
def waitsOn (md : Region.Mode) (ops : Array Oper) (E i : Nat) : Bool := match ops[E]? with
  | some o => o.after.any (fun e => Region.binds md e && e.on == i)
  | none => false
theorem AnyE.first {i : Nat} {oi : Oper} {v : Value} (hi : ops[i]? = some oi) (hs : Region.noSelect ops = true) (hQ : ∀ c a w, Q (.panic c) (a.put oi.dst v) w → Q (.panic c) a w) (hE : waitsOn md ops E i = true) (hne : i ≠ E) (hlE : ∀ l : Array Bool, l.getD i true = false → E ∈ Region.ready md ops l → False) :
    ∀ (f : Nat) (l : Array Bool) (a : Act) (w : World), (∀ j oj, ops[j]? = some oj → j ≠ i → l.getD j true = false → (∀ e ∈ oj.after, Region.binds md e = true → e.on ≠ i) → oi.apart ops oj = true) →
      i ∈ Region.ready md ops l → l.getD E false = false → YieldsIf P ops S oi v a → S w → AnyE P md ops Q S E f (l.setIfInBounds i true) (a.put oi.dst v) w → AnyE P md ops Q S E (f + 1) l a w := by
  intro f
  induction f with
  | zero =>
    intro l a w _ hr _ hy hS H
    refine ⟨fun h => absurd hr (by rw [h]; exact List.not_mem_nil), fun j hj => ?_⟩
    rcases Nat.decEq j i with hji | hji
    · have hk := ready_mono hj hji
      rw [H.1] at hk
      exact absurd hk List.not_mem_nil
    · subst hji
      exact hy.wpOp hi hS ⟨fun _ => hS, H⟩
  | succ f ih =>
    intro l a w hfree hr hlf hy hS H
    refine ⟨fun h => absurd hr (by rw [h]; exact List.not_mem_nil), fun j hj => ?_⟩
    rcases Nat.decEq j i with hji | hji
    · have hun := (mem_ready.1 hr).1
      have hjE : j ≠ E := fun e => hlE l hun (e ▸ hj)
      obtain ⟨hjun, oj, hoj, hall⟩ := mem_ready.1 hj
      have hno : ∀ e ∈ oj.after, Region.binds md e = true → e.on ≠ i := fun e he hb heq => by
        have h1 := hall e he hb
        rw [heq] at h1
        rcases Nat.lt_or_ge i l.size with hlt | hge
        · simp [hlt] at hun h1
          exact Bool.noConfusion (hun.symm.trans h1)
        · simp [Array.getElem?_eq_none hge] at h1
      have h2 := wpOp_putIf hoj (hfree j oj hoj hji hjun hno) (fun cs b => Region.noSelect_spec hs i oi cs b hi) (fun cs b => Region.noSelect_spec hs j oj cs b hoj) hQ hy (H.2 j (ready_mono hj hji))
      refine wpOp_mono (fun a' w' hk => ?_) h2
      have hS' : S w' := hk.2.1 (by rw [getD_set_ne false hjE, getD_set_ne false hne]; exact hlf)
      refine ⟨fun _ => hS', ih (l.setIfInBounds j true) a' w' (fun k ok hok hki hunk hnok => ?_) (ready_mono hr (fun e => hji e.symm)) (by rw [getD_set_ne false hjE]; exact hlf) hk.1 hS' ?_⟩
      · refine hfree k ok hok hki ?_ hnok
        rcases Nat.decEq j k with hjk | hjk
        · rw [getD_set_ne true hjk] at hunk; exact hunk
        · subst hjk; exact hjun
      · rw [Array.setIfInBounds_comm _ _ hji]
        exact hk.2.2
    · subst hji
      exact hy.wpOp hi hS ⟨fun _ => hS, H⟩
theorem AnyE.firstP {i : Nat} {oi : Oper} {v : Value} (hi : ops[i]? = some oi) (hs : Region.noSelect ops = true) (hQ : ∀ c a w, Q (.panic c) (a.put oi.dst v) w → Q (.panic c) a w) (hne : i ≠ E) :
    ∀ (f : Nat) (l : Array Bool) (a : Act) (w : World), (∀ j oj, ops[j]? = some oj → j ≠ i → l.getD j true = false → (∀ e ∈ oj.after, Region.binds md e = true → e.on ≠ i) → oi.apart ops oj = true) →
      i ∈ Region.ready md ops l → YieldsIf P ops (fun _ => True) oi v a → (l.getD E false = false → S w) → AnyE P md ops Q S E f (l.setIfInBounds i true) (a.put oi.dst v) w → AnyE P md ops Q S E (f + 1) l a w := by
  intro f
  induction f with
  | zero =>
    intro l a w _ hr hy hS H
    refine ⟨fun h => absurd hr (by rw [h]; exact List.not_mem_nil), fun j hj => ?_⟩
    rcases Nat.decEq j i with hji | hji
    · have hk := ready_mono hj hji
      rw [H.1] at hk
      exact absurd hk List.not_mem_nil
    · subst hji
      exact hy.wpOp hi trivial ⟨fun h => hS (by rw [getD_set_ne false hne] at h; exact h), H⟩
  | succ f ih =>
    intro l a w hfree hr hy hS H
    refine ⟨fun h => absurd hr (by rw [h]; exact List.not_mem_nil), fun j hj => ?_⟩
    rcases Nat.decEq j i with hji | hji
    · have hun := (mem_ready.1 hr).1
      obtain ⟨hjun, oj, hoj, hall⟩ := mem_ready.1 hj
      have hno : ∀ e ∈ oj.after, Region.binds md e = true → e.on ≠ i := fun e he hb heq => by
        have h1 := hall e he hb
        rw [heq] at h1
        rcases Nat.lt_or_ge i l.size with hlt | hge
        · simp [hlt] at hun h1
          exact Bool.noConfusion (hun.symm.trans h1)
        · simp [Array.getElem?_eq_none hge] at h1
      have h2 := wpOp_putIf hoj (hfree j oj hoj hji hjun hno) (fun cs b => Region.noSelect_spec hs i oi cs b hi) (fun cs b => Region.noSelect_spec hs j oj cs b hoj) hQ hy (H.2 j (ready_mono hj hji))
      refine wpOp_mono (fun a' w' hk => ?_) h2
      have hS' : (l.setIfInBounds j true).getD E false = false → S w' := fun h => hk.2.1 (by rw [Array.setIfInBounds_comm _ _ (fun e => hji e.symm), getD_set_ne false hne]; exact h)
      refine ⟨hS', ih (l.setIfInBounds j true) a' w' (fun k ok hok hki hunk hnok => ?_) (ready_mono hr (fun e => hji e.symm)) hk.1 hS' ?_⟩
      · refine hfree k ok hok hki ?_ hnok
        rcases Nat.decEq j k with hjk | hjk
        · rw [getD_set_ne true hjk] at hunk; exact hunk
        · subst hjk; exact hjun
      · rw [Array.setIfInBounds_comm _ _ hji]
        exact hk.2.2
    · subst hji
      exact hy.wpOp hi trivial ⟨fun h => hS (by rw [getD_set_ne false hne] at h; exact h), H⟩
theorem waits_not {i : Nat} (h : waitsOn md ops E i = true) : ∀ l : Array Bool, l.getD i true = false → E ∈ Region.ready md ops l → False := fun l hl hr => by
  obtain ⟨-, o, ho, hall⟩ := mem_ready.1 hr
  unfold waitsOn at h
  rw [ho] at h
  obtain ⟨k, hk, he⟩ := Array.any_eq_true.1 h
  rw [Bool.and_eq_true] at he
  have h1 := hall o.after[k] (Array.getElem_mem hk) he.1
  rw [show o.after[k].on = i by simpa using he.2] at h1
  rcases Nat.lt_or_ge i l.size with hlt | hge
  · simp [hlt] at hl h1
    exact Bool.noConfusion (hl.symm.trans h1)
  · simp [Array.getElem?_eq_none hge] at h1
theorem AnyE.take {i : Nat} {oi : Oper} {v : Value} {f : Nat} {l : Array Bool} {a : Act} {w : World} (hi : ops[i]? = some oi) (hs : Region.noSelect ops = true) (hf : Region.free md ops l i = true) (hr : (Region.ready md ops l).contains i = true)
    (hQ : ∀ c a w, Q (.panic c) (a.put oi.dst v) w → Q (.panic c) a w) (hE : waitsOn md ops E i = true) (hne : (i == E) = false) (hl : l.getD E false = false) (hy : YieldsIf P ops S oi v a) (hS : S w)
    (h : AnyE P md ops Q S E f (l.setIfInBounds i true) (a.put oi.dst v) w) : AnyE P md ops Q S E (f + 1) l a w :=
  AnyE.first hi hs hQ hE (by simpa using hne) (waits_not hE) f l a w (Region.free_spec hi hf) (by simpa using hr) hl hy hS h
theorem AnyE.takeP {i : Nat} {oi : Oper} {v : Value} {f : Nat} {l : Array Bool} {a : Act} {w : World} (hi : ops[i]? = some oi) (hs : Region.noSelect ops = true) (hf : Region.free md ops l i = true) (hr : (Region.ready md ops l).contains i = true)
    (hQ : ∀ c a w, Q (.panic c) (a.put oi.dst v) w → Q (.panic c) a w) (hne : (i == E) = false) (hy : YieldsIf P ops (fun _ => True) oi v a) (hS : l.getD E false = false → S w)
    (h : AnyE P md ops Q S E f (l.setIfInBounds i true) (a.put oi.dst v) w) : AnyE P md ops Q S E (f + 1) l a w :=
  AnyE.firstP hi hs hQ (by simpa using hne) f l a w (Region.free_spec hi hf) (by simpa using hr) hy hS h
/-- each of those that may come up -/
def AllE (P : Program) (md : Region.Mode) (ops : Array Oper) (Q : Exit → Act → World → Prop) (S : World → Prop) (E : Nat) (f : Nat) (l : Array Bool) (a : Act) (w : World) (rs : List Nat) : Prop :=
  ∀ i ∈ rs, wpOp P ops Q i (fun a' w' => ((l.setIfInBounds i true).getD E false = false → S w') ∧ AnyE P md ops Q S E f (l.setIfInBounds i true) a' w') a w
theorem AllE.nil {f : Nat} {l : Array Bool} {a : Act} {w : World} : AllE P md ops Q S E f l a w [] := fun _ h => absurd h List.not_mem_nil
theorem AllE.cons {f : Nat} {l : Array Bool} {a : Act} {w : World} {i : Nat} {o : Oper} {rs : List Nat} (ho : ops[i]? = some o)
    (h : ∀ K : Act → World → Prop, Shut (∀ a w, ((l.setIfInBounds i true).getD E false = false → S w) → (((l.setIfInBounds i true).getD E false = false → S w) → AnyE P md ops Q S E f (l.setIfInBounds i true) a w) → K a w) → if Region.wanted o (yielded ops a.tmps) = true then Oper.wp P o a w K Q else K (a.put o.dst undef) w)
    (hs : AllE P md ops Q S E f l a w rs) : AllE P md ops Q S E f l a w (i :: rs) := fun j hj => by
  rcases List.mem_cons.1 hj with rfl | hj
  · exact wpOp_step ho (fun K hK => h K (fun a w h1 h2 => hK a w ⟨h1, h2 h1⟩))
  · exact hs j hj
theorem AnyE.ready {rs : List Nat} {f : Nat} {l : Array Bool} {a : Act} {w : World} (hr : Region.ready md ops l = rs) (hne : rs ≠ []) (h : AllE P md ops Q S E f l a w rs) : AnyE P md ops Q S E (f + 1) l a w := by
  subst hr
  exact ⟨fun e => absurd e hne, h⟩
end
end Go.Proofs.YtigmdddeplnciaaGreatDoor

/- THE WALKS over slices.Clone at any size, graph.cloneValue, cloneProps, Node. -/
namespace Go.Proofs.YtigmdddeplnciaaGreatDoor
open Go.RowKit
mutual
/-- every list within takes no more room than there is -/
def capV : Val → Prop
  | .mk _ _ _ _ l => l.length * 64 ≤ 140737488355328 ∧ capL l
def capL : List Val → Prop
  | [] => True
  | v :: vs => capV v ∧ capL vs
end
theorem capV_iff {v : Val} : capV v ↔ v.l.length * 64 ≤ 140737488355328 ∧ capL v.l := by cases v; rw [capV]; rfl
theorem capL_mem : ∀ {l : List Val}, capL l → ∀ {v : Val}, v ∈ l → capV v
  | [], _, v, hv => absurd hv (by simp)
  | x :: l, h, v, hv => by
    rw [capL] at h
    rcases List.mem_cons.1 hv with e | e
    · rw [e]; exact h.1
    · exact capL_mem h.2 e
theorem capL_of : ∀ {l : List Val}, (∀ v ∈ l, capV v) → capL l
  | [], _ => by rw [capL]; trivial
  | x :: l, h => by rw [capL]; exact ⟨h x (by simp), capL_of (fun v hv => h v (by simp [hv]))⟩
def capN (n : NodeG) : Prop := n.labels.length * 16 ≤ 140737488355328 ∧ n.props.length * 80 ≤ 140737488355328 ∧ ∀ p ∈ n.props, capV p.v
theorem own_appendB {P : Program} {t e size bytes : Nat} (T : ElT P t e size bytes) {ops : Array Oper} {rest : List Oper} {o : Oper} {a : Act} {Q : Exit → Act → World → Prop} {w : World} (hgd : o.guard = none) (s x : Operand)
    (ho : o.op = .call { callee := .builtin .append, args := #[s, x], argTypes := #[t, t] }) (wb : World) (v : Value) (n : Nat) (xs : List Value) (hs : a.eval s = v) (hown : w.ownsRow wb.heap.size e size v n xs) (hE : Ext wb w)
    (ad : Addr) (m c : Nat) (news : List Value) (hx : a.eval x = .slice (some ad) m c) (hl : news.length = m * size) (hnews : ∀ j u, news[j]? = some u → w.cell? (ad.add j) = some u) (h1 : ∀ u ∈ news, u.oneCell' = true)
    (h63 : n + m ≤ maxLen) (hbytes : (n + m) * bytes ≤ 140737488355328)
    (h : ∀ v' w', w'.ownsRow wb.heap.size e size v' (n + m) (xs ++ news) → Ext wb w' → wpList P ops Q rest (a.put o.dst v') w') : wpList P ops Q (o :: rest) a w := by
  obtain ⟨z, hz, hzc⟩ := T.hi
  obtain ⟨i, hi, hz0, hz1, hz2⟩ := info_parts hz
  refine wpList_append_own _ hgd s x t ho wb.heap.size e i z size bytes T.ht hi hz0 hz1 hz2 hzc T.hs v n xs hs hown ad m c news hx hl hnews h1 h63 hbytes hE.le ?_
  intro v' w' h2 h3 _
  exact h v' w' h2 (hE.grown h3 (fun k hk => (hown.lt k hk).1))
theorem T_prop : ElT Tryz.prog 43 108 6 80 := ⟨Tryz.underlying43, ⟨.agg #[.string ByteArray.empty, .int .i64 0, .int .i64 0, .int .i64 0, .string ByteArray.empty, .slice none 0 0], by kernel_rfl, rfl⟩, by decide⟩
theorem T_strB : ElT Tryz.prog 26 9 1 16 := ⟨Tryz.underlying26, ⟨.string ByteArray.empty, by kernel_rfl, rfl⟩, by decide⟩
set_option maxRecDepth 100000 in
theorem cB_Clone_val (n : Nat) (A : Option Addr) (c : Nat) (news : List Value) (w : World) (hA : A = none → n = 0) (hl : news.length = n * 5) (hs : ∀ ad, A = some ad → ∀ j u, news[j]? = some u → w.cell? (ad.add j) = some u) (h1 : ∀ u ∈ news, u.oneCell' = true) (hn : n * 64 ≤ 140737488355328) :
    Calls Tryz.prog 129 #[.slice A n c] w fun e w' => ∃ v, e = .returned v ∧ w'.ownsRow w.heap.size 37 5 v n news ∧ Ext w w' := by
  have hq := fun W => Lib.run_eql_slice_nil (P := Tryz.prog) W 32 37 A n c 0 0 Tryz.underlying32
  cases A with
  | none =>
    have h0 := hA rfl
    subst h0
    have HS := Lib.hid (List.eq_nil_of_length_eq_zero (show news.length = 0 by omega))
    clear hA hs hl
    simp only [Option.isNone_none] at hq
    go_enter Tryz.func129, Tryz.ntmps129
    go_wp2
    go_ret
    refine ⟨_, rfl, ?_, Ext.refl _⟩
    rw [HS.out]
    exact World.ownsRow_nil _ _ _ _
  | some ad =>
    have HF := Lib.hid (hs ad rfl)
    have HL := Lib.hid hl
    clear hs hA hl
    simp only [Option.isNone_some] at hq
    go_enter Tryz.func129, Tryz.ntmps129
    go_wp2_with (at_builtin; refine own_appendB T_val rfl (.tmp 5) (.tmp 6) rfl w _ 0 [] rfl (World.ownsRow_made w #[] 0 (Nat.le_refl _) (by unfold maxLen; omega) rfl) ((Ext.refl _).alloc _) ad n c news rfl HL.out (fun j u hu => ((Ext.refl w).alloc _).cell (HF.out j u hu)) h1 (by unfold maxLen; omega) (by omega) ?_; intro v' w' hown' hE')
    go_wp2_with fail
    go_ret
    exact ⟨v', rfl, by rw [Nat.zero_add, List.nil_append] at hown'; exact hown', hE'⟩
set_option maxRecDepth 100000 in
theorem cB_Clone_prop (n : Nat) (A : Option Addr) (c : Nat) (news : List Value) (w : World) (hA : A = none → n = 0) (hl : news.length = n * 6) (hs : ∀ ad, A = some ad → ∀ j u, news[j]? = some u → w.cell? (ad.add j) = some u) (h1 : ∀ u ∈ news, u.oneCell' = true) (hn : n * 80 ≤ 140737488355328) :
    Calls Tryz.prog 87 #[.slice A n c] w fun e w' => ∃ v, e = .returned v ∧ w'.ownsRow w.heap.size 108 6 v n news ∧ Ext w w' := by
  have hq := fun W => Lib.run_eql_slice_nil (P := Tryz.prog) W 43 108 A n c 0 0 Tryz.underlying43
  cases A with
  | none =>
    have h0 := hA rfl
    subst h0
    have HS := Lib.hid (List.eq_nil_of_length_eq_zero (show news.length = 0 by omega))
    clear hA hs hl
    simp only [Option.isNone_none] at hq
    go_enter Tryz.func87, Tryz.ntmps87
    go_wp2
    go_ret
    refine ⟨_, rfl, ?_, Ext.refl _⟩
    rw [HS.out]
    exact World.ownsRow_nil _ _ _ _
  | some ad =>
    have HF := Lib.hid (hs ad rfl)
    have HL := Lib.hid hl
    clear hs hA hl
    simp only [Option.isNone_some] at hq
    go_enter Tryz.func87, Tryz.ntmps87
    go_wp2_with (at_builtin; refine own_appendB T_prop rfl (.tmp 5) (.tmp 6) rfl w _ 0 [] rfl (World.ownsRow_made w #[] 0 (Nat.le_refl _) (by unfold maxLen; omega) rfl) ((Ext.refl _).alloc _) ad n c news rfl HL.out (fun j u hu => ((Ext.refl w).alloc _).cell (HF.out j u hu)) h1 (by unfold maxLen; omega) (by omega) ?_; intro v' w' hown' hE')
    go_wp2_with fail
    go_ret
    exact ⟨v', rfl, by rw [Nat.zero_add, List.nil_append] at hown'; exact hown', hE'⟩
set_option maxRecDepth 100000 in
theorem cB_Clone_str (n : Nat) (A : Option Addr) (c : Nat) (news : List Value) (w : World) (hA : A = none → n = 0) (hl : news.length = n * 1) (hs : ∀ ad, A = some ad → ∀ j u, news[j]? = some u → w.cell? (ad.add j) = some u) (h1 : ∀ u ∈ news, u.oneCell' = true) (hn : n * 16 ≤ 140737488355328) :
    Calls Tryz.prog 54 #[.slice A n c] w fun e w' => ∃ v, e = .returned v ∧ w'.ownsRow w.heap.size 9 1 v n news ∧ Ext w w' := by
  have hq := fun W => Lib.run_eql_slice_nil (P := Tryz.prog) W 26 9 A n c 0 0 Tryz.underlying26
  cases A with
  | none =>
    have h0 := hA rfl
    subst h0
    have HS := Lib.hid (List.eq_nil_of_length_eq_zero (show news.length = 0 by omega))
    clear hA hs hl
    simp only [Option.isNone_none] at hq
    go_enter Tryz.func54, Tryz.ntmps54
    go_wp2
    go_ret
    refine ⟨_, rfl, ?_, Ext.refl _⟩
    rw [HS.out]
    exact World.ownsRow_nil _ _ _ _
  | some ad =>
    have HF := Lib.hid (hs ad rfl)
    have HL := Lib.hid hl
    clear hs hA hl
    simp only [Option.isNone_some] at hq
    go_enter Tryz.func54, Tryz.ntmps54
    go_wp2_with (at_builtin; refine own_appendB T_strB rfl (.tmp 5) (.tmp 6) rfl w _ 0 [] rfl (World.ownsRow_made w #[] 0 (Nat.le_refl _) (by unfold maxLen; omega) rfl) ((Ext.refl _).alloc _) ad n c news rfl HL.out (fun j u hu => ((Ext.refl w).alloc _).cell (HF.out j u hu)) h1 (by unfold maxLen; omega) (by omega) ?_; intro v' w' hown' hE')
    go_wp2_with fail
    go_ret
    exact ⟨v', rfl, by rw [Nat.zero_add, List.nil_append] at hown'; exact hown', hE'⟩
/-- neither the box nor the result -/
def okQ (q b : Nat) : Prop := b ≠ q ∧ b ≠ q + 1
/-- what cloneValue's loop keeps -/
structure CvSt (w : World) (q : Nat) (v : Val) (A1 : Option Addr) (c1 : Nat) (W : World) (hs : List HV) (i : Nat) : Prop where
  ext : Ext w W
  hq : q = w.heap.size
  v5 : V5 W q 0 v A1 c1
  z5 : V5 W (q + 1) 0 (.mk 0 0 0 ⟨#[]⟩ []) none 0
  fz : ∀ j, W.frozen? ⟨q + 1, j, none⟩ = false
  own : OwnV W (q + 2) (okQ q) (.slice A1 v.l.length c1) hs
  vals : hs.map HV.v = v.l
  new : ∀ k (hk : k < hs.length), k < i → KHV.lies W (fun b => w.heap.size ≤ b ∧ okQ q b ∧ some b ≠ (Value.slice A1 v.l.length c1).ownBlock) hs[k]
theorem CvSt.step {w W w7 : World} {q : Nat} {v : Val} {g c1 : Nat} {hs : List HV} {i : Nat} (h : CvSt w q v (some ⟨g, 0, none⟩) c1 W hs i) (hi : i < hs.length) (A7 : Option Addr) (c7 : Nat) (hx7 : Ext W w7) (hc7 : hs[i].v.l.length ≤ c7) (hV7 : Vals w7 (fun b => W.heap.size ≤ b) A7 hs[i].v.l) :
    ∃ W8, W8 = (((((w7.setCell ⟨g, i * 5, none⟩ (.int .i64 hs[i].v.kind)).setCell ⟨g, i * 5 + 1, none⟩ (.int .i64 hs[i].v.n)).setCell ⟨g, i * 5 + 2, none⟩ (.int .i64 hs[i].v.d)).setCell ⟨g, i * 5 + 3, none⟩ (.string hs[i].v.s)).setCell ⟨g, i * 5 + 4, none⟩ (.slice A7 hs[i].v.l.length c7)) ∧ CvSt w q v (some ⟨g, 0, none⟩) c1 W8 (hs.set i ⟨A7, c7, hs[i].v⟩) (i + 1) ∧
      (w7.cell? ⟨g, i * 5, none⟩ = some (.int .i64 hs[i].v.kind) ∧ w7.cell? ⟨g, i * 5 + 1, none⟩ = some (.int .i64 hs[i].v.n) ∧ w7.cell? ⟨g, i * 5 + 2, none⟩ = some (.int .i64 hs[i].v.d) ∧ w7.cell? ⟨g, i * 5 + 3, none⟩ = some (.string hs[i].v.s) ∧ w7.cell? ⟨g, i * 5 + 4, none⟩ = some (.slice hs[i].A hs[i].v.l.length hs[i].c)) ∧
      (w7.frozen? ⟨g, i * 5, none⟩ = false ∧ w7.frozen? ⟨g, i * 5 + 1, none⟩ = false ∧ w7.frozen? ⟨g, i * 5 + 2, none⟩ = false ∧ w7.frozen? ⟨g, i * 5 + 3, none⟩ = false ∧ w7.frozen? ⟨g, i * 5 + 4, none⟩ = false) ∧
      (W8.cell? ⟨q, 4, none⟩ = some (.slice (some ⟨g, 0, none⟩) v.l.length c1) ∧ W8.cell? ⟨g, i * 5, none⟩ = some (.int .i64 hs[i].v.kind) ∧ W8.cell? ⟨g, i * 5 + 1, none⟩ = some (.int .i64 hs[i].v.n) ∧ W8.cell? ⟨g, i * 5 + 2, none⟩ = some (.int .i64 hs[i].v.d) ∧ W8.cell? ⟨g, i * 5 + 3, none⟩ = some (.string hs[i].v.s) ∧ W8.cell? ⟨g, i * 5 + 4, none⟩ = some (.slice A7 hs[i].v.l.length c7)) := by
  have hO7 := h.own.ext hx7
  have hgW : g < W.heap.size := (OwnG.lt h.own rfl).2
  have hgq : q + 2 ≤ g := (OwnG.lt h.own rfl).1
  have hqw := h.hq
  obtain ⟨q5, f5⟩ := own_cells5 hO7 hi
  have hlV : KHV.lies w7 (fun b => okQ q b ∧ some b ≠ some g) (⟨A7, c7, hs[i].v⟩ : HV) := ⟨hc7, hV7.to (fun b hb => ⟨⟨by omega, by omega⟩, fun e => by have h5 : b = g := Option.some.inj e; omega⟩)⟩
  obtain ⟨hO8, hG8⟩ := OwnG.put5 (K := KHV) rfl hO7 hi (⟨A7, c7, hs[i].v⟩ : HV) (a0 := .int .i64 hs[i].v.kind) (a1 := .int .i64 hs[i].v.n) (a2 := .int .i64 hs[i].v.d) (a3 := .string hs[i].v.s) (a4 := .slice A7 hs[i].v.l.length c7) rfl hlV
  have hn0 : some q ≠ some g := fun e => by have := Option.some.inj e; omega
  have hn1 : some (q + 1) ≠ some g := fun e => by have := Option.some.inj e; omega
  have hset : (hs.set i ⟨A7, c7, hs[i].v⟩).map HV.v = v.l := by
    rw [List.map_set, ← h.vals]
    apply List.ext_getElem
    · simp
    · intro k h1 h2
      rw [List.getElem_set]
      split
      · rename_i e; subst e; simp
      · rfl
  have k5 := own_cells5 hO8 (i := i) (by rw [List.length_set]; exact hi)
  have hgi : (hs.set i (⟨A7, c7, hs[i].v⟩ : HV))[i]'(by rw [List.length_set]; exact hi) = ⟨A7, c7, hs[i].v⟩ := by simp
  rw [hgi] at k5
  obtain ⟨v0, v1, v2, v3, v4⟩ := h.v5.ext hx7
  obtain ⟨z0, z1, z2, z3, z4⟩ := h.z5.ext hx7
  have hkeep : ∀ b o y, (w.heap.size ≤ b ∧ okQ q b ∧ some b ≠ (Value.slice (some ⟨g, 0, none⟩) v.l.length c1).ownBlock) → w7.cell? ⟨b, o, none⟩ = some y → (((((w7.setCell ⟨g, i * 5, none⟩ (.int .i64 hs[i].v.kind)).setCell ⟨g, i * 5 + 1, none⟩ (.int .i64 hs[i].v.n)).setCell ⟨g, i * 5 + 2, none⟩ (.int .i64 hs[i].v.d)).setCell ⟨g, i * 5 + 3, none⟩ (.string hs[i].v.s)).setCell ⟨g, i * 5 + 4, none⟩ (.slice A7 hs[i].v.l.length c7)).cell? ⟨b, o, none⟩ = some y ∧ (w.heap.size ≤ b ∧ okQ q b ∧ some b ≠ (Value.slice (some ⟨g, 0, none⟩) v.l.length c1).ownBlock) := fun b o y hb hc => ⟨hG8.cell hc (fun e => hb.2.2 e), hb⟩
  refine ⟨_, rfl, ⟨(h.ext.trans hx7).grown hG8 (fun k hk => by have := Option.some.inj hk; omega), hqw, ⟨hG8.cell v0 hn0, hG8.cell v1 hn0, hG8.cell v2 hn0, hG8.cell v3 hn0, hG8.cell v4 hn0⟩, ⟨hG8.cell z0 hn1, hG8.cell z1 hn1, hG8.cell z2 hn1, hG8.cell z3 hn1, hG8.cell z4 hn1⟩, fun j => ?_, hO8, hset, fun k hk hki => ?_⟩, q5, f5, hG8.cell v4 hn0, k5.1⟩
  · have h1 := h.z5.1
    have h2 : w7.frozen? ⟨q + 1, j, none⟩ = false := by
      have hlt : q + 1 < W.heap.size := block_lt_of_cell h1
      exact (frz_heap (a := W) (b := w7) (p := ⟨q + 1, j, none⟩) (hx7.block _ hlt)).trans (h.fz j)
    have hlt : q + 1 < w7.heap.size := block_lt_of_cell z0
    exact (frz_heap (a := w7) (p := ⟨q + 1, j, none⟩) (hG8.block _ hlt hn1)).trans h2
  · rw [List.getElem_set]
    split
    · refine KHV.keep _ _ _ _ _ hkeep (⟨hc7, hV7.to (fun b hb => ⟨by have := h.ext.le; omega, ⟨by omega, by omega⟩, fun e => by have h5 : b = g := Option.some.inj e; omega⟩)⟩ : KHV.lies w7 (fun b => w.heap.size ≤ b ∧ okQ q b ∧ some b ≠ (Value.slice (some ⟨g, 0, none⟩) v.l.length c1).ownBlock) (⟨A7, c7, hs[i].v⟩ : HV))
    · have hk' : k < hs.length := by simpa using hk
      exact KHV.keep _ _ _ _ _ hkeep (KHV.keep _ _ _ _ _ (fun b o y hb hc => ⟨hx7.cell hc, hb⟩) (h.new k hk' (by omega)))
set_option maxRecDepth 100000 in
set_option maxHeartbeats 6400000 in
theorem gv_cloneStep (v : Val) (ok : Nat → Prop) (A : Option Addr) (c : Nat) (w : World) (hv : Vals w ok A v.l) (hcap : v.l.length * 64 ≤ 140737488355328)
    (ih : ∀ x ∈ v.l, ∀ (ok : Nat → Prop) (Ax : Option Addr) (cx : Nat) (W : World), Vals W ok Ax x.l → Calls Tryz.prog 88 #[.agg #[.int .i64 x.kind, .int .i64 x.n, .int .i64 x.d, .string x.s, .slice Ax x.l.length cx]] W fun e W' => ∃ A' c', e = .returned (.agg #[.int .i64 x.kind, .int .i64 x.n, .int .i64 x.d, .string x.s, .slice A' x.l.length c']) ∧ x.l.length ≤ c' ∧ Vals W' (fun b => W.heap.size ≤ b) A' x.l ∧ Ext W W') :
    Calls Tryz.prog 88 #[.agg #[.int .i64 v.kind, .int .i64 v.n, .int .i64 v.d, .string v.s, .slice A v.l.length c]] w fun e w' => ∃ A' c', e = .returned (.agg #[.int .i64 v.kind, .int .i64 v.n, .int .i64 v.d, .string v.s, .slice A' v.l.length c']) ∧ v.l.length ≤ c' ∧ Vals w' (fun b => w.heap.size ≤ b) A' v.l ∧ Ext w w' := by
  have hm := hv.len
  obtain ⟨hs0, hm0, hl0, hf0⟩ := hv.heads
  have hn0 : hs0.length = v.l.length := by rw [← hm0, List.length_map]
  have HCL := Lib.hid (fun W (e : Ext w W) => cB_Clone_val v.l.length A c (hs0.flatMap HV.cells) W hv.none_ (by rw [flat_len HV.cells 5 (fun _ => rfl), hn0]) (fun ad ea j u hu => e.cell (hf0 ad ea j u hu)) (fun u hu => by
    obtain ⟨x, -, hx⟩ := List.mem_flatMap.1 hu
    exact Val.cells_one _ _ _ u hx) hcap)
  have HL0 := Lib.hid (fun p hp => KHV.keep w w _ (fun b => b < w.heap.size) p (fun b o y _ hc => ⟨hc, block_lt_of_cell hc⟩) (hl0 p hp))
  have HI := Lib.hid ih
  have HM0 := Lib.hid hm0
  have HN0 := Lib.hid hn0
  obtain ⟨q, w1, hq, hw1, hv5, hz5, hfz, hx1, hsz⟩ : ∃ (q : Nat) (w1 : World), q = w.heap.size ∧ w1 = (w.alloc (.cells #[.int .i64 v.kind, .int .i64 v.n, .int .i64 v.d, .string v.s, .slice A v.l.length c] 37)).alloc (.cells #[.int .i64 0, .int .i64 0, .int .i64 0, .string ⟨#[]⟩, .slice none 0 0] 37) ∧ V5 w1 q 0 v A c ∧ V5 w1 (q + 1) 0 (.mk 0 0 0 ⟨#[]⟩ []) none 0 ∧ (∀ b j, w.heap.size ≤ b → w1.frozen? ⟨b, j, none⟩ = false) ∧ Ext w w1 ∧ w1.heap.size = q + 2 := by
    refine ⟨_, _, rfl, rfl, ⟨by go_simp, by go_simp, by go_simp, by go_simp, by go_simp⟩, ⟨by go_simp; rfl, by go_simp; rfl, by go_simp; rfl, by go_simp; rfl, by go_simp; rfl⟩, fun b j hb => ?_, (by solve_by_elim [X0, X1, X2, X3]), by simp⟩
    have h3 : b = w.heap.size ∨ b = w.heap.size + 1 ∨ w.heap.size + 2 ≤ b := by omega
    rcases h3 with rfl | rfl | h3
    · go_simp
    · go_simp
    · unfold World.frozen?
      rw [Array.getElem?_eq_none (by simp; omega)]
  have HW1 := Lib.hid hw1
  have HQ := Lib.hid hq
  have HX1 := Lib.hid hx1
  have HSZ := Lib.hid hsz
  have HFZ := Lib.hid (fun b j => hfz b j)
  have HV5 := Lib.hid hv5
  have HZ5 := Lib.hid hz5
  obtain ⟨c0, c1, c2, c3, c4⟩ := hv5
  have f4 := hfz q 4 (Nat.le_of_eq hq.symm)
  clear hv hcap ih hf0 hl0 hm0 hn0 hw1 hq hz5 hfz hsz
  go_enter Tryz.func88, Tryz.ntmps88
  go_upto_region 1 with (fail)
  rw [← HW1.out, ← HQ.out]
  clear HW1
  go_upto_region 2 with (go_at_call 129; ((with_reducible refine (HCL.out _ HX1.out).mono ?_); rintro e w2 ⟨vv, rfl, hown, hx2⟩; obtain ⟨A1, cc, rfl⟩ := own_form hown; have f4' := frz_ext hx2 c4 f4; have c4' := hx2.cell c4))
  have HST0 := Lib.hid (show CvSt w q v A1 cc (w2.setCell ⟨q, 4, none⟩ (.slice A1 v.l.length cc)) hs0 0 by
    have hO2 : OwnV w2 (q + 2) (okQ q) (.slice A1 v.l.length cc) hs0 := by
      refine ⟨?_, fun p hp => ?_⟩
      · have := hown
        rw [HSZ.out] at this
        rw [HN0.out]; exact this
      · refine KHV.keep _ _ _ _ _ (fun b o y hb hc => ⟨(HX1.out.trans hx2).cell hc, ⟨by have := HQ.out; omega, by have := HQ.out; omega⟩, fun e => ?_⟩) (HL0.out p hp)
        have h1 := (hown.lt b e.symm).1
        have h2 := HX1.out.le
        omega
    have hg := gr_set w2 q 4 (.slice A1 v.l.length cc)
    have hne : (Value.slice A1 v.l.length cc).ownBlock ≠ some q := fun e => by have := (OwnG.lt hO2 e).1; omega
    obtain ⟨k0, k1, k2, k3, k4⟩ := HV5.out.ext hx2
    obtain ⟨z0, z1, z2, z3, z4⟩ := HZ5.out.ext hx2
    have hn1 : some (q + 1) ≠ some q := fun e => by have := Option.some.inj e; omega
    have hqw := HQ.out
    have oth : ∀ {j : Nat} {u : Value}, j ≠ 4 → w2.cell? ⟨q, j, none⟩ = some u → (w2.setCell ⟨q, 4, none⟩ (.slice A1 v.l.length cc)).cell? ⟨q, j, none⟩ = some u := fun hj hc => by
      rw [World.cell?_setCell_other _ _ _ _ (fun e => by injection e with _ e2; exact hj e2.symm)]; exact hc
    refine ⟨(HX1.out.trans hx2).grown hg (fun k hk => by have := Option.some.inj hk; omega), hqw, ⟨oth (by decide) k0, oth (by decide) k1, oth (by decide) k2, oth (by decide) k3, World.cell?_setCell_same' _ _ _ (by rw [show w2.cell? ⟨q, 4, none⟩ = _ from k4]; rfl)⟩, ⟨hg.cell z0 hn1, hg.cell z1 hn1, hg.cell z2 hn1, hg.cell z3 hn1, hg.cell z4 hn1⟩, fun j => ?_, OwnG.grown hO2 hg (.inr hne) (fun b hb h => h.1 (Option.some.inj hb)), HM0.out, fun k hk h => absurd h (by omega)⟩
    rw [World.frozen?_setCell]
    exact (frz_heap (a := w1) (b := w2) (p := ⟨q + 1, j, none⟩) (hx2.block _ (show q + 1 < w1.heap.size from block_lt_of_cell HZ5.out.1))).trans (HFZ.out (q + 1) j (by omega)))
  obtain ⟨W3, hW3⟩ : ∃ W3, W3 = w2.setCell ⟨q, 4, none⟩ (.slice A1 v.l.length cc) := ⟨_, rfl⟩
  rw [← hW3] at HST0 ⊢
  clear hW3 hown hx2 f4' c4' c0 c1 c2 c3 c4 f4 HCL HL0 HM0 HN0 HV5 HZ5 HFZ HSZ
  have c4 := HST0.out.v5.2.2.2.2
  rw [Nat.zero_add] at c4
  go_wp2_with fail
  go_loopw [11] (fun u W => ∃ (i : Nat) (hs : List HV), u = .int .i64 i ∧ i ≤ v.l.length ∧ Hid (CvSt w q v A1 cc W hs i)) (fun u _ => v.l.length - (intOf u).toNat)
  case atStart => exact ⟨0, hs0, rfl, Nat.zero_le _, HST0⟩
  case round =>
    clear HST0 c4
    obtain ⟨i, hs, rfl, hi, HS⟩ := hrel
    have hl : hs.length = v.l.length := by rw [← HS.out.vals, List.length_map]
    by_cases hlt : i < v.l.length
    · have hih : i < hs.length := by omega
      obtain ⟨g, c9, hve, hgq, hgw, hcc⟩ := ownV_some HS.out.own (by omega)
      injection hve with e1 e2 e3
      subst e1 e3
      obtain ⟨⟨p0, p1, p2, p3, p4⟩, -⟩ := own_cells5 HS.out.own hih
      have p5 := HS.out.v5.2.2.2.2
      rw [Nat.zero_add] at p5
      have hxm : hs[i].v ∈ v.l := by rw [← HS.out.vals]; exact List.mem_map_of_mem (List.getElem_mem hih)
      have hlie := HS.out.own.lies hs[i] (List.getElem_mem hih)
      have HC := Lib.hid (fun W (e : Ext wr W) => HI.out hs[i].v hxm _ hs[i].A hs[i].c W (hlie.2.ext e))
      have HST := Lib.hid (fun w7 A7 c7 (e : Ext wr w7) h1 h2 => HS.out.step hih A7 c7 e h1 h2)
      clear hxm hlie e2 HS HI
      have HLL := Lib.hid hl
      clear hl
      generalize hs[i] = x at *
      generalize v.l.length = m at *
      have MK5 := Lib.hid (fun V (e : Ext wr V) => (⟨e.cell p5, e.cell p0, e.cell p1, e.cell p2, e.cell p3, e.cell p4⟩ : V.cell? ⟨q, 4, none⟩ = some (.slice (some ⟨g, 0, none⟩) m cc) ∧ V.cell? ⟨g, i * 5, none⟩ = some (.int .i64 x.v.kind) ∧ V.cell? ⟨g, i * 5 + 1, none⟩ = some (.int .i64 x.v.n) ∧ V.cell? ⟨g, i * 5 + 2, none⟩ = some (.int .i64 x.v.d) ∧ V.cell? ⟨g, i * 5 + 3, none⟩ = some (.string x.v.s) ∧ V.cell? ⟨g, i * 5 + 4, none⟩ = some (.slice x.A x.v.l.length x.c)))
      go_upto_region 5 with (fail)
      clear p0 p1 p2 p3 p4 p5
      refine AnyE.start (S := (fun V => V.cell? ⟨q, 4, none⟩ = some (.slice (some ⟨g, 0, none⟩) m cc) ∧ V.cell? ⟨g, i * 5, none⟩ = some (.int .i64 x.v.kind) ∧ V.cell? ⟨g, i * 5 + 1, none⟩ = some (.int .i64 x.v.n) ∧ V.cell? ⟨g, i * 5 + 2, none⟩ = some (.int .i64 x.v.d) ∧ V.cell? ⟨g, i * 5 + 3, none⟩ = some (.string x.v.s) ∧ V.cell? ⟨g, i * 5 + 4, none⟩ = some (.slice x.A x.v.l.length x.c))) (E := 10) (by kernel_rfl) ?hs8001 (fun hHeld => ?go8001)
      case hs8001 => (exact MK5.out _ (by solve_by_elim [X0, X1, X2, X3]))
      refine AnyE.takeP (i := 0) (oi := ⟨_, _, _, _, _, _⟩) (v := ?v8002) rfl (by kernel_rfl) (by kernel_rfl) (by kernel_rfl) (fun _ _ _ h => h) rfl (Or.inl ⟨rfl, ?hy8002⟩) (fun _ => hHeld) ?_
      case hy8002 => (intro w _; go_simp <;> rfl)
      (try simp only [PU])
      refine AnyE.take (i := 1) (oi := ⟨_, _, _, _, _, _⟩) (v := ?v8003) rfl (by kernel_rfl) (by kernel_rfl) (by kernel_rfl) (fun _ _ _ h => h) (by kernel_rfl) rfl (by kernel_rfl) (Or.inl ⟨rfl, ?hy8003⟩) hHeld ?_
      case hy8003 => (intro w hSw; (try dsimp only at hSw); go_simp <;> first | with_reducible rfl | rw [if_neg (by omega)] | rw [if_pos (by omega)])
      (try simp only [PU])
      refine AnyE.takeP (i := 2) (oi := ⟨_, _, _, _, _, _⟩) (v := ?v8004) rfl (by kernel_rfl) (by kernel_rfl) (by kernel_rfl) (fun _ _ _ h => h) rfl (Or.inl ⟨rfl, ?hy8004⟩) (fun _ => hHeld) ?_
      case hy8004 => (intro w _; go_simp <;> rfl)
      (try simp only [PU])
      refine AnyE.takeP (i := 3) (oi := ⟨_, _, _, _, _, _⟩) (v := ?v8005) rfl (by kernel_rfl) (by kernel_rfl) (by kernel_rfl) (fun _ _ _ h => h) rfl (Or.inl ⟨rfl, ?hy8005⟩) (fun _ => hHeld) ?_
      case hy8005 => (intro w _; go_simp <;> rfl)
      (try simp only [PU])
      refine AnyE.take (i := 4) (oi := ⟨_, _, _, _, _, _⟩) (v := ?v8006) rfl (by kernel_rfl) (by kernel_rfl) (by kernel_rfl) (fun _ _ _ h => h) (by kernel_rfl) rfl (by kernel_rfl) (Or.inl ⟨rfl, ?hy8006⟩) hHeld ?_
      case hy8006 => (intro w hSw; (try dsimp only at hSw); go_simp <;> first | with_reducible rfl | rw [if_neg (by omega)] | rw [if_pos (by omega)])
      (try simp only [PU])
      refine AnyE.takeP (i := 5) (oi := ⟨_, _, _, _, _, _⟩) (v := ?v8007) rfl (by kernel_rfl) (by kernel_rfl) (by kernel_rfl) (fun _ _ _ h => h) rfl (Or.inl ⟨rfl, ?hy8007⟩) (fun _ => hHeld) ?_
      case hy8007 => (intro w _; go_simp <;> rfl)
      (try simp only [PU])
      refine AnyE.takeP (i := 6) (oi := ⟨_, _, _, _, _, _⟩) (v := ?v8008) rfl (by kernel_rfl) (by kernel_rfl) (by kernel_rfl) (fun _ _ _ h => h) rfl (Or.inl ⟨rfl, ?hy8008⟩) (fun _ => hHeld) ?_
      case hy8008 => (intro w _; go_simp <;> first | with_reducible rfl | rw [if_neg (by omega)] | rw [if_pos (by omega)])
      (try simp only [PU])
      refine AnyE.take (i := 7) (oi := ⟨_, _, _, _, _, _⟩) (v := ?v8009) rfl (by kernel_rfl) (by kernel_rfl) (by kernel_rfl) (fun _ _ _ h => h) (by kernel_rfl) rfl (by kernel_rfl) (Or.inl ⟨rfl, ?hy8009⟩) hHeld ?_
      case hy8009 => (intro w hSw; (try dsimp only at hSw); go_simp <;> first | with_reducible rfl | rw [if_neg (by omega)] | rw [if_pos (by omega)])
      (try simp only [PU])
      refine AnyE.ready (rs := [8]) (by kernel_rfl) (by simp) ?_
      refine AllE.cons (o := ⟨_, _, _, _, _, _⟩) rfl (fun K hK => ?step8010x0) ?more8010x0
      case more8010x0 => exact AllE.nil
      go_simp
      (refine (HC.out _ (by solve_by_elim [X0, X1, X2, X3])).mono ?_; rintro r w7 ⟨A7, c7, rfl, hc7, hV7, hx7⟩; replace hx7 : Ext wr w7 := Ext.trans (by solve_by_elim [X0, X1, X2, X3]) hx7; obtain ⟨W8, hW8, HS8, ⟨q0, q1, q2, q3, q4⟩, ⟨f0, f1, f2, f3, f4⟩, hS8⟩ := HST.out w7 A7 c7 hx7 hc7 hV7)
      refine hK.out _ _ ?hS8010x0 (fun H8010 => ?_)
      case hS8010x0 => intro _; first | (exact MK5.out _ (by solve_by_elim [X0, X1, X2, X3])) | ((try dsimp only); (exact MK5.out _ (by solve_by_elim [X0, X1, X2, X3])))
      clear hK K
      clear hHeld
      (try simp only [PU])
      refine AnyE.takeP (i := 9) (oi := ⟨_, _, _, _, _, _⟩) (v := ?v8011) rfl (by kernel_rfl) (by kernel_rfl) (by kernel_rfl) (fun _ _ _ h => h) rfl (Or.inl ⟨rfl, ?hy8011⟩) (fun _ => (H8010 (by kernel_rfl))) ?_
      case hy8011 => (intro w _; go_simp <;> first | with_reducible rfl | rw [if_neg (by omega)] | rw [if_pos (by omega)])
      (try simp only [PU])
      refine AnyE.ready (rs := [10]) (by kernel_rfl) (by simp) ?_
      refine AllE.cons (o := ⟨_, _, _, _, _, _⟩) rfl (fun K hK => ?step8012x0) ?more8012x0
      case more8012x0 => exact AllE.nil
      go_simp
      (rw [← hW8]; clear hW8)
      refine hK.out _ _ ?hS8012x0 (fun H8012 => ?_)
      case hS8012x0 => first | (intro h; exact absurd h (by decide)) | (intro h; simp at h)
      clear hK K
      clear H8010
      refine AnyE.done (by kernel_rfl) ?_ _
      clear H8012
      clear q0 q1 q2 q3 q4 f0 f1 f2 f3 f4 hS8 hV7
      go_wp2_with fail
      go_roundw
      case rel => exact ⟨i + 1, _, by go_num, by omega, HS8⟩
      case measure => simp [intOf]; omega
    · have hie : v.l.length ≤ i := by omega
      have hO : OwnV wr (q + 2) (fun b => w.heap.size ≤ b ∧ okQ q b) (.slice A1 v.l.length cc) hs := ⟨HS.out.own.own, fun p hp => by
        obtain ⟨k, hk, rfl⟩ := List.getElem_of_mem hp
        exact KHV.keep _ _ _ _ _ (fun b o y hb hc => ⟨hc, ⟨hb.1, hb.2.1⟩, hb.2.2⟩) (HS.out.new k hk (by omega))⟩
      have HRES := Lib.hid (show v.l.length ≤ cc ∧ Vals wr (fun b => w.heap.size ≤ b ∧ b ≠ q + 1) A1 v.l by
        obtain ⟨A9, c9, e9, h9, hV9⟩ := own_sliceR (R := VCells wr (fun b => w.heap.size ≤ b ∧ b ≠ q + 1)) (l := v.l) (cs := hs.map HV.cells) (by rw [← List.flatMap_def]; exact hO.own) (by rw [hl]) (by rw [List.length_map, hl]) (fun x hx => by obtain ⟨y, -, rfl⟩ := List.mem_map.1 hx; rfl) hm (fun g' hg' _ k hk hk' hcell => by
          have hk2 : k < hs.length := by rw [hl]; exact hk
          have hlie := hO.lies hs[k] (List.getElem_mem hk2)
          have hxe : v.l[k] = hs[k].v := by
            have := HS.out.vals
            rw [List.getElem_of_eq this.symm (by exact hk), List.getElem_map]
          rw [List.getElem_map] at hcell
          rw [hxe]
          have hqw := HS.out.hq
          exact VCells.iff.2 ⟨⟨by omega, by omega⟩, hs[k].A, hs[k].c, ⟨by have := hcell 0 (.int .i64 hs[k].v.kind) rfl; simpa using this, hcell 1 _ rfl, hcell 2 _ rfl, hcell 3 _ rfl, hcell 4 _ rfl⟩, hlie.1, hlie.2.to (fun b hb => ⟨hb.1.1, hb.1.2.2⟩)⟩)
        injection e9 with k1 k2 k3
        subst k1 k3
        exact ⟨h9, hV9⟩)
      have HE := Lib.hid HS.out.ext
      have HQW := Lib.hid HS.out.hq
      obtain ⟨a0, a1, a2, a3, a4⟩ := HS.out.v5
      obtain ⟨z0, z1, z2, z3, z4⟩ := HS.out.z5
      have fz := HS.out.fz
      simp only [Nat.zero_add, Val.kind, Val.n, Val.d, Val.s, Val.l, List.length_nil] at z0 z1 z2 z3 z4
      simp only [Nat.zero_add] at a0 a1 a2 a3 a4
      clear hO HS HI hl
      go_wp2_with fail
      refine bodyPost_ret (v := .agg #[.int .i64 v.kind, .int .i64 v.n, .int .i64 v.d, .string v.s, .slice A1 v.l.length cc]) (by simp [results, Tryz.results88, go_sem, z0, z1, z2, z3, z4]) rfl ⟨A1, cc, rfl, HRES.out.1, ?_, ?_⟩
      · refine HRES.out.2.keep (fun b o x hb hc => ?_) (fun b hb => hb.1)
        have hh : ∀ (V : World) (j : Nat) (u : Value), (V.setCell ⟨q + 1, j, none⟩ u).cell? ⟨b, o, none⟩ = V.cell? ⟨b, o, none⟩ := fun V j u => World.cell?_setCell_other _ _ _ _ (fun e => hb.2 (by injection e with e1; exact e1.symm))
        repeat rw [hh]
        exact hc
      · have h3 := HE.out
        have hgw : w.heap.size ≤ q + 1 := by have := HQW.out; omega
        repeat (first | with_reducible assumption | (with_reducible refine Ext.setCell ?_ hgw _))
end Go.Proofs.YtigmdddeplnciaaGreatDoor

/- THE WALKS over graph.cloneValue, cloneProps and Node. -/
namespace Go.Proofs.YtigmdddeplnciaaGreatDoor
open Go.RowKit
theorem gv_cloneN : ∀ (N : Nat) (v : Val) (ok : Nat → Prop) (A : Option Addr) (c : Nat) (w : World), wtV v ≤ N → capV v → Vals w ok A v.l →
    Calls Tryz.prog 88 #[.agg #[.int .i64 v.kind, .int .i64 v.n, .int .i64 v.d, .string v.s, .slice A v.l.length c]] w fun e w' => ∃ A' c', e = .returned (.agg #[.int .i64 v.kind, .int .i64 v.n, .int .i64 v.d, .string v.s, .slice A' v.l.length c']) ∧ v.l.length ≤ c' ∧ Vals w' (fun b => w.heap.size ≤ b) A' v.l ∧ Ext w w'
  | 0, v, ok, A, c, w, hN, hc, hv => by unfold wtV at hN; omega
  | N + 1, v, ok, A, c, w, hN, hc, hv => gv_cloneStep v ok A c w hv (capV_iff.1 hc).1 (fun x hx ok' Ax cx W hx' => gv_cloneN N x ok' Ax cx W (by have := wtL_mem hx; unfold wtV at hN ⊢; unfold wtV at this; omega) (capL_mem (capV_iff.1 hc).2 hx) hx')
theorem gv_clone (v : Val) (ok : Nat → Prop) (A : Option Addr) (c : Nat) (w : World) (hc : capV v) (hv : Vals w ok A v.l) :
    Calls Tryz.prog 88 #[.agg #[.int .i64 v.kind, .int .i64 v.n, .int .i64 v.d, .string v.s, .slice A v.l.length c]] w fun e w' => ∃ A' c', e = .returned (.agg #[.int .i64 v.kind, .int .i64 v.n, .int .i64 v.d, .string v.s, .slice A' v.l.length c']) ∧ v.l.length ≤ c' ∧ Vals w' (fun b => w.heap.size ≤ b) A' v.l ∧ Ext w w' :=
  gv_cloneN (wtV v) v ok A c w (Nat.le_refl _) hc hv
/-- a property, with its value's head -/
structure HP where
  A : Option Addr
  c : Nat
  p : PropG
def HP.cells (h : HP) : List Value := .string h.p.key :: h.p.v.cells h.A h.c
def KHP : KindG HP := ⟨HP.cells, 6, fun W ok h => h.p.v.l.length ≤ h.c ∧ Vals W ok h.A h.p.v.l, fun _ => rfl, fun _ u hu => by
  rcases List.mem_cons.1 hu with e | e
  · rw [e]; rfl
  · exact Val.cells_one _ _ _ u e, fun _ _ _ _ _ hk hl => ⟨hl.1, hl.2.keep' hk⟩⟩
abbrev OwnPr (W : World) (base : Nat) (ok0 : Nat → Prop) (v : Value) (hs : List HP) : Prop := OwnG KHP 108 W base ok0 v hs
theorem Props.heads {w : World} {ok : Nat → Prop} : ∀ {l : List PropG} {b o : Nat}, (∀ k (h : k < l.length), PropC w ok b (o + k * 6) l[k]) → ∃ hs : List HP, hs.map HP.p = l ∧ (∀ p ∈ hs, KHP.lies w ok p) ∧ ∀ j u, (hs.flatMap HP.cells)[j]? = some u → w.cell? ⟨b, o + j, none⟩ = some u
  | [], b, o, _ => ⟨[], rfl, fun p hp => absurd hp (by simp), fun j u hu => by simp at hu⟩
  | x :: l, b, o, h => by
    obtain ⟨hs, h1, h2, h3⟩ := Props.heads (l := l) (b := b) (o := o + 6) (fun k hk => by
      have := h (k + 1) (by simpa using hk)
      rw [show o + (k + 1) * 6 = o + 6 + k * 6 by omega] at this
      exact this)
    have h0 := h 0 (by simp)
    rw [Nat.zero_mul, Nat.add_zero] at h0
    obtain ⟨k0, k1⟩ := h0
    obtain ⟨-, A, c, ⟨c0, c1, c2, c3, c4⟩, hle, hv⟩ := VCells.iff.1 k1
    refine ⟨⟨A, c, x⟩ :: hs, by rw [List.map_cons, h1], fun p hp => ?_, fun j u hu => ?_⟩
    · rcases List.mem_cons.1 hp with e | e
      · rw [e]; exact ⟨hle, hv⟩
      · exact h2 p e
    · rw [List.flatMap_cons] at hu
      by_cases hj : j < 6
      · rw [List.getElem?_append_left (by simpa [HP.cells, Val.cells] using hj)] at hu
        have hj' : j = 0 ∨ j = 1 ∨ j = 2 ∨ j = 3 ∨ j = 4 ∨ j = 5 := by omega
        rcases hj' with rfl | rfl | rfl | rfl | rfl | rfl <;> (cases hu; assumption)
      · rw [List.getElem?_append_right (by simp [HP.cells, Val.cells]; omega)] at hu
        have := h3 _ u hu
        rw [show o + 6 + (j - (HP.cells ⟨A, c, x⟩).length) = o + j by simp [HP.cells, Val.cells]; omega] at this
        exact this
/-- the five cells of a property's value stored anew -/
theorem OwnPr.put {W : World} {base g n c : Nat} {ok0 : Nat → Prop} {hs : List HP} (h : OwnPr W base ok0 (.slice (some ⟨g, 0, none⟩) n c) hs) {i : Nat} (hi : i < hs.length) (A7 : Option Addr) (c7 : Nat) (hc : hs[i].p.v.l.length ≤ c7) (hv : Vals W (fun b => ok0 b ∧ some b ≠ some g) A7 hs[i].p.v.l) :
    ∃ W8, W8 = (((((W.setCell ⟨g, i * 6 + 1, none⟩ (.int .i64 hs[i].p.v.kind)).setCell ⟨g, i * 6 + 1 + 1, none⟩ (.int .i64 hs[i].p.v.n)).setCell ⟨g, i * 6 + 1 + 2, none⟩ (.int .i64 hs[i].p.v.d)).setCell ⟨g, i * 6 + 1 + 3, none⟩ (.string hs[i].p.v.s)).setCell ⟨g, i * 6 + 1 + 4, none⟩ (.slice A7 hs[i].p.v.l.length c7)) ∧ OwnPr W8 base ok0 (.slice (some ⟨g, 0, none⟩) n c) (hs.set i ⟨A7, c7, hs[i].p⟩) ∧ W.grownBy W8 (some g) := by
  have same : ∀ {V : World} (j : Nat) (u : Value), OwnPr V base ok0 (.slice (some ⟨g, 0, none⟩) n c) hs → j < 6 → (KHP.enc hs[i]).set j u = KHP.enc hs[i] → OwnPr (V.setCell ⟨g, i * 6 + j, none⟩ u) base ok0 (.slice (some ⟨g, 0, none⟩) n c) hs ∧ V.grownBy (V.setCell ⟨g, i * 6 + j, none⟩ u) (some g) := fun {V} j u hV hj hs' => by
    have := OwnG.stored (K := KHP) hV hi (j := j) hj hs[i] u hs'.symm (hV.lies _ (List.getElem_mem hi))
    rwa [List.set_getElem_self] at this
  obtain ⟨k1, g1⟩ := same 1 (.int .i64 hs[i].p.v.kind) h (by decide) rfl
  obtain ⟨k2, g2⟩ := same 2 (.int .i64 hs[i].p.v.n) k1 (by decide) rfl
  obtain ⟨k3, g3⟩ := same 3 (.int .i64 hs[i].p.v.d) k2 (by decide) rfl
  obtain ⟨k4, g4⟩ := same 4 (.string hs[i].p.v.s) k3 (by decide) rfl
  have G := grown_two g1 (grown_two g2 (grown_two g3 g4))
  obtain ⟨k5, g5⟩ := OwnG.stored (K := KHP) k4 hi (j := 5) (by decide) (⟨A7, c7, hs[i].p⟩ : HP) (.slice A7 hs[i].p.v.l.length c7) rfl ⟨hc, hv.keep' (fun b o y hb hcell => ⟨G.cell hcell (fun e => hb.2 e), hb⟩)⟩
  exact ⟨_, rfl, k5, grown_two G g5⟩
theorem own_cells6 {W : World} {base g n c : Nat} {ok0 : Nat → Prop} {hs : List HP} (h : OwnPr W base ok0 (.slice (some ⟨g, 0, none⟩) n c) hs) {i : Nat} (hi : i < hs.length) : (W.cell? ⟨g, i * 6 + 1, none⟩ = some (.int .i64 hs[i].p.v.kind) ∧ W.cell? ⟨g, i * 6 + 1 + 1, none⟩ = some (.int .i64 hs[i].p.v.n) ∧ W.cell? ⟨g, i * 6 + 1 + 2, none⟩ = some (.int .i64 hs[i].p.v.d) ∧ W.cell? ⟨g, i * 6 + 1 + 3, none⟩ = some (.string hs[i].p.v.s) ∧ W.cell? ⟨g, i * 6 + 1 + 4, none⟩ = some (.slice hs[i].A hs[i].p.v.l.length hs[i].c)) ∧
    W.frozen? ⟨g, i * 6 + 1, none⟩ = false ∧ W.frozen? ⟨g, i * 6 + 1 + 1, none⟩ = false ∧ W.frozen? ⟨g, i * 6 + 1 + 2, none⟩ = false ∧ W.frozen? ⟨g, i * 6 + 1 + 3, none⟩ = false ∧ W.frozen? ⟨g, i * 6 + 1 + 4, none⟩ = false := by
  obtain ⟨g', hg, -, -, -, -, hc⟩ := OwnG.cellAt h hi
  injection hg with hg
  injection hg with hg
  subst hg
  exact ⟨⟨(hc 1 (by decide)).1, (hc 2 (by decide)).1, (hc 3 (by decide)).1, (hc 4 (by decide)).1, (hc 5 (by decide)).1⟩, (hc 1 (by decide)).2, (hc 2 (by decide)).2, (hc 3 (by decide)).2, (hc 4 (by decide)).2, (hc 5 (by decide)).2⟩
theorem OwnPr.props {W : World} {base : Nat} {ok0 : Nat → Prop} {v : Value} {hs : List HP} (h : OwnPr W base ok0 v hs) (hm : hs.length ≤ 140737488355328) : ∃ A c, v = .slice A hs.length c ∧ hs.length ≤ c ∧ Props W (fun _ => True) A (hs.map HP.p) :=
  OwnG.slice (K := KHP) HP.p h hm (fun _ _ x _ hc hl => ⟨hc 0 _ rfl, VCells.iff.2 ⟨trivial, x.A, x.c, ⟨hc 1 _ rfl, hc 2 _ rfl, hc 3 _ rfl, hc 4 _ rfl, hc 5 _ rfl⟩, hl.1, hl.2.to (fun _ _ => trivial)⟩⟩)
theorem ownP_some {W : World} {base : Nat} {ok0 : Nat → Prop} {v : Value} {hs : List HP} (h : OwnPr W base ok0 v hs) (hne : 0 < hs.length) : ∃ g c, v = .slice (some ⟨g, 0, none⟩) hs.length c ∧ base ≤ g ∧ g < W.heap.size := by
  rcases h.own.2 with ⟨hv, h0⟩ | ⟨g, cap, cur, hv, hb, hh, hc, -⟩
  · omega
  · refine ⟨g, cap, hv, hb, ?_⟩
    subst hv
    exact (OwnG.lt h rfl).2
set_option maxRecDepth 100000 in
set_option maxHeartbeats 6400000 in
theorem gr_cloneProps (l : List PropG) (ok : Nat → Prop) (A : Option Addr) (c : Nat) (w : World) (hv : Props w ok A l) (hcap : l.length * 80 ≤ 140737488355328) (hcv : ∀ p ∈ l, capV p.v) :
    Calls Tryz.prog 55 #[.slice A l.length c] w fun e w' => ∃ A' c', e = .returned (.slice A' l.length c') ∧ l.length ≤ c' ∧ Props w' (fun _ => True) A' l ∧ Ext w w' := by
  obtain ⟨hs0, hm0, hl0, hf0⟩ : ∃ hs : List HP, hs.map HP.p = l ∧ (∀ p ∈ hs, KHP.lies w ok p) ∧ ∀ ad, A = some ad → ∀ j u, (hs.flatMap HP.cells)[j]? = some u → w.cell? (ad.add j) = some u := by
    rcases Nat.eq_zero_or_pos l.length with h0 | h0
    · have : l = [] := List.eq_nil_of_length_eq_zero h0
      subst this
      exact ⟨[], rfl, fun p hp => absurd hp (by simp), fun _ _ j u hu => by simp at hu⟩
    · obtain ⟨b, o, rfl, hc⟩ := hv.2 h0
      obtain ⟨hs, h1, h2, h3⟩ := Props.heads hc
      exact ⟨hs, h1, h2, fun ad e j u hu => by injection e with e; subst e; rw [Addr.add_mid]; exact h3 j u hu⟩
  have hn0 : hs0.length = l.length := by rw [← hm0, List.length_map]
  have HCL := Lib.hid (cB_Clone_prop l.length A c (hs0.flatMap HP.cells) w hv.none_ (by rw [flat_len HP.cells 6 (fun _ => rfl), hn0]) hf0 (fun u hu => by
    obtain ⟨x, -, hx⟩ := List.mem_flatMap.1 hu
    exact KHP.one x u hx) hcap)
  have HL0 := Lib.hid (fun p hp => KHP.keep w w _ (fun b => b < w.heap.size) p (fun b o y _ hc => ⟨hc, block_lt_of_cell hc⟩) (hl0 p hp))
  have HM0 := Lib.hid hm0
  have HN0 := Lib.hid hn0
  have HCV := Lib.hid hcv
  have hll : l.length ≤ 140737488355328 := by omega
  clear hv hcap hcv hf0 hl0 hm0 hn0
  go_enter Tryz.func55, Tryz.ntmps55
  go_wp2_with (go_at_call 87; ((with_reducible refine (HCL.out).mono ?_); rintro e w2 ⟨vv, rfl, hown, hx2⟩; obtain ⟨A1, cc, rfl⟩ := own_form hown))
  have HO0 := Lib.hid (show OwnPr w2 w.heap.size (fun _ => True) (.slice A1 l.length cc) hs0 from ⟨by rw [HN0.out]; exact hown, fun p hp => KHP.keep _ _ _ _ _ (fun b o y hb hc => ⟨hx2.cell hc, trivial, fun e => by have h1 := (hown.lt b e.symm).1; omega⟩) (HL0.out p hp)⟩)
  clear hown HL0 HCL
  go_loopw [9] (fun u W => ∃ (i : Nat) (hs : List HP), u = .int .i64 i ∧ i ≤ l.length ∧ Hid (OwnPr W w.heap.size (fun _ => True) (.slice A1 l.length cc) hs) ∧ Hid (hs.map HP.p = l) ∧ Hid (Ext w W)) (fun u _ => l.length - (intOf u).toNat)
  case atStart => exact ⟨0, hs0, rfl, Nat.zero_le _, HO0, HM0, Lib.hid hx2⟩
  case round =>
    clear HO0 HM0 hx2
    obtain ⟨i, hs, rfl, hi, HO, HM, HE⟩ := hrel
    have hl : hs.length = l.length := by rw [← HM.out, List.length_map]
    by_cases hlt : i < l.length
    · have hih : i < hs.length := by omega
      obtain ⟨g, c9, hve, hgq, hgw⟩ := ownP_some HO.out (by omega)
      injection hve with e1 e2 e3
      subst e1 e3
      obtain ⟨⟨p0, p1, p2, p3, p4⟩, -⟩ := own_cells6 HO.out hih
      have hxm : hs[i].p ∈ l := by rw [← HM.out]; exact List.mem_map_of_mem (List.getElem_mem hih)
      have hlie := HO.out.lies hs[i] (List.getElem_mem hih)
      have HC := Lib.hid (fun W (e : Ext wr W) => gv_clone hs[i].p.v _ hs[i].A hs[i].c W (HCV.out _ hxm) (hlie.2.ext e))
      have HST := Lib.hid (fun w7 A7 c7 (e : Ext wr w7) (h1 : hs[i].p.v.l.length ≤ c7) (h2 : Vals w7 (fun b => wr.heap.size ≤ b) A7 hs[i].p.v.l) => OwnPr.put (HO.out.ext e) hih A7 c7 h1 (h2.to (fun b hb => ⟨trivial, fun e => by have h5 : b = g := Option.some.inj e; omega⟩)))
      have HCS := Lib.hid (fun w7 (e : Ext wr w7) => own_cells6 (HO.out.ext e) hih)
      have HMS := Lib.hid (fun A7 c7 => (by
        rw [List.map_set, ← HM.out]
        apply List.ext_getElem
        · simp
        · intro k h1 h2
          rw [List.getElem_set]
          split
          · rename_i e; subst e; simp
          · rfl : (hs.set i (⟨A7, c7, hs[i].p⟩ : HP)).map HP.p = l))
      clear hxm hlie e2 HM HO
      have HLL := Lib.hid hl
      clear hl
      generalize hs[i] = x at *
      go_upto_region 5 with (fail)
      go_upto_region 6 with (go_at_call 88; ((with_reducible refine (HC.out _ (Ext.refl _)).mono ?_); rintro r w7 ⟨A7, c7, rfl, hc7, hV7, hx7⟩; obtain ⟨W8, hW8, hO8, hG8⟩ := HST.out w7 A7 c7 hx7 hc7 hV7; obtain ⟨⟨q0, q1, q2, q3, q4⟩, f0, f1, f2, f3, f4⟩ := HCS.out w7 hx7))
      rw [← hW8]
      have HO8 := Lib.hid hO8
      have HM8 := Lib.hid (HMS.out A7 c7)
      have HE8 := Lib.hid ((HE.out.trans hx7).grown hG8 (fun k hk => by have := Option.some.inj hk; omega))
      clear hW8 hO8 hG8 hV7 hx7 q0 q1 q2 q3 q4 f0 f1 f2 f3 f4 p0 p1 p2 p3 p4 HE HC HST HCS HMS
      go_wp2_with fail
      go_roundw
      case rel => exact ⟨i + 1, _, by go_num, by omega, HO8, HM8, HE8⟩
      case measure => simp [intOf]; omega
    · obtain ⟨A9, c9, e9, h9, hV9⟩ := OwnPr.props HO.out (by omega)
      rw [hl] at e9 h9
      rw [HM.out] at hV9
      injection e9 with k1 k2 k3
      subst k1 k3
      have HV9 := Lib.hid hV9
      have HEE := Lib.hid HE.out
      clear HO HM hV9 HE k2 hl
      go_wp2_with fail
      go_ret
      exact ⟨_, _, rfl, h9, HV9.out, HEE.out⟩
theorem box_nodeX (w : World) (x : NodeG) (L B : Option Addr) (lc pc : Nat) (t : TypeId) : ∃ (q : Nat) (w1 : World), q = w.heap.size ∧ w1 = w.alloc (.cells #[.int .i64 x.id, .slice L x.labels.length lc, .slice B x.props.length pc] t) ∧ (w1.cell? ⟨q, 0, none⟩ = some (.int .i64 x.id) ∧ w1.cell? ⟨q, 1, none⟩ = some (.slice L x.labels.length lc) ∧ w1.cell? ⟨q, 2, none⟩ = some (.slice B x.props.length pc)) ∧ Ext w w1 :=
  ⟨_, _, rfl, rfl, ⟨by go_simp, by go_simp, by go_simp⟩, (Ext.refl _).alloc _⟩
theorem strs_flat {w : World} {ok : Nat → Prop} {A : Option Addr} {l : List ByteArray} (h : Strs w ok A l) : ∀ ad, A = some ad → ∀ (j : Nat) u, (l.map Value.string)[j]? = some u → w.cell? (ad.add j) = some u := by
  intro ad e j u hu
  have hj : j < l.length := by have := (List.getElem?_eq_some_iff.1 hu).1; simpa using this
  obtain ⟨b, o, rfl, hc⟩ := h.2 (by omega)
  injection e with e
  subst e
  rw [List.getElem?_map, List.getElem?_eq_getElem hj] at hu
  injection hu with hu
  subst hu
  have := (hc j hj).2
  rw [Nat.mul_one] at this
  rw [Addr.add_mid]; exact this
set_option maxRecDepth 100000 in
set_option maxHeartbeats 6400000 in
theorem gr_Node (g : GraphG) (ok : Nat → Prop) (A B : Option Addr) (c d : Nat) (n : Int) (w : World) (hv : Nodes w ok A g.nodes) (hcap : ∀ x ∈ g.nodes, capN x) :
    Calls Tryz.prog 23 #[.agg #[.slice A g.nodes.length c, .slice B g.edges.length d, .int .i64 g.nn, .int .i64 g.ne], .int .i64 n] w fun e w' => (∃ id L nl cl P np cp, e = .returned (.tuple #[.agg #[.int .i64 id, .slice L nl cl, .slice P np cp], .bool (hasN g.nodes n)])) ∧ Ext w w' := by
  have hm := hv.len
  obtain ⟨q, w1, hq, hw1, g0, g1, g2, g3, hx⟩ := box_graph w A B c d g 25
  have hq1 : w1.heap.size = q + 1 := by rw [hw1, hq]; simp
  obtain ⟨w2, hw2, z0, z1, z2, y0, y1, y2⟩ : ∃ w2, w2 = w1.alloc (.cells #[.int .i64 0, .slice none 0 0, .slice none 0 0] 45) ∧ w2.cell? ⟨q + 1, 0, none⟩ = some (.int .i64 0) ∧ w2.cell? ⟨q + 1, 1, none⟩ = some (.slice none 0 0) ∧ w2.cell? ⟨q + 1, 2, none⟩ = some (.slice none 0 0) ∧ w2.frozen? ⟨q + 1, 0, none⟩ = false ∧ w2.frozen? ⟨q + 1, 1, none⟩ = false ∧ w2.frozen? ⟨q + 1, 2, none⟩ = false := ⟨_, rfl, by rw [← hq1]; go_simp, by rw [← hq1]; go_simp, by rw [← hq1]; go_simp, by rw [← hq1]; go_simp, by rw [← hq1]; go_simp, by rw [← hq1]; go_simp⟩
  have hx2 : Ext w1 w2 := by rw [hw2]; exact (Ext.refl _).alloc _
  have HW1 := Lib.hid hw1
  have HW2 := Lib.hid hw2
  have HG := Lib.hid hq
  have HLE := Lib.hid (show w.heap.size ≤ q + 1 by omega)
  have HV := Lib.hid (hv.ext (hx.trans hx2))
  have HY := Lib.hid (hasN_at (l := g.nodes) (n := n))
  have HN := Lib.hid (hasN_no (l := g.nodes) (n := n))
  have HCAP := Lib.hid hcap
  replace g0 := hx2.cell g0
  replace g1 := hx2.cell g1
  replace g2 := hx2.cell g2
  replace g3 := hx2.cell g3
  have HE := Lib.hid (hx.trans hx2)
  have HZ := Lib.hid (fun V (e : Ext w2 V) => (⟨⟨e.cell z0, e.cell z1, e.cell z2⟩, frz_ext e z0 y0, frz_ext e z1 y1, frz_ext e z2 y2⟩ : (V.cell? ⟨q + 1, 0, none⟩ = some (.int .i64 0) ∧ V.cell? ⟨q + 1, 1, none⟩ = some (.slice none 0 0) ∧ V.cell? ⟨q + 1, 2, none⟩ = some (.slice none 0 0)) ∧ V.frozen? ⟨q + 1, 0, none⟩ = false ∧ V.frozen? ⟨q + 1, 1, none⟩ = false ∧ V.frozen? ⟨q + 1, 2, none⟩ = false))
  generalize hasN g.nodes n = R at *
  generalize hl : g.nodes = l at *
  clear hv hl hw1 hq hw2 hx hx2 hq1 hcap z0 z1 z2 y0 y1 y2
  go_enter Tryz.func23, Tryz.ntmps23
  go_upto_region 1 with (fail)
  rw [← HW1.out, ← HG.out, ← HW2.out]
  clear HW1 HG HW2
  go_wp2_with fail
  go_loopw [11] (fun u W => ∃ k : Nat, u = .int .i64 k ∧ k ≤ l.length ∧ Hid (∀ t, t < k → l[t]!.id ≠ n) ∧ Hid (Ext w2 W)) (fun u _ => l.length - (intOf u).toNat)
  case atStart => exact ⟨0, rfl, Nat.zero_le _, Lib.hid (fun t ht => absurd ht (by omega)), Lib.hid (Ext.refl _)⟩
  case round =>
    obtain ⟨k, rfl, hk, hgd, hE⟩ := hrel
    by_cases hlt : k < l.length
    · obtain ⟨b, off, rfl, hc⟩ := HV.out.2 (by omega)
      obtain ⟨-, d0, L, lc, B', pc, d1, -, hS1, d2, -, hP1⟩ := hc k hlt
      rw [← getElem!_pos l k hlt] at d0 d1 d2 hS1 hP1
      replace d0 := hE.out.cell d0
      replace d1 := hE.out.cell d1
      replace d2 := hE.out.cell d2
      have hmem : l[k]! ∈ l := by rw [getElem!_pos l k hlt]; exact List.getElem_mem hlt
      have HS := Lib.hid (fun (h : l[k]!.id ≠ n) t (ht : t < k + 1) => (if e : t = k then (by rw [e]; exact h) else hgd.out t (by omega) : l[t]!.id ≠ n))
      have HX := Lib.hid (HY.out k hlt)
      have HCN := Lib.hid (HCAP.out _ hmem)
      clear hc HY HN hgd hmem HCAP
      generalize l[k]! = x at *
      obtain ⟨q7, w4, hq7, hw4, ⟨a0, a1, a2⟩, hx4⟩ := box_nodeX wr x L B' lc pc 45
      have HE4 := Lib.hid (HE.out.trans (hE.out.trans hx4))
      have HE24 := Lib.hid (hE.out.trans hx4)
      have HCS := Lib.hid (fun W (e : Ext w4 W) => cB_Clone_str x.labels.length L lc (x.labels.map Value.string) W hS1.none_ (by simp) (strs_flat (hS1.ext (HE24.out.trans e))) (fun u hu => by obtain ⟨y, -, rfl⟩ := List.mem_map.1 hu; rfl) HCN.out.1)
      have HCP := Lib.hid (fun W (e : Ext w4 W) => gr_cloneProps x.props _ B' pc W (hP1.ext (HE24.out.trans e)) HCN.out.2.1 HCN.out.2.2)
      have HW4 := Lib.hid hw4
      have HQ7 := Lib.hid hq7
      clear hw4 hq7 hS1 hP1 HCN
      go_upto_region 4 with (fail)
      rw [← HW4.out, ← HQ7.out]
      clear HW4 HQ7 d0 d1 d2
      by_cases he : x.id = n
      · have HT := Lib.hid (HX.out he)
        have he2 : (x.id == n) = true := beq_iff_eq.2 he
        have MK5 := Lib.hid (fun V (e : Ext w4 V) => (⟨e.cell a1, e.cell a2, HZ.out V (HE24.out.trans e)⟩ : V.cell? ⟨q7, 1, none⟩ = some (.slice L x.labels.length lc) ∧ V.cell? ⟨q7, 2, none⟩ = some (.slice B' x.props.length pc) ∧ (V.cell? ⟨q + 1, 0, none⟩ = some (.int .i64 0) ∧ V.cell? ⟨q + 1, 1, none⟩ = some (.slice none 0 0) ∧ V.cell? ⟨q + 1, 2, none⟩ = some (.slice none 0 0)) ∧ V.frozen? ⟨q + 1, 0, none⟩ = false ∧ V.frozen? ⟨q + 1, 1, none⟩ = false ∧ V.frozen? ⟨q + 1, 2, none⟩ = false))
        clear he HX HS
        go_upto_region 5 with (fail)
        clear a0 a1 a2 he2 HZ
        refine AnyE.start (S := (fun V => V.cell? ⟨q7, 1, none⟩ = some (.slice L x.labels.length lc) ∧ V.cell? ⟨q7, 2, none⟩ = some (.slice B' x.props.length pc) ∧ (V.cell? ⟨q + 1, 0, none⟩ = some (.int .i64 0) ∧ V.cell? ⟨q + 1, 1, none⟩ = some (.slice none 0 0) ∧ V.cell? ⟨q + 1, 2, none⟩ = some (.slice none 0 0)) ∧ V.frozen? ⟨q + 1, 0, none⟩ = false ∧ V.frozen? ⟨q + 1, 1, none⟩ = false ∧ V.frozen? ⟨q + 1, 2, none⟩ = false)) (E := 8) (by kernel_rfl) ?hs8501 (fun hHeld => ?go8501)
        case hs8501 => (exact MK5.out _ (by solve_by_elim [X0, X1, X2, X3]))
        refine AnyE.takeP (i := 0) (oi := ⟨_, _, _, _, _, _⟩) (v := ?v8502) rfl (by kernel_rfl) (by kernel_rfl) (by kernel_rfl) (fun _ _ _ h => h) rfl (Or.inl ⟨rfl, ?hy8502⟩) (fun _ => hHeld) ?_
        case hy8502 => (intro w _; go_simp <;> rfl)
        (try simp only [PU])
        refine AnyE.takeP (i := 1) (oi := ⟨_, _, _, _, _, _⟩) (v := ?v8503) rfl (by kernel_rfl) (by kernel_rfl) (by kernel_rfl) (fun _ _ _ h => h) rfl (Or.inl ⟨rfl, ?hy8503⟩) (fun _ => hHeld) ?_
        case hy8503 => (intro w _; go_simp <;> rfl)
        (try simp only [PU])
        refine AnyE.take (i := 2) (oi := ⟨_, _, _, _, _, _⟩) (v := ?v8504) rfl (by kernel_rfl) (by kernel_rfl) (by kernel_rfl) (fun _ _ _ h => h) (by kernel_rfl) rfl (by kernel_rfl) (Or.inl ⟨rfl, ?hy8504⟩) hHeld ?_
        case hy8504 => (intro w hSw; (try dsimp only at hSw); go_simp <;> first | with_reducible rfl | rw [if_neg (by omega)] | rw [if_pos (by omega)])
        (try simp only [PU])
        refine AnyE.takeP (i := 4) (oi := ⟨_, _, _, _, _, _⟩) (v := ?v8505) rfl (by kernel_rfl) (by kernel_rfl) (by kernel_rfl) (fun _ _ _ h => h) rfl (Or.inl ⟨rfl, ?hy8505⟩) (fun _ => hHeld) ?_
        case hy8505 => (intro w _; go_simp <;> rfl)
        (try simp only [PU])
        refine AnyE.take (i := 5) (oi := ⟨_, _, _, _, _, _⟩) (v := ?v8506) rfl (by kernel_rfl) (by kernel_rfl) (by kernel_rfl) (fun _ _ _ h => h) (by kernel_rfl) rfl (by kernel_rfl) (Or.inl ⟨rfl, ?hy8506⟩) hHeld ?_
        case hy8506 => (intro w hSw; (try dsimp only at hSw); go_simp <;> first | with_reducible rfl | rw [if_neg (by omega)] | rw [if_pos (by omega)])
        (try simp only [PU])
        refine AnyE.ready (rs := [3]) (by kernel_rfl) (by simp) ?_
        refine AllE.cons (o := ⟨_, _, _, _, _, _⟩) rfl (fun K hK => ?step8507x0) ?more8507x0
        case more8507x0 => exact AllE.nil
        go_simp
        (refine (HCS.out _ (by solve_by_elim [X0, X1, X2, X3])).mono ?_; rintro r w5 ⟨v5, rfl, hown5, hx5⟩; obtain ⟨A5, c5, rfl⟩ := own_form hown5; replace hx5 : Ext w4 w5 := Ext.trans (by solve_by_elim [X0, X1, X2, X3]) hx5)
        refine hK.out _ _ ?hS8507x0 (fun H8507 => ?_)
        case hS8507x0 => intro _; first | (exact MK5.out _ (by solve_by_elim [X0, X1, X2, X3])) | ((try dsimp only); (exact MK5.out _ (by solve_by_elim [X0, X1, X2, X3])))
        clear hK K
        clear hHeld
        (try simp only [PU])
        refine AnyE.ready (rs := [6]) (by kernel_rfl) (by simp) ?_
        refine AllE.cons (o := ⟨_, _, _, _, _, _⟩) rfl (fun K hK => ?step8508x0) ?more8508x0
        case more8508x0 => exact AllE.nil
        go_simp
        (refine (HCP.out _ (by solve_by_elim [X0, X1, X2, X3])).mono ?_; rintro r w6 ⟨A6, c6, rfl, hc6, hV6, hx6⟩; replace hx6 : Ext w4 w6 := Ext.trans (by solve_by_elim [X0, X1, X2, X3]) hx6; obtain ⟨-, -, ⟨z0, z1, z2⟩, y0, y1, y2⟩ := MK5.out _ hx6)
        refine hK.out _ _ ?hS8508x0 (fun H8508 => ?_)
        case hS8508x0 => intro _; first | (exact MK5.out _ (by solve_by_elim [X0, X1, X2, X3])) | ((try dsimp only); (exact MK5.out _ (by solve_by_elim [X0, X1, X2, X3])))
        clear hK K
        clear H8507
        (try simp only [PU])
        refine AnyE.takeP (i := 7) (oi := ⟨_, _, _, _, _, _⟩) (v := ?v8509) rfl (by kernel_rfl) (by kernel_rfl) (by kernel_rfl) (fun _ _ _ h => h) rfl (Or.inl ⟨rfl, ?hy8509⟩) (fun _ => (H8508 (by kernel_rfl))) ?_
        case hy8509 => (intro w _; go_simp <;> rfl)
        (try simp only [PU])
        refine AnyE.ready (rs := [8]) (by kernel_rfl) (by simp) ?_
        refine AllE.cons (o := ⟨_, _, _, _, _, _⟩) rfl (fun K hK => ?step8510x0) ?more8510x0
        case more8510x0 => exact AllE.nil
        go_simp
        refine hK.out _ _ ?hS8510x0 (fun H8510 => ?_)
        case hS8510x0 => first | (intro h; exact absurd h (by decide)) | (intro h; simp at h)
        clear hK K
        clear H8508
        refine AnyE.takeP (i := 9) (oi := ⟨_, _, _, _, _, _⟩) (v := ?v8511) rfl (by kernel_rfl) (by kernel_rfl) (by kernel_rfl) (fun _ _ _ h => h) rfl (Or.inl ⟨rfl, ?hy8511⟩) (by first | (intro h; exact absurd h (by decide)) | (intro h; simp at h)) ?_
        case hy8511 => (intro w _; go_simp <;> first | with_reducible rfl | rw [if_neg (by omega)] | rw [if_pos (by omega)])
        (try simp only [PU])
        refine AnyE.done (by kernel_rfl) ?_ _
        clear H8510
        go_wp2_with fail
        refine bodyPost_ret (v := .tuple #[.agg #[.int .i64 n, .slice A5 x.labels.length c5, .slice A6 x.props.length c6], .bool true]) (by simp [results, Tryz.results23, go_sem, *]) rfl ?_
        exact ⟨⟨_, _, _, _, _, _, _, by rw [HT.out]⟩, (((HE4.out.trans hx6).setCell HLE.out _).setCell HLE.out _).setCell HLE.out _⟩
      · have HT := Lib.hid (HS.out he)
        have he2 : (x.id == n) = false := beq_eq_false_iff_ne.2 he
        clear he HX HS HCS HCP
        go_wp2_with fail
        go_roundw
        case rel => exact ⟨k + 1, by go_num, by omega, HT, HE24⟩
        case measure => simp [intOf]; omega
    · have HT := Lib.hid (HN.out (fun t ht => hgd.out t (by omega)))
      obtain ⟨⟨z0, z1, z2⟩, y0, y1, y2⟩ := HZ.out wr hE.out
      have HEE := Lib.hid (HE.out.trans hE.out)
      clear HY HN hE
      go_wp2_with fail
      refine bodyPost_ret (v := .tuple #[.agg #[.int .i64 0, .slice none 0 0, .slice none 0 0], .bool false]) (by simp [results, Tryz.results23, go_sem, *]) rfl ?_
      exact ⟨⟨_, _, _, _, _, _, _, by rw [HT.out]⟩, ((HEE.out.setCell HLE.out _).setCell HLE.out _).setCell HLE.out _⟩
end Go.Proofs.YtigmdddeplnciaaGreatDoor

/- PLAIN: what a valid graph bears. No program in sight. -/
namespace Go.Proofs.YtigmdddeplnciaaGreatDoor
open Go.RowKit
/-- ids rise, all numbers are ids, edges lead from nodes to nodes -/
structure GoodG (g : GraphG) : Prop where
  nlt : ∀ i j, i < j → j < g.nodes.length → g.nodes[i]!.id < g.nodes[j]!.id
  elt : ∀ i j, i < j → j < g.edges.length → g.edges[i]!.id < g.edges[j]!.id
  nid : ∀ n ∈ g.nodes, 1 ≤ n.id ∧ n.id ≤ 1000000
  eid : ∀ e ∈ g.edges, 1 ≤ e.id ∧ e.id ≤ 1000000
  ends : ∀ e ∈ g.edges, (∃ n ∈ g.nodes, n.id = e.frm) ∧ ∃ n ∈ g.nodes, n.id = e.to_
  nlen : g.nodes.length ≤ 2000
  elen : g.edges.length ≤ 4000
theorem gf_parts {g : GraphG} (h : chkG g = 0) : headE g = 0 ∧ nodesE g = 0 ∧ edgesE g = 0 := by
  unfold chkG at h
  split at h
  · rename_i h1
    split at h
    · rename_i h2; exact ⟨h1, h2, h⟩
    · rename_i h2; exact absurd h h2
  · rename_i h1; exact absurd h h1
theorem gf_head {g : GraphG} (h : headE g = 0) : g.nodes.length ≤ 2000 ∧ g.edges.length ≤ 4000 ∧ 1 ≤ g.nn ∧ g.nn ≤ 1000001 ∧ 1 ≤ g.ne ∧ g.ne ≤ 1000001 := by
  unfold headE at h
  split at h
  · cases h
  · split at h
    · cases h
    · omega
theorem gf_has {l : List NodeG} {i : Int} : hasN l i = true ↔ ∃ n ∈ l, n.id = i := by
  unfold hasN
  rw [List.any_eq_true]
  exact ⟨fun ⟨x, hx, he⟩ => ⟨x, hx, of_decide_eq_true he⟩, fun ⟨x, hx, he⟩ => ⟨x, hx, decide_eq_true he⟩⟩
theorem gf_edge {g : GraphG} (h : edgesE g = 0) {i : Nat} (hi : i < g.edges.length) : (0 < i → g.edges[i - 1]!.id < g.edges[i]!.id) ∧ 1 ≤ g.edges[i]!.id ∧ g.edges[i]!.id < g.ne ∧ hasN g.nodes g.edges[i]!.frm = true ∧ hasN g.nodes g.edges[i]!.to_ = true ∧ nameB g.edges[i]!.typ = true ∧ partsE [] g.edges[i]!.props = 0 := by
  have h1 := firstE_all h i hi
  unfold edgeE at h1
  split at h1
  · cases h1
  · rename_i h2
    split at h1
    · cases h1
    · rename_i h3
      split at h1
      · rename_i h4
        rw [Bool.and_eq_true] at h4
        split at h1
        · rename_i h5; exact ⟨fun hp => by omega, by omega, by omega, h4.1, h4.2, h5, h1⟩
        · cases h1
      · cases h1
theorem gf_node {g : GraphG} (h : nodesE g = 0) {i : Nat} (hi : i < g.nodes.length) : (0 < i → g.nodes[i - 1]!.id < g.nodes[i]!.id) ∧ 1 ≤ g.nodes[i]!.id ∧ g.nodes[i]!.id < g.nn ∧ partsE g.nodes[i]!.labels g.nodes[i]!.props = 0 := by
  have h1 := firstE_all h i hi
  unfold nodeE at h1
  split at h1
  · cases h1
  · rename_i h2
    split at h1
    · cases h1
    · rename_i h3; exact ⟨fun hp => by omega, by omega, by omega, h1⟩
theorem gf_rise {n : Nat} {f : Nat → Int} (h : ∀ i, 0 < i → i < n → f (i - 1) < f i) : ∀ {i j : Nat}, i < j → j < n → f i < f j := by
  intro i j hij
  induction j with
  | zero => omega
  | succ j ih =>
    intro hj
    have h1 := h (j + 1) (by omega) hj
    rw [Nat.add_sub_cancel] at h1
    rcases Nat.lt_or_eq_of_le (Nat.le_of_lt_succ hij) with h2 | h2
    · have := ih h2 (by omega); omega
    · rw [h2]; exact h1
theorem gf_mem {α : Type} [Inhabited α] {l : List α} {x : α} (h : x ∈ l) : ∃ i, i < l.length ∧ l[i]! = x := by
  obtain ⟨i, hi, rfl⟩ := List.getElem_of_mem h
  exact ⟨i, hi, getElem!_pos l i hi⟩
theorem good_of {g : GraphG} (h : chkG g = 0) : GoodG g := by
  obtain ⟨h0, h1, h2⟩ := gf_parts h
  obtain ⟨a1, a2, a3, a4, a5, a6⟩ := gf_head h0
  refine ⟨fun i j hij hj => gf_rise (n := g.nodes.length) (f := fun i => g.nodes[i]!.id) (fun i hp hi => (gf_node h1 hi).1 hp) hij hj, fun i j hij hj => gf_rise (n := g.edges.length) (f := fun i => g.edges[i]!.id) (fun i hp hi => (gf_edge h2 hi).1 hp) hij hj, fun n hn => ?_, fun e he => ?_, fun e he => ?_, a1, a2⟩
  · obtain ⟨i, hi, rfl⟩ := gf_mem hn
    have := gf_node h1 hi
    omega
  · obtain ⟨i, hi, rfl⟩ := gf_mem he
    have := gf_edge h2 hi
    omega
  · obtain ⟨i, hi, rfl⟩ := gf_mem he
    have := gf_edge h2 hi
    exact ⟨gf_has.1 this.2.2.2.1, gf_has.1 this.2.2.2.2.1⟩
theorem GoodG.endr {g : GraphG} (h : GoodG g) {e : EdgeG} (he : e ∈ g.edges) : (1 ≤ e.frm ∧ e.frm ≤ 1000000) ∧ 1 ≤ e.to_ ∧ e.to_ ≤ 1000000 := by
  obtain ⟨⟨n, hn, e1⟩, m, hm, e2⟩ := h.ends e he
  have := h.nid n hn
  have := h.nid m hm
  omega
theorem pw_bang {α : Type} [Inhabited α] {R : α → α → Prop} {l : List α} (h : ∀ i j, i < j → j < l.length → R l[i]! l[j]!) : l.Pairwise R :=
  List.pairwise_iff_getElem.2 (fun i j hi hj hij => by have := h i j hij hj; rwa [getElem!_pos l i hi, getElem!_pos l j hj] at this)
theorem GoodG.epw {g : GraphG} (h : GoodG g) : g.edges.Pairwise (fun a b => a.id < b.id) := pw_bang h.elt
theorem pw_inj {α : Type} {f : α → Int} {l : List α} (h : l.Pairwise (fun a b => f a < f b)) {x y : α} (hx : x ∈ l) (hy : y ∈ l) (e : f x = f y) : x = y := by
  obtain ⟨i, hi, rfl⟩ := List.getElem_of_mem hx
  obtain ⟨j, hj, rfl⟩ := List.getElem_of_mem hy
  rw [List.pairwise_iff_getElem] at h
  rcases Nat.lt_trichotomy i j with h1 | h1 | h1
  · have := h i j hi hj h1; omega
  · subst h1; rfl
  · have := h j i hj hi h1; omega
theorem GoodG.einj {g : GraphG} (h : GoodG g) {x y : EdgeG} (hx : x ∈ g.edges) (hy : y ∈ g.edges) (e : x.id = y.id) : x = y := pw_inj h.epw hx hy e
end Go.Proofs.YtigmdddeplnciaaGreatDoor

/- PLAIN: paths: steps, modes, what lies within some hops, and its order. No program in sight. -/
namespace Go.Proofs.YtigmdddeplnciaaGreatDoor
open Go.RowKit
/- lists -/
theorem fm_cong {α β : Type} {f g : α → List β} : ∀ {m : List α}, (∀ z ∈ m, (f z).Perm (g z)) → (m.flatMap f).Perm (m.flatMap g)
  | [], _ => .nil
  | z :: m, h => by rw [List.flatMap_cons, List.flatMap_cons]; exact (h z (by simp)).append (fm_cong (fun y hy => h y (by simp [hy])))
theorem fm_split {α β : Type} {f g : α → List β} : ∀ m : List α, (m.flatMap (fun a => f a ++ g a)).Perm (m.flatMap f ++ m.flatMap g)
  | [] => .nil
  | z :: m => by
    rw [List.flatMap_cons, List.flatMap_cons, List.flatMap_cons, List.append_assoc, List.append_assoc]
    refine List.Perm.append_left _ ?_
    have h1 := (fm_split (f := f) (g := g) m).append_left (g z)
    refine h1.trans ?_
    rw [← List.append_assoc, ← List.append_assoc]
    exact List.perm_append_comm.append_right _
theorem fm_none {α β : Type} : ∀ m : List α, m.flatMap (fun _ => ([] : List β)) = []
  | [] => rfl
  | x :: m => by rw [List.flatMap_cons, fm_none m]; rfl
theorem fm_swap {α β γ : Type} (f : α → β → List γ) (m : List β) : ∀ l : List α, (l.flatMap (fun a => m.flatMap (f a))).Perm (m.flatMap (fun b => l.flatMap (fun a => f a b)))
  | [] => by
    simp only [List.flatMap_nil, fm_none]; exact .nil
  | a :: l => by
    simp only [List.flatMap_cons]
    exact ((fm_swap f m l).append_left _).trans (fm_split (f := f a) (g := fun b => l.flatMap (fun a => f a b)) m).symm
theorem fm_filter {α β : Type} {p : α → Bool} {f : α → List β} (h : ∀ x, p x = false → f x = []) : ∀ l : List α, (l.filter p).flatMap f = l.flatMap f
  | [] => rfl
  | x :: l => by
    rw [List.filter_cons, List.flatMap_cons]
    cases hp : p x
    · rw [h x hp, if_neg Bool.false_ne_true, fm_filter h l]; rfl
    · rw [if_pos rfl, List.flatMap_cons, fm_filter h l]
/- steps and modes -/
abbrev Hop := Int × Int
/-- the node to which an edge leads from n -/
def toE (types : List ByteArray) (dir n : Int) (e : EdgeG) : Option Int :=
  if typB types e.typ = true then (if (dir = 1 ∨ dir = 3) ∧ e.frm = n then some e.to_ else if (dir = 2 ∨ dir = 3) ∧ e.to_ = n then some e.frm else none) else none
def hopE (types : List ByteArray) (dir n : Int) (e : EdgeG) : Option Hop := (toE types dir n e).map (fun t => (e.id, t))
def hopsE (g : GraphG) (types : List ByteArray) (dir n : Int) : List Hop := g.edges.filterMap (hopE types dir n)
theorem mem_hops {g : GraphG} {types : List ByteArray} {dir n : Int} {x : Hop} : x ∈ hopsE g types dir n ↔ ∃ e ∈ g.edges, e.id = x.1 ∧ toE types dir n e = some x.2 := by
  unfold hopsE hopE
  rw [List.mem_filterMap]
  constructor
  · rintro ⟨e, he, h⟩
    obtain ⟨t, ht, rfl⟩ := Option.map_eq_some_iff.1 h
    exact ⟨e, he, rfl, ht⟩
  · rintro ⟨e, he, h1, h2⟩
    exact ⟨e, he, by rw [h2, Option.map_some, h1]⟩
theorem toE_end {types : List ByteArray} {dir n t : Int} {e : EdgeG} (h : toE types dir n e = some t) : t = e.to_ ∨ t = e.frm := by
  unfold toE at h
  repeat' split at h
  all_goals first | (injection h with h; omega) | cases h
theorem hops_rng {g : GraphG} (hg : GoodG g) {types : List ByteArray} {dir n : Int} {x : Hop} (h : x ∈ hopsE g types dir n) : (1 ≤ x.1 ∧ x.1 ≤ 1000000) ∧ 1 ≤ x.2 ∧ x.2 ≤ 1000000 := by
  obtain ⟨e, he, h1, h2⟩ := mem_hops.1 h
  have h3 := hg.eid e he
  have h4 := hg.endr he
  rcases toE_end h2 with h5 | h5 <;> omega
theorem hops_rise {g : GraphG} (hg : GoodG g) (types : List ByteArray) (dir n : Int) : (hopsE g types dir n).Pairwise (fun a b => a.1 < b.1) :=
  List.Pairwise.filterMap _ (fun a a' h b hb b' hb' => by
    unfold hopE at hb hb'
    obtain ⟨t, -, rfl⟩ := Option.map_eq_some_iff.1 hb
    obtain ⟨t', -, rfl⟩ := Option.map_eq_some_iff.1 hb'
    exact h) hg.epw
def nodeV (i : Int) : Val := .mk 5 i 0 ByteArray.empty []
def edgeV (i : Int) : Val := .mk 6 i 0 ByteArray.empty []
def tailP (h : List Hop) : List Val := h.flatMap (fun x => [edgeV x.1, nodeV x.2])
/-- the values of a path: nodes and edges in turn -/
def elsP (s : Int) (h : List Hop) : List Val := nodeV s :: tailP h
def pathV (l : List Val) : Val := .mk 7 0 0 ByteArray.empty l
/-- where a path ends -/
def lastP (s : Int) (h : List Hop) : Int := match h.getLast? with
  | some x => x.2
  | none => s
theorem lastP_snoc (s : Int) (h : List Hop) (x : Hop) : lastP s (h ++ [x]) = x.2 := by unfold lastP; rw [List.getLast?_append]; rfl
theorem tailP_len (h : List Hop) : (tailP h).length = 2 * h.length := by
  induction h with
  | nil => rfl
  | cons x h ih => unfold tailP at *; rw [List.flatMap_cons, List.length_append, ih]; simp; omega
theorem elsP_len (s : Int) (h : List Hop) : (elsP s h).length = 2 * h.length + 1 := by unfold elsP; rw [List.length_cons, tailP_len]
theorem elsP_snoc (s : Int) (h : List Hop) (x : Hop) : elsP s (h ++ [x]) = elsP s h ++ [edgeV x.1, nodeV x.2] := by unfold elsP tailP; rw [List.flatMap_append]; rfl
theorem elsP_edge {s : Int} : ∀ {h : List Hop} {i : Nat}, i < h.length → (elsP s h)[2 * i + 1]! = edgeV h[i]!.1
  | [], i, hi => absurd hi (by simp)
  | x :: h, 0, _ => by simp [elsP, tailP]
  | x :: h, i + 1, hi => by
    have := elsP_edge (s := x.2) (h := h) (i := i) (by simpa using hi)
    rw [show 2 * (i + 1) + 1 = (2 * i + 1) + 2 by omega]
    simpa [elsP, tailP] using this
/-- the nodes of a path -/
def nodeP (s : Int) (h : List Hop) (i : Nat) : Int := (s :: h.map Prod.snd)[i]!
theorem elsP_node {s : Int} : ∀ {h : List Hop} {i : Nat}, i ≤ h.length → (elsP s h)[2 * i]! = nodeV (nodeP s h i)
  | h, 0, _ => by cases h <;> simp [elsP, tailP, nodeP]
  | [], i + 1, hi => absurd hi (by simp)
  | x :: h, i + 1, hi => by
    have := elsP_node (s := x.2) (h := h) (i := i) (by simpa using hi)
    rw [show 2 * (i + 1) = (2 * i) + 2 by omega]
    simpa [elsP, tailP, nodeP] using this
theorem lastP_node (s : Int) (h : List Hop) : lastP s h = nodeP s h h.length := by
  by_cases h0 : h = []
  · subst h0; rfl
  · obtain ⟨p, a, rfl⟩ : ∃ p a, h = p ++ [a] := ⟨h.dropLast, h.getLast h0, (List.dropLast_concat_getLast h0).symm⟩
    rw [lastP_snoc]
    unfold nodeP
    rw [getElem!_pos _ _ (by simp)]
    simp
/-- the numbers at every second position, from one on -/
def numsI (l : List Val) (i : Nat) : List Int := (List.range ((l.length + 1 - i) / 2)).map (fun j => l[i + 2 * j]!.n)
/-- without the last, if that is the first -/
def cutP (l : List Int) : List Int := if 1 < l.length ∧ l[0]! = l[l.length - 1]! then l.dropLast else l
def noDup (l : List Int) : Bool := decide l.Nodup
/-- is a path allowed in a mode -/
def allowL (l : List Val) (mode : Int) : Bool := if mode = 1 then true else if mode = 2 then noDup (numsI l 1) else if mode = 3 then noDup (cutP (numsI l 0)) else false
def allowH (s : Int) (h : List Hop) (mode : Int) : Bool := if mode = 1 then true else if mode = 2 then noDup (h.map Prod.fst) else if mode = 3 then noDup (cutP (s :: h.map Prod.snd)) else false
theorem nums_edges (s : Int) (h : List Hop) : numsI (elsP s h) 1 = h.map Prod.fst := by
  unfold numsI
  apply List.ext_getElem
  · rw [List.length_map, List.length_map, List.length_range, elsP_len]; omega
  · intro i h1 h2
    have hi : i < h.length := by simpa using h2
    rw [List.getElem_map, List.getElem_range, List.getElem_map, show 1 + 2 * i = 2 * i + 1 by omega, elsP_edge hi, getElem!_pos h i hi]; rfl
theorem nums_nodes (s : Int) (h : List Hop) : numsI (elsP s h) 0 = s :: h.map Prod.snd := by
  unfold numsI
  apply List.ext_getElem
  · rw [List.length_map, List.length_cons, List.length_map, List.length_range, elsP_len]; omega
  · intro i h1 h2
    have hi : i ≤ h.length := by simp at h2; omega
    rw [List.getElem_map, List.getElem_range, Nat.zero_add, elsP_node hi]
    show nodeP s h i = _
    unfold nodeP
    rw [getElem!_pos _ i h2]
theorem allow_els (s : Int) (h : List Hop) (mode : Int) : allowL (elsP s h) mode = allowH s h mode := by unfold allowL allowH; rw [nums_edges, nums_nodes]
theorem nodup_bang {l : List Int} : l.Nodup ↔ ∀ i j, i < j → j < l.length → l[i]! ≠ l[j]! := by
  constructor
  · intro h i j hij hj
    have := List.pairwise_iff_getElem.1 h i j (by omega) hj hij
    rwa [getElem!_pos l i (by omega), getElem!_pos l j hj]
  · exact fun h => pw_bang h
theorem cut_iff {l : List Int} : (cutP l).Nodup ↔ ∀ i j, i < j → j < l.length → (0 < i ∨ j + 1 < l.length) → l[i]! ≠ l[j]! := by
  unfold cutP
  split
  · rename_i h
    constructor
    · intro hn i j hij hj ho e
      rw [nodup_bang] at hn
      have hdl : l.dropLast.length = l.length - 1 := List.length_dropLast
      have hget : ∀ k, k + 1 < l.length → l.dropLast[k]! = l[k]! := fun k hk => by
        rw [getElem!_pos _ k (by omega), getElem!_pos _ k (by omega), List.getElem_dropLast]
      by_cases hl : j + 1 < l.length
      · have := hn i j hij (by omega)
        rw [hget i (by omega), hget j hl] at this
        exact this e
      · have hj' : j = l.length - 1 := by omega
        subst hj'
        have := hn 0 i (by omega) (by omega)
        rw [hget i (by omega), hget 0 (by omega)] at this
        exact this (h.2.trans e.symm)
    · intro hh
      rw [nodup_bang]
      intro i j hij hj
      have hdl : l.dropLast.length = l.length - 1 := List.length_dropLast
      have hget : ∀ k, k + 1 < l.length → l.dropLast[k]! = l[k]! := fun k hk => by
        rw [getElem!_pos _ k (by omega), getElem!_pos _ k (by omega), List.getElem_dropLast]
      rw [hget i (by omega), hget j (by omega)]
      exact hh i j hij (by omega) (.inr (by omega))
  · rename_i h
    rw [nodup_bang]
    constructor
    · exact fun hn i j hij hj _ => hn i j hij hj
    · intro hh i j hij hj
      by_cases ho : 0 < i ∨ j + 1 < l.length
      · exact hh i j hij hj ho
      · have e1 : i = 0 := by omega
        have e2 : j = l.length - 1 := by omega
        subst e1 e2
        exact fun e => h ⟨by omega, e⟩
/-- without its last hop a path is still allowed -/
theorem allow_prefix {s : Int} {h : List Hop} {x : Hop} {mode : Int} (ha : allowH s (h ++ [x]) mode = true) : allowH s h mode = true := by
  unfold allowH at *
  split at ha
  · rename_i h1; rw [if_pos h1]
  · rename_i h1
    rw [if_neg h1]
    split at ha
    · rename_i h2
      rw [if_pos h2]
      unfold noDup at *
      rw [decide_eq_true_iff] at *
      rw [List.map_append] at ha
      exact (List.nodup_append.1 ha).1
    · rename_i h2
      rw [if_neg h2]
      split at ha
      · rename_i h3
        rw [if_pos h3]
        unfold noDup at *
        rw [decide_eq_true_iff, cut_iff] at *
        intro i j hij hj ho
        have hl : (s :: List.map Prod.snd (h ++ [x])).length = (s :: List.map Prod.snd h).length + 1 := by simp
        have hget : ∀ k, k < (s :: List.map Prod.snd h).length → (s :: List.map Prod.snd (h ++ [x]))[k]! = (s :: List.map Prod.snd h)[k]! := fun k hk => by
          rw [getElem!_pos (s :: List.map Prod.snd (h ++ [x])) k (by omega), getElem!_pos (s :: List.map Prod.snd h) k hk]
          rw [List.getElem_of_eq (show s :: List.map Prod.snd (h ++ [x]) = (s :: List.map Prod.snd h) ++ [x.2] by simp), List.getElem_append_left hk]
        have := ha i j hij (by omega) (.inr (by omega))
        rwa [hget i (by omega), hget j hj] at this
      · cases ha
theorem allow_nil (s : Int) {mode : Int} (h : 1 ≤ mode ∧ mode ≤ 3) : allowH s [] mode = true := by
  unfold allowH
  split
  · rfl
  · split
    · rfl
    · rw [if_pos (by omega)]; rfl
theorem allow_mode {s : Int} {h : List Hop} {mode : Int} (ha : allowH s h mode = true) : 1 ≤ mode ∧ mode ≤ 3 := by
  unfold allowH at ha
  repeat' split at ha
  all_goals first | (cases ha; done) | omega
/- what lies within some hops -/
section
variable (g : GraphG) (types : List ByteArray) (dir mode s : Int)
def kidsP (h : List Hop) : List (List Hop) := ((hopsE g types dir (lastP s h)).map (fun a => h ++ [a])).filter (fun h' => allowH s h' mode)
/-- the paths of k hops, as the reference lists them -/
def levP : Nat → List (List Hop)
  | 0 => [[]]
  | k + 1 => (levP k).flatMap (kidsP g types dir mode s)
/-- the paths of k hops more -/
def levH : Nat → List Hop → List (List Hop)
  | 0, h => [h]
  | k + 1, h => (kidsP g types dir mode s h).flatMap (levH k)
theorem levH_end : ∀ (k : Nat) (h : List Hop), levH g types dir mode s (k + 1) h = (levH g types dir mode s k h).flatMap (kidsP g types dir mode s)
  | 0, h => by
    rw [levH, levH, List.flatMap_cons, List.flatMap_nil, List.append_nil]
    show (kidsP g types dir mode s h).flatMap (fun x => [x]) = _
    exact List.flatMap_singleton' _
  | k + 1, h => by
    rw [levH, show levH g types dir mode s (k + 1) h = (kidsP g types dir mode s h).flatMap (levH g types dir mode s k) from rfl, List.flatMap_assoc]
    congr 1
    funext c
    exact levH_end k c
theorem levP_levH (k : Nat) : levP g types dir mode s k = levH g types dir mode s k [] := by
  induction k with
  | zero => rfl
  | succ k ih => rw [levP, ih, levH_end]
/-- all paths of mn .. mx hops -/
def allP (mn : Int) (mx : Nat) : List (List Hop) := (List.range (mx + 1)).flatMap (fun k : Nat => if mn ≤ (k : Int) then levP g types dir mode s k else [])
/-- the walk that goes deep first; st: in which order it steps -/
def dfsP (st : Int → List Hop) (mn : Int) : Nat → List Hop → List (List Hop)
  | 0, h => if allowH s h mode = true then (if mn ≤ (h.length : Int) then [h] else []) else []
  | f + 1, h => if allowH s h mode = true then (if mn ≤ (h.length : Int) then [h] else []) ++ (st (lastP s h)).flatMap (fun a => dfsP st mn f (h ++ [a])) else []
theorem dfs_no (st : Int → List Hop) (mn : Int) (f : Nat) (h : List Hop) (ha : allowH s h mode = false) : dfsP mode s st mn f h = [] := by
  cases f <;> rw [dfsP, ha] <;> rfl
theorem dfs_perm {st : Int → List Hop} (hst : ∀ n, (st n).Perm (hopsE g types dir n)) (mn : Int) : ∀ (f : Nat) (h : List Hop), allowH s h mode = true → (dfsP mode s st mn f h).Perm ((List.range (f + 1)).flatMap (fun k : Nat => if mn ≤ ((h.length + k : Nat) : Int) then levH g types dir mode s k h else []))
  | 0, h, ha => by
    rw [dfsP, if_pos ha]
    simp [levH]
  | f + 1, h, ha => by
    rw [dfsP, if_pos ha, List.range_succ_eq_map, List.flatMap_cons, List.flatMap_map]
    refine List.Perm.append ?_ ?_
    · show (if mn ≤ (h.length : Int) then [h] else []).Perm (if mn ≤ ((h.length + 0 : Nat) : Int) then [h] else [])
      rw [Nat.add_zero]
    · have e1 : ((st (lastP s h)).flatMap (fun a => dfsP mode s st mn f (h ++ [a]))).Perm ((kidsP g types dir mode s h).flatMap (dfsP mode s st mn f)) := by
        unfold kidsP
        rw [fm_filter (fun x hx => dfs_no mode s st mn f x hx), List.flatMap_map]
        exact (hst _).flatMap_right _
      refine e1.trans ?_
      have e2 : ((kidsP g types dir mode s h).flatMap (dfsP mode s st mn f)).Perm ((kidsP g types dir mode s h).flatMap (fun c => (List.range (f + 1)).flatMap (fun k : Nat => if mn ≤ ((h.length + 1 + k : Nat) : Int) then levH g types dir mode s k c else []))) :=
        fm_cong (fun c hc => by
          unfold kidsP at hc
          obtain ⟨hc1, hc2⟩ := List.mem_filter.1 hc
          obtain ⟨a, -, rfl⟩ := List.mem_map.1 hc1
          have := dfs_perm hst mn f (h ++ [a]) hc2
          simpa using this)
      refine e2.trans ((fm_swap _ _ _).trans ?_)
      refine fm_cong (fun k _ => ?_)
      rw [show h.length + 1 + k = h.length + k.succ by omega]
      split
      · rw [levH]
      · rw [fm_none]
end
end Go.Proofs.YtigmdddeplnciaaGreatDoor
