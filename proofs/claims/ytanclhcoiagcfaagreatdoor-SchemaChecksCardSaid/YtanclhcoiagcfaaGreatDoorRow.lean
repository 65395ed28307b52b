/- A ROW WHOSE ELEMENTS HAVE SEVERAL CELLS: what copy, append and clear make of it. -/
import Derived.Laws.CopyRow
import Derived.Lib.AppendZerosOnto
import Derived.Lib.SlFresh
import Derived.Test.YtanclhcoiagcfaaGreatDoorOwn
namespace Go.Proofs.YtanclhcoiagcfaaGreatDoor
open Go.RowKit

/-- a block that is known whole -/
def Blk (w : World) (g : Nat) (t : TypeId) (cs : List Value) : Prop := w.heap[g]? = some (.cells cs.toArray t (0, 0))

theorem Blk.ext {w w' : World} {g : Nat} {t : TypeId} {cs : List Value} (h : Blk w g t cs) (e : Ext w w') : Blk w' g t cs := e.heap h
theorem Blk.cell {w : World} {g : Nat} {t : TypeId} {cs : List Value} (h : Blk w g t cs) (i : Nat) : w.cell? ⟨g, i, none⟩ = cs[i]? := by
  rw [cell_of_row w g i _ t (0, 0) h]; simp
theorem Blk.lt {w : World} {g : Nat} {t : TypeId} {cs : List Value} (h : Blk w g t cs) : g < w.heap.size := by
  unfold Blk at h
  rcases Nat.lt_or_ge g w.heap.size with hlt | hge
  · exact hlt
  · rw [Array.getElem?_eq_none hge] at h; cases h

theorem Blk.own {w : World} {g base : Nat} {t size n cap : Nat} {cs xs : List Value} (h : Blk w g t cs) (hb : base ≤ g) (hn : n ≤ cap) (hc : cap ≤ maxLen) (hl : cs.length = cap * size) (hx : xs = cs.take (n * size)) :
    w.ownsRow base t size (.slice (some ⟨g, 0, none⟩) n cap) n xs := by
  subst hx
  refine ⟨?_, .inr ⟨g, cap, cs.toArray, rfl, hb, h, hn, hc, by simpa using hl, by simp⟩⟩
  rw [List.length_take, hl, Nat.min_eq_left (Nat.mul_le_mul_right _ hn)]

/-- the row behind a store of several cells -/
def laidAt (cur : List Value) (o : Nat) (cs : List Value) : List Value := cur.take o ++ cs ++ cur.drop (o + cs.length)
theorem laidAt_len {cur cs : List Value} {o : Nat} (h : o + cs.length ≤ cur.length) : (laidAt cur o cs).length = cur.length := by
  unfold laidAt; simp; omega

theorem take_laid {cur cs : List Value} {o : Nat} (h : o ≤ cur.length) : (laidAt cur o cs).take (o + cs.length) = cur.take o ++ cs := by
  unfold laidAt
  rw [List.take_append_of_le_length (by simp; omega), List.take_of_length_le (by simp; omega)]
theorem take_laid_lt {cur cs : List Value} {o p : Nat} (h : o ≤ cur.length) (hp : p ≤ o) : (laidAt cur o cs).take p = cur.take p := by
  unfold laidAt
  rw [List.append_assoc, List.take_append_of_le_length (by simp; omega), List.take_take, Nat.min_eq_left hp]
theorem drop_laid {cur cs : List Value} {o : Nat} (h : o ≤ cur.length) : (laidAt cur o cs).drop o = cs ++ cur.drop (o + cs.length) := by
  unfold laidAt
  have e : (cur.take o).length = o := by simp; omega
  rw [List.append_assoc, List.drop_append_of_le_length (by omega), List.drop_of_length_le (by omega), List.nil_append]
/-- over two stores, the second behind the first -/
theorem laid_two {cur T r D : List Value} {p : Nat} (hT : cur.take p = T) (hp : p ≤ cur.length) (h : p + r.length + D.length ≤ cur.length) :
    (laidAt (laidAt cur p r) (p + r.length) D).take (p + r.length + D.length) = T ++ r ++ D := by
  rw [take_laid (by rw [laidAt_len (by omega)]; omega), take_laid hp, hT]
/-- over two stores, the second ahead of the first -/
theorem laid_two' {cur T r D : List Value} {p : Nat} (hT : cur.take p = T) (h : p + r.length + D.length ≤ cur.length) :
    (laidAt (laidAt cur (p + r.length) D) p r).take (p + r.length + D.length) = T ++ r ++ D := by
  have hX : (laidAt cur (p + r.length) D).length = cur.length := laidAt_len (by omega)
  have h1 : ∀ X : List Value, p + r.length ≤ X.length → (laidAt X p r).take (p + r.length + D.length) = X.take p ++ r ++ (X.drop (p + r.length)).take D.length := by
    intro X hX
    unfold laidAt
    have e : (X.take p ++ r).length = p + r.length := by simp; omega
    rw [List.take_append, e, List.take_of_length_le (by omega), show p + r.length + D.length - (p + r.length) = D.length by omega]
  rw [h1 _ (by omega), take_laid_lt (by omega) (by omega), hT, drop_laid (by omega), List.take_append_of_le_length (by omega), List.take_of_length_le (by omega)]

theorem flat_takeK {α : Type} (f : α → List Value) (size : Nat) (hf : ∀ x, (f x).length = size) (l : List α) (k : Nat) : (l.flatMap f).take (k * size) = (l.take k).flatMap f := by
  induction l generalizing k with
  | nil => simp
  | cons x l ih =>
    cases k with
    | zero => simp
    | succ k =>
      rw [List.flatMap_cons, List.take_succ_cons, List.flatMap_cons, ← ih k, List.take_append, hf, show (k + 1) * size - size = k * size by rw [Nat.add_mul]; omega, List.take_of_length_le (by rw [hf, Nat.add_mul]; omega)]
theorem flat_dropK {α : Type} (f : α → List Value) (size : Nat) (hf : ∀ x, (f x).length = size) (l : List α) (k : Nat) : (l.flatMap f).drop (k * size) = (l.drop k).flatMap f := by
  induction l generalizing k with
  | nil => simp
  | cons x l ih =>
    cases k with
    | zero => simp
    | succ k =>
      rw [List.flatMap_cons, List.drop_succ_cons, ← ih k, List.drop_append, hf, show (k + 1) * size - size = k * size by rw [Nat.add_mul]; omega, List.drop_of_length_le (by rw [hf, Nat.add_mul]; omega), List.nil_append]

theorem Blk.set {w : World} {g : Nat} {t : TypeId} {cs : List Value} (h : Blk w g t cs) (cs' : List Value) : Blk (w.setRow g cs'.toArray) g t cs' := setRow_heap w g cs.toArray _ t _ h
theorem Ext.setRow {wb w : World} {g : Nat} (h : Ext wb w) (hg : wb.heap.size ≤ g) (cs : Array Value) : Ext wb (w.setRow g cs) :=
  Below.trans h ⟨rfl, rfl, rfl, by simp [World.setRow], fun k hk => setRow_other w g k cs (by omega)⟩

theorem wpList_copy_run' {P : Program} (w : World) {ops : Array Oper} {rest : List Oper} {o : Oper} {a : Act} {Q : Exit → Act → World → Prop} (hgd : o.guard = none) (d s : Operand) (t t' : TypeId)
    (ho : o.op = .call { callee := .builtin .copy, args := #[d, s], argTypes := #[t, t'] }) (v u : Value) (hd : a.eval d = v) (hs : a.eval s = u) {v' : Value} {w' : World}
    (hr : (Builtin.copy_ #[t, t'] o.type #[v, u]).run P w = .ok v' w') (h : wpList P ops Q rest (a.put o.dst v') w') : wpList P ops Q (o :: rest) a w :=
  wpList_plain hgd fun _ hK => by
    unfold Oper.wp execOp
    simp only [ho, resolve, invoke, builtin, Sem.run_bind, Sem.run_pure, Result.andThen_ok, List.map_toArray, List.map_cons, List.map_nil, hd, hs, hr]
    exact hK _ _ h

theorem step_append_run' {P : Program} {ops : Array Oper} {o : Oper} {a : Act} {w : World} {K : Act → World → Prop} {Q : Exit → Act → World → Prop} {E : Prop} (hg : o.guard = none) (s x : Operand) (t t' : TypeId)
    (ho : o.op = .call { callee := .builtin .append, args := #[s, x], argTypes := #[t, t'] }) (v u : Value) (hs : a.eval s = v) (hx : a.eval x = u) {v' : Value} {w' : World}
    (hr : (Builtin.append_ #[t, t'] o.type #[v, u]).run P w = .ok v' w') (hK : K (a.put o.dst v') w') : if Region.wanted o (yielded ops a.tmps) = true then Oper.wp P o a w K Q else E := by
  have hw : Region.wanted o (yielded ops a.tmps) = true := by simp [Region.wanted, hg]
  rw [if_pos hw]
  unfold Oper.wp execOp
  simp only [ho, resolve, invoke, builtin, Sem.run_bind, Sem.run_pure, Result.andThen_ok, List.map_toArray, List.map_cons, List.map_nil, hs, hx, hr]
  exact hK

section
variable {P : Program}
theorem run_copy_rowK (w : World) (dT sT ty elem size g o dLen dCap : Nat) (a : Addr) (sLen sCap : Nat) (cur : List Value) (t : TypeId) (cs : List Value)
    (hu : P.underlying dT = some (.slice elem)) (hs : (P.info? elem).map (·.size) = some size)
    (hg : Blk w g t cur) (hn : cs.length = Nat.min sLen dLen * size)
    (hsrc : ∀ j v, cs[j]? = some v → w.cell? (a.add j) = some v) (hfit : o + cs.length ≤ cur.length) (h1 : ∀ v ∈ cs, v.oneCell' = true) :
    (Builtin.copy_ #[dT, sT] ty #[.slice (some ⟨g, o, none⟩) dLen dCap, .slice (some a) sLen sCap]).run P w =
      .ok (goInt (Nat.min sLen dLen)) (w.setRow g (laidAt cur o cs).toArray) := by
  have hl := run_loadCells_list (P := P) w a cs hsrc
  have hst := run_storeCells_at P g o t cs 0 cur.toArray w hg (by simpa using hfit) h1
  unfold laidAt
  cases hq : P.info? elem with
  | none => simp [hq] at hs
  | some i =>
    have hi : i.size = size := by simpa [hq] using hs
    simp [Builtin.copy_, run_underlying hu, Builtin.lenOf, Builtin.firstCells, sizeOf, typeInfo, hq, hi, ← hn, hl, hst]

theorem run_append_fitK (w : World) (t ty elem size g o n cap : Nat) (a : Addr) (m c : Nat) (cur : List Value) (tt : TypeId) (cs : List Value)
    (hu : P.underlying t = some (.slice elem)) (hs : (P.info? elem).map (·.size) = some size)
    (hg : Blk w g tt cur) (hn : cs.length = m * size) (hcap : n + m ≤ cap)
    (hsrc : ∀ j v, cs[j]? = some v → w.cell? (a.add j) = some v) (hfit : o + n * size + cs.length ≤ cur.length) (h1 : ∀ v ∈ cs, v.oneCell' = true) :
    (Builtin.append_ #[t, t] ty #[.slice (some ⟨g, o, none⟩) n cap, .slice (some a) m c]).run P w =
      .ok (.slice (some ⟨g, o, none⟩) (n + m) cap) (w.setRow g (laidAt cur (o + n * size) cs).toArray) := by
  have hl := run_loadCells_list (P := P) w a cs hsrc
  have hadd : (⟨g, o, none⟩ : Addr).add (n * size) = ⟨g, o + n * size, none⟩ := by unfold Addr.add; split <;> simp_all
  have hst := run_storeCells_at P g (o + n * size) tt cs 0 cur.toArray w hg (by simpa using hfit) h1
  unfold laidAt
  cases hq : P.info? elem with
  | none => simp [hq] at hs
  | some i =>
    have hi : i.size = size := by simpa [hq] using hs
    simp [Builtin.append_, run_underlying hu, Builtin.lenOf, Builtin.firstCells, sizeOf, typeInfo, hq, hi, ← hn, hl, hcap, hadd, hst]

theorem run_clearK (w : World) (t ty elem g o n c : Nat) (z : Value) (cur : List Value) (tt : TypeId)
    (hu : P.underlying t = some (.slice elem)) (hz : ∀ w, (zeroValue elem).run P w = .ok z w) (hn : 0 < n)
    (hg : Blk w g tt cur) (hfit : o + (Builtin.zeroCells z.cells n).size ≤ cur.length) (h1 : ∀ v ∈ (Builtin.zeroCells z.cells n).toList, v.oneCell' = true) :
    (Builtin.clear_ #[t] ty #[.slice (some ⟨g, o, none⟩) n c]).run P w = .ok (.tuple #[]) (w.setRow g (laidAt cur o (Builtin.zeroCells z.cells n).toList).toArray) := by
  have hst := run_storeCells_at P g o tt (Builtin.zeroCells z.cells n).toList 0 cur.toArray w hg (by simpa using hfit) h1
  unfold laidAt
  obtain ⟨m, rfl⟩ : ∃ m, n = m + 1 := ⟨n - 1, by omega⟩
  simp [Builtin.clear_, run_underlying hu, hz, hst]
end

end Go.Proofs.YtanclhcoiagcfaaGreatDoor
