/- PARTS OF THE WALKS, joined: Tab, TabB, OwnR. -/
import Derived.Test.YtbjddimafilflaaGreatDoorP17
import Derived.Test.YtbjddimafilflaaGreatDoorP18
import Derived.Maps.OwnOps
import Derived.Maps.OwnSet
/- TABLES IN MEMORY, and what their check says. -/
namespace Go.Proofs.YtbjddimafilflaaGreatDoor
open Go.RowKit Go.Sort
structure TabAt (w : World) (ok : Nat → Prop) (A B : Option Addr) (t : Tab) : Prop where
  cols : Strs w ok A t.cols
  rows : Rows w ok B t.rows
theorem TabAt.ext {w w' : World} {ok : Nat → Prop} {A B : Option Addr} {t : Tab} (h : TabAt w ok A B t) (e : Ext w w') : TabAt w' ok A B t := ⟨h.cols.ext e, h.rows.ext e⟩
def chkT (t : Tab) : Int := if t.cols.Nodup then (if ∀ r ∈ t.rows, r.length = t.cols.length then 0 else 1) else 7
theorem chkT_twice {t : Tab} (h : ¬ t.cols.Nodup) : chkT t = 7 := by unfold chkT; rw [if_neg h]
theorem chkT_arg {t : Tab} (h : t.cols.Nodup) {r : List Val} (hr : r ∈ t.rows) (h2 : r.length ≠ t.cols.length) : chkT t = 1 := by
  unfold chkT; rw [if_pos h, if_neg (fun h3 => h2 (h3 r hr))]
theorem chkT_ok {t : Tab} (h : t.cols.Nodup) (h2 : ∀ r ∈ t.rows, r.length = t.cols.length) : chkT t = 0 := by
  unfold chkT; rw [if_pos h, if_pos h2]
theorem chkT_zero {t : Tab} (h : chkT t = 0) : t.cols.Nodup ∧ ∀ r ∈ t.rows, r.length = t.cols.length := by
  unfold chkT at h
  split at h
  · rename_i h1
    split at h
    · rename_i h2; exact ⟨h1, h2⟩
    · cases h
  · cases h
/-- how many different ones a list has -/
theorem same_str (a b : List UInt8) : (Lit.string a).sameKey (Lit.string b) = decide (a = b) := by
  unfold Lit.sameKey
  rw [Bool.eq_iff_iff]; simp
theorem addKeys (l : List (List UInt8)) : ∀ acc : List (List UInt8), ((l.map Lit.string).foldl Maps.addKey (acc.map Lit.string)).length ≤ acc.length + l.length ∧ (acc.Nodup → ((l.map Lit.string).foldl Maps.addKey (acc.map Lit.string)).length = acc.length + l.length → (acc ++ l).Nodup) ∧ ((acc ++ l).Nodup → ((l.map Lit.string).foldl Maps.addKey (acc.map Lit.string)).length = acc.length + l.length) := by
  induction l with
  | nil => intro acc; simp
  | cons x l ih =>
    intro acc
    rw [List.map_cons, List.foldl_cons]
    have ha : (acc.map Lit.string).any (fun y => y.sameKey (.string x)) = decide (x ∈ acc) := by
      rw [List.any_map, Bool.eq_iff_iff, List.any_eq_true]
      simp [same_str]
    by_cases hx : x ∈ acc
    · rw [show Maps.addKey (acc.map Lit.string) (.string x) = acc.map Lit.string by unfold Maps.addKey; rw [ha, if_pos (decide_eq_true hx)]]
      obtain ⟨h1, -, -⟩ := ih acc
      refine ⟨by simp; omega, fun _ h => ?_, fun h => ?_⟩
      · simp at h; omega
      · rw [List.nodup_append] at h
        exact absurd rfl (h.2.2 x hx x (by simp))
    · rw [show Maps.addKey (acc.map Lit.string) (.string x) = (acc ++ [x]).map Lit.string by unfold Maps.addKey; rw [ha, if_neg (by simp [hx])]; simp]
      obtain ⟨h1, h2, h3⟩ := ih (acc ++ [x])
      rw [List.length_append] at h1 h2 h3
      simp only [List.length_cons, List.length_nil, Nat.zero_add] at h1 h2 h3 ⊢
      rw [List.append_assoc, List.singleton_append] at h2 h3
      refine ⟨by omega, fun hn h => h2 ?_ (by omega), fun h => by have := h3 h; omega⟩
      rw [List.nodup_append]
      refine ⟨hn, by simp, fun a ha b hb => ?_⟩
      rw [List.mem_singleton.1 hb]
      exact fun e => hx (e ▸ ha)
def lit (s : ByteArray) : Lit := .string s.data.toList
theorem data_inj : Function.Injective (fun s : ByteArray => s.data.toList) := fun _ _ h => ByteArray.ext (Array.toList_inj.1 h)
theorem nodup_map {α β : Type} {f : α → β} (hf : Function.Injective f) (l : List α) : (l.map f).Nodup ↔ l.Nodup := by
  induction l with
  | nil => simp
  | cons a l ih =>
    rw [List.map_cons, List.nodup_cons, List.nodup_cons, ih, List.mem_map]
    refine and_congr_left fun _ => not_congr ⟨fun ⟨b, hb, e⟩ => hf e ▸ hb, fun h => ⟨a, h, rfl⟩⟩
theorem set_size (u : DataW Unit) (l : List ByteArray) : (Maps.size (Maps.setOf u (l.map lit)) < l.length ↔ ¬ l.Nodup) ∧ Maps.size (Maps.setOf u (l.map lit)) ≤ l.length := by
  have hl : l.map lit = (l.map (fun s : ByteArray => s.data.toList)).map Lit.string := by rw [List.map_map]; rfl
  rw [Maps.size_setOf u _ (fun x hx => by obtain ⟨s, -, rfl⟩ := List.mem_map.1 hx; trivial), hl]
  obtain ⟨h1, h2, h3⟩ := addKeys (l.map (fun s : ByteArray => s.data.toList)) []
  simp only [List.map_nil, List.nil_append, List.length_nil, Nat.zero_add, List.length_map] at h1 h2 h3
  rw [nodup_map data_inj] at h2 h3
  refine ⟨⟨fun h hn => ?_, fun h => ?_⟩, h1⟩
  · have := h3 hn; omega
  · rcases Nat.lt_or_eq_of_le h1 with h4 | h4
    · exact h4
    · exact absurd (h2 List.nodup_nil h4) h
end Go.Proofs.YtbjddimafilflaaGreatDoor

/- TABLES AS ARGUMENTS: the boxes that a function lays for them. -/
namespace Go.Proofs.YtbjddimafilflaaGreatDoor
open Go.RowKit
theorem box_tab (w : World) (A B : Option Addr) (n c m d : Nat) (t : TypeId) : ∃ (q : Nat) (w1 : World), q = w.heap.size ∧ w1 = w.alloc (.cells #[.slice A n c, .slice B m d] t) ∧ w1.cell? ⟨q, 0, none⟩ = some (.slice A n c) ∧ w1.cell? ⟨q, 1, none⟩ = some (.slice B m d) ∧ Ext w w1 :=
  ⟨_, _, rfl, rfl, by rw [cell_of_row _ _ _ _ _ _ (heap_alloc_new w _)]; rfl, by rw [cell_of_row _ _ _ _ _ _ (heap_alloc_new w _)]; rfl, (Ext.refl _).alloc _⟩
theorem box_tab2 (w : World) (A B A' B' : Option Addr) (n c m d n' c' m' d' : Nat) (t t' : TypeId) : ∃ (q : Nat) (w2 : World), q = w.heap.size ∧ w2 = (w.alloc (.cells #[.slice A n c, .slice B m d] t)).alloc (.cells #[.slice A' n' c', .slice B' m' d'] t') ∧
    w2.cell? ⟨q, 0, none⟩ = some (.slice A n c) ∧ w2.cell? ⟨q, 1, none⟩ = some (.slice B m d) ∧ w2.cell? ⟨q + 1, 0, none⟩ = some (.slice A' n' c') ∧ w2.cell? ⟨q + 1, 1, none⟩ = some (.slice B' m' d') ∧ Ext w w2 := by
  obtain ⟨q, w1, hq, hw1, h0, h1, hx⟩ := box_tab w A B n c m d t
  obtain ⟨q', w2, hq', hw2, h2, h3, hx2⟩ := box_tab w1 A' B' n' c' m' d' t'
  have e : q' = q + 1 := by rw [hq', hq, hw1]; simp
  subst e
  exact ⟨q, w2, hq, by rw [hw2, hw1], hx2.cell h0, hx2.cell h1, h2, h3, hx.trans hx2⟩
end Go.Proofs.YtbjddimafilflaaGreatDoor

/- ROWS THAT A CALL COLLECTS: an own row of heads, each leading to a row outside of it. -/
namespace Go.Proofs.YtbjddimafilflaaGreatDoor
open Go.RowKit Go.Sort
/-- the call's own row v holds the rows acc; their elements lie outside v's block, in blocks of the kind ok0 -/
def OwnRows (W : World) (base : Nat) (ok0 : Nat → Prop) (v : Value) (acc : List (List Val)) : Prop :=
  ∃ ps : List HRow, ps.map Prod.snd = acc ∧ W.ownsRow base 37 1 v ps.length (ps.map encP) ∧ ∀ p ∈ ps, GoodRow W (fun b => ok0 b ∧ some b ≠ v.ownBlock) p
theorem OwnRows.nil (W : World) (base : Nat) (ok0 : Nat → Prop) : OwnRows W base ok0 (.slice none 0 0) [] := ⟨[], rfl, World.ownsRow_nil _ _ _ _, fun p hp => absurd hp (by simp)⟩
theorem GoodRow.keep' {w w' : World} {ok ok' : Nat → Prop} {p : HRow} (h : GoodRow w ok p) (hk : ∀ b o x, ok b → w.cell? ⟨b, o, none⟩ = some x → w'.cell? ⟨b, o, none⟩ = some x ∧ ok' b) : GoodRow w' ok' p := ⟨h.1, h.2.1, h.2.2.keep' hk⟩
theorem OwnRows.ext {W W' : World} {base : Nat} {ok0 : Nat → Prop} {v : Value} {acc : List (List Val)} (h : OwnRows W base ok0 v acc) (e : Ext W W') : OwnRows W' base ok0 v acc := by
  obtain ⟨ps, h1, h2, h3⟩ := h
  exact ⟨ps, h1, own_ext h2 e, fun p hp => (h3 p hp).keep (fun _ _ _ _ hc => e.cell hc) (fun _ h => h)⟩
theorem OwnRows.mono {W : World} {base base' : Nat} {ok0 : Nat → Prop} {v : Value} {acc : List (List Val)} (h : OwnRows W base ok0 v acc) (e : base' ≤ base) : OwnRows W base' ok0 v acc := by
  obtain ⟨ps, h1, h2, h3⟩ := h
  exact ⟨ps, h1, own_mono h2 e, h3⟩
theorem OwnRows.lt {W : World} {base : Nat} {ok0 : Nat → Prop} {v : Value} {acc : List (List Val)} (h : OwnRows W base ok0 v acc) {g : Nat} (hg : v.ownBlock = some g) : base ≤ g ∧ g < W.heap.size := by
  obtain ⟨ps, h1, h2, h3⟩ := h
  exact h2.lt g hg
theorem OwnRows.form {W : World} {base : Nat} {ok0 : Nat → Prop} {v : Value} {acc : List (List Val)} (h : OwnRows W base ok0 v acc) : ∃ A c, v = .slice A acc.length c := by
  obtain ⟨ps, h1, h2, -⟩ := h
  obtain ⟨A, c, e⟩ := own_form h2
  exact ⟨A, c, by rw [e, ← h1, List.length_map]⟩
theorem OwnRows.rows {W : World} {base : Nat} {ok0 : Nat → Prop} {v : Value} {acc : List (List Val)} (h : OwnRows W base ok0 v acc) (hm : acc.length ≤ 8000000) : ∃ A c, v = .slice A acc.length c ∧ acc.length ≤ c ∧ Rows W (fun b => ok0 b ∨ base ≤ b) A acc := by
  obtain ⟨ps, rfl, h2, h3⟩ := h
  rw [List.length_map] at hm ⊢
  rcases h2.2 with ⟨rfl, hn⟩ | ⟨g, cap, cur, rfl, hB, hg, hnc, hcm, -⟩
  · have : ps = [] := List.eq_nil_of_length_eq_zero hn
    subst this
    exact ⟨none, 0, rfl, Nat.le_refl _, SliceR.nil _ _ _⟩
  · refine ⟨_, cap, rfl, hnc, ?_⟩
    have h1 := rows_of (W := W) (B := base) (g := g) (cap := cap) (ok := fun b => ok0 b ∧ some b ≠ (Value.slice (some ⟨g, 0, none⟩) ps.length cap).ownBlock) (ok' := fun b => ok0 b ∨ base ≤ b) (d := ps.toArray) (by simpa using h2) (fun m hm => by
      rw [getElem!_pos ps.toArray m hm]
      exact h3 _ (by simp)) (fun _ h => .inl h.1) (.inr hB) (by simp; omega)
    simpa using h1
theorem own_pushR {ops : Array Oper} {rest : List Oper} {o : Oper} {a : Act} {Q : Exit → Act → World → Prop} {w : World} (hgd : o.guard = none) (s x : Operand)
    (ho : o.op = .call { callee := .builtin .append, args := #[s, x], argTypes := #[23, 23] }) (base : Nat) (ok0 : Nat → Prop) (w0 : World) (v : Value) (acc : List (List Val)) (r : List Val) (A : Option Addr) (c : Nat) (hs : a.eval s = v) (hown : OwnRows w0 base ok0 v acc) (hb : base ≤ w0.heap.size)
    (hw : w = w0.alloc (.cells #[.slice A r.length c] 37)) (hx : a.eval x = .slice (some ⟨w0.heap.size, 0, none⟩) 1 1) (hrc : r.length ≤ c) (hp : Vals w0 (fun b => ok0 b ∧ some b ≠ v.ownBlock) A r)
    (h63 : acc.length ≤ 8000000)
    (h : ∀ v' w', OwnRows w' base ok0 v' (acc ++ [r]) → w0.grownBy w' v.ownBlock → wpList Tryz.prog ops Q rest (a.put o.dst v') w') : wpList Tryz.prog ops Q (o :: rest) a w := by
  obtain ⟨ps, h1, h2, h3⟩ := hown
  obtain ⟨z, hz, hzc⟩ := T_row.hi
  obtain ⟨i, hi, hz0, hz1, hz2⟩ := info_parts hz
  have hpl : ps.length = acc.length := by rw [← h1, List.length_map]
  subst hw
  refine wpList_append_own_at _ hgd s x 23 ho base 37 i z 1 24 T_row.ht hi hz0 hz1 hz2 hzc T_row.hs v ps.length (ps.map encP) hs (h2.alloc _) ⟨w0.heap.size, 0, none⟩ 1 1 [.slice A r.length c] hx rfl ?_ (fun u hu => by rw [List.mem_singleton.1 hu]; rfl) (by unfold maxLen; omega) ?_ (Nat.le_trans hb (by simp)) ?_
  · intro j u hj
    rw [Addr.add_mid, cell_of_row _ _ _ _ _ _ (heap_alloc_new w0 _)]
    simpa using hj
  · omega
  · intro v' w' k2 k3 _ k5
    have hcell : ∀ b o x, (some b ≠ v.ownBlock) → w0.cell? ⟨b, o, none⟩ = some x → w'.cell? ⟨b, o, none⟩ = some x ∧ some b ≠ v'.ownBlock := fun b o x hb hc => by
      have hlt : b < w0.heap.size := block_lt_of_cell hc
      have hc2 : (w0.alloc (.cells #[.slice A r.length c] 37)).cell? ⟨b, o, none⟩ = some x := (World.cell?_alloc_lt w0 _ ⟨b, o, none⟩ hlt).trans hc
      refine ⟨(World.cell?_of_block (k3.block b (by simp; omega) hb)).trans hc2, ?_⟩
      rcases k5 with e | e
      · rw [e]; exact hb
      · rw [e]
        intro e2
        injection e2 with e2
        simp at e2; omega
    refine h v' w' ⟨ps ++ [(⟨A, r.length, c⟩, r)], by rw [List.map_append, h1]; rfl, ?_, fun p hq => ?_⟩ ?_
    · rw [List.length_append, List.map_append]; exact k2
    · rcases List.mem_append.1 hq with hq | hq
      · exact (h3 p hq).keep' (fun b o x hb hc => ⟨(hcell b o x hb.2 hc).1, hb.1, (hcell b o x hb.2 hc).2⟩)
      · rw [List.mem_singleton.1 hq]
        exact ⟨rfl, hrc, hp.keep' (fun b o x hb hc => ⟨(hcell b o x hb.2 hc).1, hb.1, (hcell b o x hb.2 hc).2⟩)⟩
    · exact ⟨k3.os, k3.tape, k3.output, Nat.le_trans (by simp) k3.size, fun b hb hne => (k3.block b (by simp; omega) hne).trans (((Ext.refl w0).alloc _).block b hb)⟩
theorem T_int : ElT Tryz.prog 61 3 1 8 := ⟨Tryz.underlying61, ⟨.int .i64 0, by kernel_rfl, rfl⟩, by decide⟩
/-- strings and numbers that a call collects -/
theorem flat_one {α : Type} (f : α → Value) : ∀ l : List α, (l.map (fun x => [f x])).flatten = l.map f
  | [] => rfl
  | a :: l => by rw [List.map_cons, List.flatten_cons, flat_one f l]; rfl
theorem own_strs {w : World} {base : Nat} {v : Value} {l : List ByteArray} (h : w.ownsRow base 9 1 v l.length (l.map Value.string)) (hm : l.length ≤ 140737488355328) : ∃ A c, v = .slice A l.length c ∧ l.length ≤ c ∧ Strs w (fun b => base ≤ b) A l :=
  own_sliceR (cs := l.map (fun s => [Value.string s])) (by rw [flat_one]; exact h) rfl (by simp) (fun x hx => by obtain ⟨s, -, rfl⟩ := List.mem_map.1 hx; rfl) hm (fun g hg _ k hk hk' hcell => ⟨hg, by rw [List.getElem_map] at hcell; exact hcell 0 _ rfl⟩)
theorem own_nums {w : World} {base : Nat} {v : Value} {l : List Int} (h : w.ownsRow base 3 1 v l.length (l.map (Value.int .i64))) (hm : l.length ≤ 140737488355328) : ∃ A c, v = .slice A l.length c ∧ l.length ≤ c ∧ Nums w (fun b => base ≤ b) A l :=
  own_sliceR (cs := l.map (fun s => [Value.int .i64 s])) (by rw [flat_one]; exact h) rfl (by simp) (fun x hx => by obtain ⟨s, -, rfl⟩ := List.mem_map.1 hx; rfl) hm (fun g hg _ k hk hk' hcell => ⟨hg, by rw [List.getElem_map] at hcell; exact hcell 0 _ rfl⟩)
theorem Strs.news {w : World} {ok : Nat → Prop} {A : Option Addr} {l : List ByteArray} (h : Strs w ok A l) : ∀ ad, A = some ad → ∀ j u, (l.map Value.string)[j]? = some u → w.cell? (ad.add j) = some u := fun ad e j u hu => by
  rw [List.getElem?_map] at hu
  rcases Nat.lt_or_ge j l.length with hj | hj
  · obtain ⟨b, o, e2, hc⟩ := h.2 (by omega)
    rw [e] at e2
    injection e2 with e2
    subst e2
    rw [List.getElem?_eq_getElem hj] at hu
    simp at hu
    have := (hc j hj).2
    rw [Nat.mul_one] at this
    rw [Addr.add_mid, ← hu]; exact this
  · rw [List.getElem?_eq_none hj] at hu; cases hu
theorem CopyTo.snoc {w : World} {ok : Nat → Prop} {l : List Val} {cs : List (List Value)} (h : CopyTo w ok l cs) (hl : cs.length = l.length) (x : Val) {A : Option Addr} {c : Nat} (hc : x.l.length ≤ c) (hv : Vals w ok A x.l) : CopyTo w ok (l ++ [x]) (cs ++ [x.cells A c]) :=
  h.app (CopyTo.cons (CopyTo.nil w ok []) x hc hv) hl (fun _ h => h) (fun _ h => h)
end Go.Proofs.YtbjddimafilflaaGreatDoor
