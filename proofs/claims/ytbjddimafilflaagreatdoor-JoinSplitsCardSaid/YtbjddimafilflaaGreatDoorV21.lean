/- PARTS OF THE WALKS, joined: PlainL. -/
import Derived.Test.YtbjddimafilflaaGreatDoorV20
/- THE PLAIN LAW OF JOINS, last: the neutral table, the parts of a left join, joins with the sides exchanged. -/
namespace Go.Proofs.YtbjddimafilflaaGreatDoor
open Go.RowKit Go.Sort
/-- the table of one row without columns, and the one without rows -/
def unitT : Tab := ⟨[], [[]]⟩
theorem chk_unit : chkT unitT = 0 := by decide
theorem chk_none : chkT noTab = 0 := by decide
theorem cols_unit (a : List ByteArray) : colsJ a [] = a := by rw [cols_filter, List.filter_nil, List.append_nil]
theorem cols_unit2 (a : List ByteArray) : colsJ [] a = a := by
  rw [cols_filter, List.nil_append, List.filter_eq_self]
  intro c _
  exact outB_true.2 List.not_mem_nil
theorem agree_unit (a : List ByteArray) (x y : List Val) : agreeJ a [] x y = true := by
  rw [agreeJ_iff]; intro i _ k hk; cases hk
theorem agree_unit2 (a : List ByteArray) (x y : List Val) : agreeJ [] a x y = true := by
  rw [agreeJ_iff]; intro i hi; cases hi
theorem rest_unit (a : List ByteArray) (y : List Val) : restJ a [] y = [] := rfl
theorem others_all (b : List ByteArray) : ∀ k, othersK [] b k = List.range k := fun k => by
  unfold othersK
  rw [List.filter_eq_self]
  intro i _
  rfl
theorem rest_all (b : List ByteArray) {y : List Val} (h : y.length = b.length) : restJ [] b y = y := by
  unfold restJ partJ
  rw [others_all, ← h]
  refine List.ext_getElem (by simp) (fun i h1 h2 => ?_)
  rw [List.getElem_map, List.getElem_range, getElem!_pos y i h2]
theorem natR_unit (a : Tab) : natR a unitT = a.rows := by
  unfold natR unitT
  simp only
  rw [flat_congr (g := fun x => [x]) a.rows (fun x _ => by rw [List.filter_cons_of_pos (agree_unit _ _ _), List.filter_nil, List.map_cons, List.map_nil, rest_unit, List.append_nil])]
  induction a.rows with
  | nil => rfl
  | cons r l ih => rw [List.flatMap_cons, ih]; rfl
theorem natR_unit2 {a : Tab} (la : ∀ r ∈ a.rows, r.length = a.cols.length) : natR unitT a = a.rows := by
  unfold natR unitT
  simp only [List.flatMap_cons, List.flatMap_nil, List.append_nil, List.nil_append]
  rw [List.filter_eq_self.2 (fun y _ => agree_unit2 _ _ _)]
  refine (List.map_congr_left (fun y hy => rest_all a.cols (la y hy))).trans (List.map_id' _)
theorem natR_none (a : Tab) : natR a noTab = [] := by
  unfold natR noTab
  simp only [List.filter_nil, List.map_nil]
  induction a.rows with
  | nil => rfl
  | cons r l ih => rw [List.flatMap_cons, ih]; rfl
def sortT (a : Tab) : Tab := ⟨a.cols, sortO ordL a.rows⟩
theorem nat_unit {a : Tab} (ha : chkT a = 0) : natT a unitT = sortT a := by
  rw [natT_ok ha chk_unit, natR_unit]
  show Tab.mk (colsJ a.cols []) _ = _
  rw [cols_unit]; rfl
theorem nat_unit2 {a : Tab} (ha : chkT a = 0) : natT unitT a = sortT a := by
  rw [natT_ok chk_unit ha, natR_unit2 (chkT_zero ha).2]
  show Tab.mk (colsJ [] a.cols) _ = _
  rw [cols_unit2]; rfl
theorem nat_none {a : Tab} (ha : chkT a = 0) : natT a noTab = ⟨a.cols, []⟩ := by
  rw [natT_ok ha chk_none, natR_none]
  show Tab.mk (colsJ a.cols []) _ = _
  rw [cols_unit]; rfl
/-- the two halves have the rows of the first table -/
theorem filter_perm {α : Type} (p : α → Bool) : ∀ l : List α, (l.filter p ++ l.filter (fun x => !p x)).Perm l
  | [] => .nil
  | x :: l => by
    have ih := filter_perm p l
    cases h : p x with
    | true =>
      rw [List.filter_cons_of_pos h, List.filter_cons_of_neg (by rw [h]; exact Bool.false_ne_true), List.cons_append]
      exact ih.cons x
    | false =>
      rw [List.filter_cons_of_neg (by rw [h]; exact Bool.false_ne_true), List.filter_cons_of_pos (by rw [h]; rfl)]
      exact List.perm_middle.trans (ih.cons x)
/-- exchanged sides -/
theorem flat_app {α β : Type} (f g : α → List β) : ∀ l : List α, (l.flatMap fun x => f x ++ g x).Perm (l.flatMap f ++ l.flatMap g)
  | [] => .nil
  | x :: l => by
    rw [List.flatMap_cons, List.flatMap_cons, List.flatMap_cons, List.append_assoc, List.append_assoc]
    refine List.Perm.append_left _ ((List.Perm.append_left _ (flat_app f g l)).trans ?_)
    rw [← List.append_assoc, ← List.append_assoc]
    exact List.perm_append_comm.append_right _
theorem flat_swap {α β γ : Type} (p : α → β → Bool) (f : α → β → γ) (m : List β) : ∀ l : List α, (l.flatMap fun x => (m.filter (p x)).map (f x)).Perm (m.flatMap fun y => (l.filter (fun x => p x y)).map (fun x => f x y))
  | [] => by
    rw [List.flatMap_nil]
    induction m with
    | nil => exact .nil
    | cons y m ih => rw [List.flatMap_cons]; exact ih
  | x :: l => by
    rw [List.flatMap_cons]
    refine (List.Perm.append_left _ (flat_swap p f m l)).trans ?_
    have h : (m.flatMap fun y => ((x :: l).filter (fun x => p x y)).map (fun x => f x y)) = m.flatMap fun y => (if p x y = true then [f x y] else []) ++ (l.filter (fun x => p x y)).map (fun x => f x y) := flat_congr _ fun y _ => by
      by_cases e : p x y = true
      · rw [List.filter_cons_of_pos (by exact e), if_pos e]; rfl
      · rw [List.filter_cons_of_neg (by exact e), if_neg e]; rfl
    rw [h]
    refine List.Perm.trans (List.Perm.append_right _ (List.Perm.of_eq ?_)) (flat_app _ _ m).symm
    induction m with
    | nil => rfl
    | cons y m ih =>
      rw [List.flatMap_cons]
      by_cases e : p x y = true
      · rw [List.filter_cons_of_pos e, if_pos e, List.map_cons, ih (by
          exact flat_congr _ fun y _ => by
            by_cases e : p x y = true
            · rw [List.filter_cons_of_pos (by exact e), if_pos e]; rfl
            · rw [List.filter_cons_of_neg (by exact e), if_neg e]; rfl)]; rfl
      · rw [List.filter_cons_of_neg e, if_neg e, ih (by
          exact flat_congr _ fun y _ => by
            by_cases e : p x y = true
            · rw [List.filter_cons_of_pos (by exact e), if_pos e]; rfl
            · rw [List.filter_cons_of_neg (by exact e), if_neg e]; rfl)]; rfl
/-- a row with its columns in another order -/
def arrR (cols : List ByteArray) (xs : List ByteArray) (r : List Val) : List Val := xs.map (fun c => r[(posJ cols c).getD 0]!)
theorem get_arr {cols xs : List ByteArray} {r : List Val} (hs : ∀ c ∈ xs, c ∈ cols) {c : ByteArray} (hc : c ∈ xs) : getJ xs (arrR cols xs r) c = getJ cols r c := by
  obtain ⟨i, hi⟩ := pos_mem hc
  obtain ⟨h1, h2⟩ := posJ_some hi
  obtain ⟨j, hj⟩ := pos_mem (hs c hc)
  rw [get_at hi, get_at hj]
  congr 1
  rw [getElem!_pos xs i h1] at h2
  unfold arrR
  rw [getElem!_pos _ i (by rw [List.length_map]; exact h1), List.getElem_map, h2, hj]
  rfl
theorem arr_glue {a b : List ByteArray} (ha : a.Nodup) (hb : b.Nodup) {x y : List Val} (hx : x.length = a.length) (hy : y.length = b.length) (h : agreeJ a b x y = true) : arrR (colsJ b a) (colsJ a b) (y ++ restJ b a x) = x ++ restJ a b y := by
  refine row_ext (cols_nodup ha hb) (by unfold arrR; rw [List.length_map]) (glue_len hx) (fun c hc => ?_)
  rw [get_arr (fun c hc => mem_cols.2 ((mem_cols.1 hc).symm)) hc, get_glue ha hy, get_glue hb hx]
  cases e1 : getJ a x c with
  | none => simp
  | some u =>
    cases e2 : getJ b y c with
    | none => simp
    | some v => rw [(agree_get ha |>.1 h c u v e1 e2).2]
theorem natR_swap {a b : Tab} (ha : a.cols.Nodup) (hb : b.cols.Nodup) (la : ∀ r ∈ a.rows, r.length = a.cols.length) (lb : ∀ r ∈ b.rows, r.length = b.cols.length) :
    (natR a b).Perm ((natR b a).map (arrR (colsJ b.cols a.cols) (colsJ a.cols b.cols))) := by
  unfold natR
  refine (flat_swap _ (fun x y => x ++ restJ a.cols b.cols y) b.rows a.rows).trans (List.Perm.of_eq ?_)
  rw [List.map_flatMap]
  refine flat_congr _ (fun y hy => ?_)
  rw [List.map_map, List.filter_congr (q := agreeJ b.cols a.cols y) (fun x _ => (agree_symm ha hb x y).symm)]
  refine List.map_congr_left (fun x hx => ?_)
  obtain ⟨hx1, hx2⟩ := List.mem_filter.1 hx
  rw [agree_symm ha hb] at hx2
  exact (arr_glue ha hb (la x hx1) (lb y hy) hx2).symm
theorem cols_len_comm {a b : List ByteArray} (ha : a.Nodup) (hb : b.Nodup) : (colsJ b a).length = (colsJ a b).length :=
  ((List.perm_ext_iff_of_nodup (cols_nodup hb ha) (cols_nodup ha hb)).2 (fun c => by rw [mem_cols, mem_cols]; exact or_comm)).length_eq
theorem nat_swap {a b : Tab} (ha : chkT a = 0) (hb : chkT b = 0) : (natT a b).rows = sortO ordL ((natT b a).rows.map (arrR (natT b a).cols (natT a b).cols)) := by
  obtain ⟨na, la⟩ := chkT_zero ha
  obtain ⟨nb, lb⟩ := chkT_zero hb
  rw [natT_ok ha hb, natT_ok hb ha]
  exact sortO_of_perm ((natR_swap na nb la lb).trans ((sortO_perm TotC.row (natR b a)).symm.map _))
/-- where a column stands, as the law looks for it: the last place -/
def atJ (l : List ByteArray) (c : ByteArray) (k : Nat) : Int := match posJ (l.take k) c with | some i => (i : Int) | none => -1
theorem atJ_zero (l : List ByteArray) (c : ByteArray) : atJ l c 0 = -1 := rfl
theorem atJ_miss {l : List ByteArray} {c : ByteArray} {k : Nat} (hk : k < l.length) (h : l[k] ≠ c) : atJ l c (k + 1) = atJ l c k := by
  unfold atJ
  rw [List.take_succ_eq_append_getElem hk, pos_append]
  have : posJ [l[k]] c = none := posJ_none.2 (by simpa using fun e => h e.symm)
  rw [this]
  cases posJ (l.take k) c <;> rfl
theorem atJ_hit {l : List ByteArray} {c : ByteArray} {k : Nat} (hl : l.Nodup) (hk : k < l.length) (h : l[k] = c) : atJ l c (k + 1) = k := by
  unfold atJ
  have hn : (l.take (k + 1)).Nodup := hl.sublist (List.take_sublist _ _)
  have : posJ (l.take (k + 1)) c = some k := (posJ_iff hn).2 ⟨by rw [List.length_take]; omega, by
    rw [getElem!_pos _ k (by rw [List.length_take]; omega), List.getElem_take]; exact h⟩
  rw [this]
theorem atJ_end {l : List ByteArray} {c : ByteArray} (hc : c ∈ l) : ∃ i : Nat, atJ l c l.length = i ∧ i < l.length ∧ (posJ l c).getD 0 = i := by
  unfold atJ
  rw [List.take_length]
  obtain ⟨i, hi⟩ := pos_mem hc
  exact ⟨i, by rw [hi], (posJ_some hi).1, by rw [hi]; rfl⟩
end Go.Proofs.YtbjddimafilflaaGreatDoor
