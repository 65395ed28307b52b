/- PARTS OF THE WALKS, joined: Clone, PlainZ, PlainZa, Bag, OwnC, Idx. -/
import Derived.Test.YtgojggmjajlbpaaGreatDoorV06
import Derived.WalkSpells
import Derived.Deep.Cut
import Derived.Test.YtgojggmjajlbpaaGreatDoorV01
import Derived.Test.YtgojggmjajlbpaaGreatDoorV00
import Derived.RowKit
import Derived.Test.YtgojggmjajlbpaaGreatDoorV04
import Derived.WalkKit
/- THE WALKS over slices.Clone, at each element type; a value slice's cells in one row. -/
namespace Go.Proofs.YtgojggmjajlbpaaGreatDoor
open Go.RowKit
theorem CopyTo.cons {w : World} {ok : Nat → Prop} {l : List Val} {cs : List (List Value)} (h : CopyTo w ok l cs) (v : Val) {A : Option Addr} {c : Nat} (hc : v.l.length ≤ c) (hv : Vals w ok A v.l) : CopyTo w ok (v :: l) (v.cells A c :: cs) := fun i hi => by
  cases i with
  | zero => exact ⟨by simp, A, c, rfl, hc, hv⟩
  | succ i =>
    obtain ⟨h', A', c', e1, e2, e3⟩ := h i (by simpa using hi)
    exact ⟨by simpa using h', A', c', e1, e2, e3⟩
theorem CopyTo.one {w : World} {ok : Nat → Prop} {l : List Val} {cs : List (List Value)} (h : CopyTo w ok l cs) : ∀ u ∈ cs.flatten, u.oneCell' = true := fun u hu => by
  obtain ⟨x, hx, hu⟩ := List.mem_flatten.1 hu
  obtain ⟨i, hi, rfl⟩ := List.getElem_of_mem hx
  obtain ⟨_, A, c, e, _⟩ := h i hi
  rw [e] at hu
  exact Val.cells_one _ _ _ u hu
theorem T_row : ElT Tryz.prog 27 24 1 24 :=
  ⟨Tryz.underlying27, ⟨.slice none 0 0, by kernel_rfl, rfl⟩, by decide⟩
end Go.Proofs.YtgojggmjajlbpaaGreatDoor

/- PLAIN: bags of rows with signed multiplicities: their normal form, and the text that names a row. No program in sight. -/
namespace Go.Proofs.YtgojggmjajlbpaaGreatDoor
open Go.RowKit (wrap64)
abbrev Sg := List Val × Int
theorem w64_in {n : Int} (h : -9223372036854775808 ≤ n ∧ n ≤ 9223372036854775807) : wrap64 n = n := by unfold wrap64; omega
theorem w64_rng (n : Int) : -9223372036854775808 ≤ wrap64 n ∧ wrap64 n ≤ 9223372036854775807 := by unfold wrap64; omega
theorem w64_l (a b : Int) : wrap64 (wrap64 a + b) = wrap64 (a + b) := by unfold wrap64; omega
theorem w64_r (a b : Int) : wrap64 (a + wrap64 b) = wrap64 (a + b) := by unfold wrap64; omega
theorem w64_neg (a : Int) : wrap64 (-wrap64 a) = wrap64 (-a) := by unfold wrap64; omega
theorem w64_w (a : Int) : wrap64 (wrap64 a) = wrap64 a := by unfold wrap64; omega
def inW (n : Int) : Prop := -9223372036854775808 ≤ n ∧ n ≤ 9223372036854775807
def RgZ (z : List Sg) : Prop := ∀ x ∈ z, inW x.2
/-- how often a row occurs -/
def cntZ (r : List Val) : List Sg → Int
  | [] => 0
  | x :: z => (if ordL x.1 r = 0 then x.2 else 0) + cntZ r z
theorem cntZ_cons (r : List Val) (x : Sg) (z : List Sg) : cntZ r (x :: z) = (if ordL x.1 r = 0 then x.2 else 0) + cntZ r z := rfl
theorem cntZ_app (r : List Val) (a b : List Sg) : cntZ r (a ++ b) = cntZ r a + cntZ r b := by
  induction a with
  | nil => simp [cntZ]
  | cons x a ih => rw [List.cons_append, cntZ_cons, cntZ_cons, ih]; omega
theorem cntZ_perm (r : List Val) {a b : List Sg} (h : a.Perm b) : cntZ r a = cntZ r b := by
  induction h with
  | nil => rfl
  | cons x _ ih => rw [cntZ_cons, cntZ_cons, ih]
  | swap x y l => rw [cntZ_cons, cntZ_cons, cntZ_cons, cntZ_cons]; omega
  | trans _ _ h1 h2 => exact h1.trans h2
theorem cntZ_zero {r : List Val} {z : List Sg} (h : ∀ x ∈ z, ordL x.1 r ≠ 0) : cntZ r z = 0 := by
  induction z with
  | nil => rfl
  | cons x z ih => rw [cntZ_cons, if_neg (h x (by simp)), ih (fun y hy => h y (by simp [hy]))]; omega
theorem cntZ_filter (r : List Val) (z : List Sg) : cntZ r (z.filter (fun x => x.2 != 0)) = cntZ r z := by
  induction z with
  | nil => rfl
  | cons x z ih =>
    rw [List.filter_cons]
    by_cases h : x.2 = 0
    · rw [if_neg (by simp [h]), ih, cntZ_cons, h]; split <;> omega
    · rw [if_pos (by simp [h]), cntZ_cons, cntZ_cons, ih]
/-- rising strictly by the row -/
def Inc (z : List Sg) : Prop := z.Pairwise (fun x y => ordL x.1 y.1 < 0)
/-- in normal form -/
structure Good (z : List Sg) : Prop where
  inc : Inc z
  nz : ∀ x ∈ z, x.2 ≠ 0
  rg : RgZ z
theorem Good.nil : Good [] := ⟨List.Pairwise.nil, fun x h => absurd h (by simp), fun x h => absurd h (by simp)⟩
theorem Good.tail {x : Sg} {z : List Sg} (h : Good (x :: z)) : Good z := ⟨(List.pairwise_cons.1 h.inc).2, fun y hy => h.nz y (by simp [hy]), fun y hy => h.rg y (by simp [hy])⟩
theorem gt_ne {a b : List Val} (h : ordL a b < 0) : ordL b a ≠ 0 := by rw [ordL_anti a b]; omega
theorem ordL_self (a : List Val) : ordL a a = 0 := TotC.row.refl a
theorem ordL_eq {a b : List Val} : ordL a b = 0 ↔ a = b := TotC.row.zero a b
theorem ordL_lt {a b c : List Val} (h : ordL a b < 0) (k : ordL b c ≤ 0) : ordL a c < 0 := by
  have h1 := TotC.row.trans a b c (by omega) k
  rcases Int.lt_or_eq_of_le h1 with h2 | h2
  · exact h2
  · have e := ordL_eq.1 h2
    subst e
    have := TotC.row.anti a b
    omega
theorem Good.head_cnt {x : Sg} {z : List Sg} (h : Good (x :: z)) : cntZ x.1 (x :: z) = x.2 := by
  rw [cntZ_cons, if_pos (ordL_self _), cntZ_zero (fun y hy => gt_ne ((List.pairwise_cons.1 h.inc).1 y hy))]; omega
theorem good_unique : ∀ {a b : List Sg}, Good a → Good b → (∀ r, cntZ r a = cntZ r b) → a = b
  | [], [], _, _, _ => rfl
  | [], y :: b, _, hb, h => by
    have h1 := h y.1
    rw [hb.head_cnt] at h1
    exact absurd h1.symm (hb.nz y (by simp))
  | x :: a, [], ha, _, h => by
    have h1 := h x.1
    rw [ha.head_cnt] at h1
    exact absurd h1 (ha.nz x (by simp))
  | x :: a, y :: b, ha, hb, h => by
    have ha' := List.pairwise_cons.1 ha.inc
    have hb' := List.pairwise_cons.1 hb.inc
    rcases TotC.row.rng x.1 y.1 with e | e | e
    · have h1 := h x.1
      rw [ha.head_cnt, cntZ_cons, if_neg (gt_ne (by omega)), cntZ_zero (fun z hz => gt_ne (ordL_lt (show ordL x.1 y.1 < 0 by omega) (Int.le_of_lt (hb'.1 z hz))))] at h1
      exact absurd h1 (ha.nz x (by simp))
    · have hr : x.1 = y.1 := ordL_eq.1 e
      have h1 := h x.1
      rw [ha.head_cnt, hr, hb.head_cnt] at h1
      have hxy : x = y := Prod.ext hr h1
      subst hxy
      rw [good_unique ha.tail hb.tail (fun r => by have := h r; rw [cntZ_cons, cntZ_cons] at this; omega)]
    · have e2 : ordL y.1 x.1 < 0 := by rw [ordL_anti x.1 y.1]; omega
      have h1 := h y.1
      rw [hb.head_cnt, cntZ_cons, if_neg (gt_ne e2), cntZ_zero (fun z hz => gt_ne (ordL_lt e2 (Int.le_of_lt (ha'.1 z hz))))] at h1
      exact absurd h1.symm (hb.nz y (by simp))
/-- one more occurrence into a rising bag -/
def insZ (x : Sg) : List Sg → List Sg
  | [] => [x]
  | y :: z => if ordL y.1 x.1 < 0 then y :: insZ x z else if ordL y.1 x.1 = 0 then (y.1, wrap64 (y.2 + x.2)) :: z else x :: y :: z
theorem insZ_mem {x : Sg} : ∀ {z : List Sg} {y : Sg}, y ∈ insZ x z → y.1 = x.1 ∨ ∃ v ∈ z, v.1 = y.1
  | [], y, h => by unfold insZ at h; rw [List.mem_singleton.1 h]; exact .inl rfl
  | v :: z, y, h => by
    unfold insZ at h
    split at h
    · rcases List.mem_cons.1 h with e | e
      · exact .inr ⟨v, by simp, by rw [e]⟩
      · rcases insZ_mem e with h1 | ⟨u, hu, h1⟩
        · exact .inl h1
        · exact .inr ⟨u, by simp [hu], h1⟩
    · split at h
      · rcases List.mem_cons.1 h with e | e
        · exact .inr ⟨v, by simp, by rw [e]⟩
        · exact .inr ⟨y, by simp [e], rfl⟩
      · rcases List.mem_cons.1 h with e | e
        · exact .inl (by rw [e])
        · exact .inr ⟨y, e, rfl⟩
theorem insZ_inc {x : Sg} : ∀ {z : List Sg}, Inc z → Inc (insZ x z)
  | [], _ => List.pairwise_singleton _ _
  | v :: z, h => by
    have h' := List.pairwise_cons.1 h
    unfold insZ
    split
    · rename_i h1
      refine List.pairwise_cons.2 ⟨fun y hy => ?_, insZ_inc h'.2⟩
      rcases insZ_mem hy with e | ⟨u, hu, e⟩
      · rw [e]; exact h1
      · rw [← e]; exact h'.1 u hu
    · rename_i h1
      split
      · exact List.pairwise_cons.2 ⟨h'.1, h'.2⟩
      · rename_i h2
        have h3 : ordL x.1 v.1 < 0 := by rw [ordL_anti v.1 x.1]; omega
        refine List.pairwise_cons.2 ⟨fun y hy => ?_, h⟩
        rcases List.mem_cons.1 hy with e | e
        · rw [e]; exact h3
        · exact ordL_lt h3 (Int.le_of_lt (h'.1 y e))
theorem insZ_rg {x : Sg} (hx : inW x.2) : ∀ {z : List Sg}, RgZ z → RgZ (insZ x z)
  | [], _ => fun y hy => by unfold insZ at hy; rw [List.mem_singleton.1 hy]; exact hx
  | v :: z, h => by
    have ih := insZ_rg hx (z := z) (fun y hy => h y (by simp [hy]))
    unfold insZ
    split
    · intro y hy
      rcases List.mem_cons.1 hy with e | e
      · rw [e]; exact h v (by simp)
      · exact ih y e
    · split
      · intro y hy
        rcases List.mem_cons.1 hy with e | e
        · rw [e]; exact w64_rng _
        · exact h y (by simp [e])
      · intro y hy
        rcases List.mem_cons.1 hy with e | e
        · rw [e]; exact hx
        · exact h y e
theorem insZ_cnt (r : List Val) (x : Sg) : ∀ z : List Sg, wrap64 (cntZ r (insZ x z)) = wrap64 (cntZ r (x :: z))
  | [] => rfl
  | v :: z => by
    have ih := insZ_cnt r x z
    rw [cntZ_cons] at ih
    unfold insZ
    split
    · rw [cntZ_cons, ← w64_r, ih, w64_r, cntZ_cons, cntZ_cons]
      congr 1; omega
    · split
      · rename_i h2
        have e := ordL_eq.1 h2
        rw [cntZ_cons, cntZ_cons, cntZ_cons]
        show wrap64 ((if ordL v.1 r = 0 then wrap64 (v.2 + x.2) else 0) + cntZ r z) = _
        rw [e]
        split
        · rw [w64_l]; congr 1; omega
        · congr 1; omega
      · rfl
/-- a bag in normal form -/
def sumZ (z : List Sg) : List Sg := z.foldl (fun s x => insZ x s) []
def normP (z : List Sg) : List Sg := (sumZ z).filter (fun x => x.2 != 0)
theorem sumZ_aux (r : List Val) : ∀ (z s : List Sg), Inc s → RgZ s → RgZ z → Inc (z.foldl (fun s x => insZ x s) s) ∧ RgZ (z.foldl (fun s x => insZ x s) s) ∧ wrap64 (cntZ r (z.foldl (fun s x => insZ x s) s)) = wrap64 (cntZ r s + cntZ r z)
  | [], s, h1, h2, _ => ⟨h1, h2, by simp [cntZ]⟩
  | x :: z, s, h1, h2, h3 => by
    obtain ⟨a, b, c⟩ := sumZ_aux r z (insZ x s) (insZ_inc h1) (insZ_rg (h3 x (by simp)) h2) (fun y hy => h3 y (by simp [hy]))
    refine ⟨a, b, ?_⟩
    rw [List.foldl_cons, c, ← w64_l, insZ_cnt, w64_l, cntZ_cons, cntZ_cons]
    congr 1; omega
theorem inc_cnt_rg {z : List Sg} (h : Inc z) (hr : RgZ z) (r : List Val) : inW (cntZ r z) := by
  induction z with
  | nil => show inW 0; unfold inW; omega
  | cons x z ih =>
    have h' := List.pairwise_cons.1 h
    rw [cntZ_cons]
    split
    · rename_i e
      rw [cntZ_zero (fun y hy => by rw [← ordL_eq.1 e]; exact gt_ne (h'.1 y hy)), Int.add_zero]
      exact hr x (by simp)
    · rw [Int.zero_add]; exact ih h'.2 (fun y hy => hr y (by simp [hy]))
theorem norm_good {z : List Sg} (h : RgZ z) : Good (normP z) := by
  obtain ⟨a, b, -⟩ := sumZ_aux [] z [] List.Pairwise.nil (fun x h => absurd h (by simp)) h
  exact ⟨a.filter _, fun x hx => by simpa using (List.mem_filter.1 hx).2, fun x hx => b x (List.mem_filter.1 hx).1⟩
theorem norm_cnt {z : List Sg} (h : RgZ z) (r : List Val) : cntZ r (normP z) = wrap64 (cntZ r z) := by
  obtain ⟨a, b, c⟩ := sumZ_aux r z [] List.Pairwise.nil (fun x h => absurd h (by simp)) h
  unfold normP
  rw [cntZ_filter]
  show cntZ r (z.foldl (fun s x => insZ x s) []) = _
  rw [← w64_in (inc_cnt_rg a b r), c]
  congr 1; show 0 + cntZ r z = _; omega
/-- .. whatever else finds it -/
theorem norm_is {z L : List Sg} (h : RgZ z) (hL : Good L) (hc : ∀ r, cntZ r L = wrap64 (cntZ r z)) : L = normP z :=
  good_unique hL (norm_good h) (fun r => by rw [hc, norm_cnt h])
theorem good_cnt {L : List Sg} (h : Good L) (r : List Val) : wrap64 (cntZ r L) = cntZ r L := w64_in (inc_cnt_rg h.inc h.rg r)
theorem norm_self {L : List Sg} (h : Good L) : normP L = L := (norm_is h.rg h (fun r => (good_cnt h r).symm)).symm
/-- negated -/
def negZ (z : List Sg) : List Sg := z.map (fun x => (x.1, wrap64 (-x.2)))
theorem neg_good {z : List Sg} (h : Good z) : Good (negZ z) := by
  refine ⟨List.pairwise_map.2 h.inc, fun x hx => ?_, fun x hx => ?_⟩
  · obtain ⟨y, hy, rfl⟩ := List.mem_map.1 hx
    have h1 := h.nz y hy
    have h2 := h.rg y hy
    show wrap64 (-y.2) ≠ 0
    unfold inW at h2
    unfold wrap64; omega
  · obtain ⟨y, hy, rfl⟩ := List.mem_map.1 hx
    exact w64_rng _
theorem neg_cnt (r : List Val) (z : List Sg) : wrap64 (cntZ r (negZ z)) = wrap64 (-cntZ r z) := by
  induction z with
  | nil => rfl
  | cons x z ih =>
    show wrap64 (cntZ r ((x.1, wrap64 (-x.2)) :: negZ z)) = _
    rw [cntZ_cons, cntZ_cons, ← w64_r, ih, w64_r]
    show wrap64 ((if ordL x.1 r = 0 then wrap64 (-x.2) else 0) + -cntZ r z) = _
    split
    · rw [w64_l]; congr 1; omega
    · congr 1; omega
theorem neg_rg (z : List Sg) : RgZ (negZ z) := fun x hx => by
  obtain ⟨y, -, rfl⟩ := List.mem_map.1 hx
  exact w64_rng _
def addP (a b : List Sg) : List Sg := normP (a ++ b)
def negP (z : List Sg) : List Sg := negZ (normP z)
def subP (a b : List Sg) : List Sg := addP a (negP b)
theorem rg_app {a b : List Sg} (ha : RgZ a) (hb : RgZ b) : RgZ (a ++ b) := fun x hx => (List.mem_append.1 hx).elim (ha x) (hb x)
theorem negP_good {z : List Sg} (h : RgZ z) : Good (negP z) := neg_good (norm_good h)
theorem add_good {a b : List Sg} (ha : RgZ a) (hb : RgZ b) : Good (addP a b) := norm_good (rg_app ha hb)
theorem sub_good {a b : List Sg} (ha : RgZ a) (hb : RgZ b) : Good (subP a b) := add_good ha (negP_good hb).rg
theorem add_cnt {a b : List Sg} (ha : RgZ a) (hb : RgZ b) (r : List Val) : cntZ r (addP a b) = wrap64 (cntZ r a + cntZ r b) := by
  unfold addP; rw [norm_cnt (rg_app ha hb), cntZ_app]
theorem negP_cnt {z : List Sg} (h : RgZ z) (r : List Val) : cntZ r (negP z) = wrap64 (-cntZ r z) := by
  have h1 := neg_cnt r (normP z)
  rw [norm_cnt h, w64_neg] at h1
  rw [← h1]; exact (good_cnt (negP_good h) r).symm
theorem sub_cnt {a b : List Sg} (ha : RgZ a) (hb : RgZ b) (r : List Val) : cntZ r (subP a b) = wrap64 (cntZ r a - cntZ r b) := by
  unfold subP; rw [add_cnt ha (negP_good hb).rg, negP_cnt hb, w64_r]; congr 1
/-- THE LAWS OF THE GROUP -/
theorem add_comm' {a b : List Sg} (ha : RgZ a) (hb : RgZ b) : addP a b = addP b a :=
  good_unique (add_good ha hb) (add_good hb ha) (fun r => by rw [add_cnt ha hb, add_cnt hb ha, Int.add_comm])
theorem add_assoc' {a b c : List Sg} (ha : RgZ a) (hb : RgZ b) (hc : RgZ c) : addP (addP a b) c = addP a (addP b c) :=
  good_unique (add_good (add_good ha hb).rg hc) (add_good ha (add_good hb hc).rg) (fun r => by
    rw [add_cnt (add_good ha hb).rg hc, add_cnt ha (add_good hb hc).rg, add_cnt ha hb, add_cnt hb hc, w64_l, w64_r]; congr 1; omega)
theorem add_neg' {a : List Sg} (ha : RgZ a) : addP a (negP a) = [] :=
  good_unique (add_good ha (negP_good ha).rg) Good.nil (fun r => by
    rw [add_cnt ha (negP_good ha).rg, negP_cnt ha, w64_r]
    show wrap64 (cntZ r a + -cntZ r a) = 0
    rw [Int.add_right_neg]; exact w64_in ⟨by omega, by omega⟩)
theorem sub_add' {a b : List Sg} (ha : RgZ a) (hb : RgZ b) : addP (subP a b) b = normP a :=
  good_unique (add_good (sub_good ha hb).rg hb) (norm_good ha) (fun r => by
    rw [add_cnt (sub_good ha hb).rg hb, sub_cnt ha hb, norm_cnt ha, w64_l]; congr 1; omega)
theorem neg_neg' {a : List Sg} (ha : RgZ a) : negP (negP a) = normP a :=
  good_unique (negP_good (negP_good ha).rg) (norm_good ha) (fun r => by
    rw [negP_cnt (negP_good ha).rg, negP_cnt ha, w64_neg, Int.neg_neg, norm_cnt ha])
theorem add_nil' {a : List Sg} : addP a [] = normP a := by unfold addP; rw [List.append_nil]
/-- the rows of positive multiplicity, each once -/
def distP (z : List Sg) : List Sg := ((normP z).filter (fun x => decide (0 < x.2))).map (fun x => (x.1, 1))
theorem dist_good {z : List Sg} (h : RgZ z) : Good (distP z) := by
  refine ⟨List.pairwise_map.2 ((norm_good h).inc.filter _), fun x hx => ?_, fun x hx => ?_⟩ <;>
  · obtain ⟨y, -, rfl⟩ := List.mem_map.1 hx
    first | (show (1 : Int) ≠ 0; omega) | (show inW 1; unfold inW; omega)
theorem dist_cnt_aux (r : List Val) : ∀ {L : List Sg}, Inc L → (cntZ r ((L.filter (fun x => decide (0 < x.2))).map (fun x => (x.1, (1 : Int)))) = 1 ↔ 0 < cntZ r L)
  | [], _ => by show (0 : Int) = 1 ↔ (0 : Int) < 0; omega
  | x :: L, h => by
    have h' := List.pairwise_cons.1 h
    have ih := dist_cnt_aux r h'.2
    rw [List.filter_cons, cntZ_cons]
    by_cases e : ordL x.1 r = 0
    · have e2 := ordL_eq.1 e
      have h0 : cntZ r L = 0 := cntZ_zero (fun y hy => by rw [← e2]; exact gt_ne (h'.1 y hy))
      have h1 : cntZ r ((L.filter (fun x => decide (0 < x.2))).map (fun x => (x.1, (1 : Int)))) = 0 := cntZ_zero (fun y hy => by
        obtain ⟨v, hv, rfl⟩ := List.mem_map.1 hy
        rw [← e2]; exact gt_ne (h'.1 v (List.mem_filter.1 hv).1))
      rw [if_pos e, h0]
      by_cases hp : 0 < x.2
      · rw [if_pos (decide_eq_true hp), List.map_cons, cntZ_cons, if_pos e, h1]
        show (1 : Int) + 0 = 1 ↔ _; omega
      · rw [if_neg (by simp [hp]), h1]; omega
    · rw [if_neg e]
      have e3 : (0 : Int) + cntZ r L = cntZ r L := by omega
      rw [e3, ← ih]
      by_cases hp : 0 < x.2
      · rw [if_pos (decide_eq_true hp), List.map_cons, cntZ_cons, if_neg e, Int.zero_add]
      · rw [if_neg (by simp [hp])]
theorem dist_cnt {z : List Sg} (h : RgZ z) (r : List Val) : cntZ r (distP z) = 1 ↔ 0 < wrap64 (cntZ r z) := by
  rw [← norm_cnt h]; exact dist_cnt_aux r (norm_good h).inc
/-- what Valid asks -/
def validZ (z : List Sg) : Bool := z.all (fun x => x.2 != 0) && (List.range z.length).all (fun i => decide (i = 0) || decide (ordL z[i - 1]!.1 z[i]!.1 < 0))
theorem validZ_good {z : List Sg} (h : Good z) : validZ z = true := by
  unfold validZ
  rw [Bool.and_eq_true, List.all_eq_true, List.all_eq_true]
  refine ⟨fun x hx => by simpa using h.nz x hx, fun i hi => ?_⟩
  have hi' := List.mem_range.1 hi
  rw [Bool.or_eq_true, decide_eq_true_iff, decide_eq_true_iff]
  by_cases h0 : i = 0
  · exact .inl h0
  · refine .inr ?_
    rw [getElem!_pos z i hi', getElem!_pos z (i - 1) (by omega)]
    exact List.pairwise_iff_getElem.1 h.inc _ _ (by omega) hi' (by omega)
end Go.Proofs.YtgojggmjajlbpaaGreatDoor

/- PLAIN: the text that names a row tells the row; a bag collected by first occurrence. No program in sight. -/
namespace Go.Proofs.YtgojggmjajlbpaaGreatDoor
open Go.RowKit (wrap64)
/-- the texts of some values, one behind the other -/
def keyB : List Val → List UInt8
  | [] => []
  | .mk k n d s l :: vs => Lib.itoa k ++ 44 :: (Lib.itoa n ++ 44 :: (Lib.itoa d ++ 44 :: (Lib.itoa s.size ++ 58 :: (s.data.toList ++ (Lib.itoa l.length ++ 91 :: (keyB l ++ 93 :: keyB vs))))))
/-- the text of a list of values -/
def keyT (l : List Val) : List UInt8 := Lib.itoa l.length ++ 91 :: (keyB l ++ [93])
theorem keyB_cons (v : Val) (vs : List Val) : keyB (v :: vs) = Lib.itoa v.kind ++ 44 :: (Lib.itoa v.n ++ 44 :: (Lib.itoa v.d ++ 44 :: (Lib.itoa v.s.size ++ 58 :: (v.s.data.toList ++ (keyT v.l ++ keyB vs))))) := by
  cases v with
  | mk k n d s l => rw [keyB]; simp [keyT, Val.kind, Val.n, Val.d, Val.s, Val.l]
theorem keyB_snoc (v : Val) (vs : List Val) : keyB (vs ++ [v]) = keyB vs ++ keyB [v] := by
  induction vs with
  | nil => simp [keyB]
  | cons x vs ih => rw [List.cons_append, keyB_cons, keyB_cons, ih]; simp
def numC (c : UInt8) : Bool := isDig c || c == 45
theorem itoa_numC (n : Int) : ∀ c ∈ Lib.itoa n, numC c = true := by
  have hd : ∀ u, ∀ c ∈ Lib.decDigits u, numC c = true := fun u c h => by unfold numC; rw [decDigits_all u c h]; rfl
  unfold Lib.itoa
  split
  · intro c h
    rcases List.mem_cons.1 h with h | h
    · rw [h]; decide
    · exact hd _ c h
  · exact hd _
theorem split_at {p : UInt8 → Bool} {c : UInt8} (hc : p c = false) : ∀ {a b r r' : List UInt8}, (∀ x ∈ a, p x = true) → (∀ x ∈ b, p x = true) → a ++ c :: r = b ++ c :: r' → a = b ∧ r = r'
  | [], [], r, r', _, _, h => ⟨rfl, (List.cons.inj h).2⟩
  | [], y :: b, r, r', _, hb, h => by
    have := (List.cons.inj h).1
    rw [this, hb y (by simp)] at hc; cases hc
  | x :: a, [], r, r', ha, _, h => by
    have := (List.cons.inj h).1
    rw [← this, ha x (by simp)] at hc; cases hc
  | x :: a, y :: b, r, r', ha, hb, h => by
    obtain ⟨h1, h2⟩ := List.cons.inj h
    obtain ⟨h3, h4⟩ := split_at hc (fun z hz => ha z (by simp [hz])) (fun z hz => hb z (by simp [hz])) h2
    exact ⟨by rw [h1, h3], h4⟩
theorem itoa_split {c : UInt8} (hc : numC c = false) {m n : Int} {r r' : List UInt8} (h : Lib.itoa m ++ c :: r = Lib.itoa n ++ c :: r') : m = n ∧ r = r' := by
  obtain ⟨h1, h2⟩ := split_at hc (itoa_numC m) (itoa_numC n) h
  exact ⟨by rw [← numOf_itoa m, h1, numOf_itoa], h2⟩
theorem keyB_inj : ∀ (a b : List Val) (r r' : List UInt8), a.length = b.length → keyB a ++ 93 :: r = keyB b ++ 93 :: r' → a = b ∧ r = r'
  | [], [], r, r', _, h => ⟨rfl, by rw [keyB] at h; exact (List.cons.inj h).2⟩
  | [], _ :: _, _, _, hl, _ => absurd hl (by simp)
  | _ :: _, [], _, _, hl, _ => absurd hl (by simp)
  | .mk k n d s l :: vs, .mk k' n' d' s' l' :: vs', r, r', hl, h => by
    rw [keyB, keyB] at h
    simp only [List.append_assoc, List.cons_append] at h
    obtain ⟨e1, h⟩ := itoa_split (by decide) h
    obtain ⟨e2, h⟩ := itoa_split (by decide) h
    obtain ⟨e3, h⟩ := itoa_split (by decide) h
    obtain ⟨e4, h⟩ := itoa_split (by decide) h
    have e5 : s.size = s'.size := by omega
    have hs : s.data.toList.length = s'.data.toList.length := by simpa using e5
    obtain ⟨e6, h⟩ := List.append_inj h hs
    obtain ⟨e7, h⟩ := itoa_split (by decide) h
    obtain ⟨e8, h⟩ := keyB_inj l l' _ _ (by omega) h
    obtain ⟨e9, e11⟩ := keyB_inj vs vs' _ _ (by simpa using hl) h
    clear h
    subst e1 e2 e3 e8 e9 e11
    have e10 : s = s' := ByteArray.ext (Array.toList_inj.1 e6)
    subst e10
    exact ⟨rfl, rfl⟩
theorem keyT_inj {a b : List Val} (h : keyT a = keyT b) : a = b := by
  unfold keyT at h
  obtain ⟨e1, h⟩ := itoa_split (by decide) h
  exact (keyB_inj a b [] [] (by omega) h).1
/-- how much there is of values, in bytes and cells -/
def bkL : List Val → Nat
  | [] => 0
  | .mk _ _ _ s l :: vs => 6 + s.size + bkL l + bkL vs
def bkV (v : Val) : Nat := 6 + v.s.size + bkL v.l
theorem bkL_cons (v : Val) (vs : List Val) : bkL (v :: vs) = bkV v + bkL vs := by cases v; rw [bkL]; rfl
theorem bkL_mem {l : List Val} {v : Val} (h : v ∈ l) : bkV v ≤ bkL l := by
  induction l with
  | nil => cases h
  | cons x l ih =>
    rw [bkL_cons]
    rcases List.mem_cons.1 h with e | e
    · rw [e]; omega
    · have := ih e; omega
theorem bkL_take (l : List Val) (k : Nat) : bkL (l.take k) ≤ bkL l := by
  induction l generalizing k with
  | nil => simp [bkL]
  | cons x l ih =>
    cases k with
    | zero => simp [bkL]
    | succ k => rw [List.take_succ_cons, bkL_cons, bkL_cons]; have := ih k; omega
theorem bkL_len (l : List Val) : l.length ≤ bkL l := by
  induction l with
  | nil => simp
  | cons x l ih => rw [bkL_cons, List.length_cons]; unfold bkV; omega
/-- the numbers of a value are ints -/
def rgL : List Val → Prop
  | [] => True
  | .mk k n d _ l :: vs => inW k ∧ inW n ∧ inW d ∧ rgL l ∧ rgL vs
def rgV (v : Val) : Prop := inW v.kind ∧ inW v.n ∧ inW v.d ∧ rgL v.l
theorem rgL_cons {v : Val} {vs : List Val} : rgL (v :: vs) ↔ rgV v ∧ rgL vs := by
  cases v; rw [rgL]; unfold rgV
  exact ⟨fun ⟨a, b, c, d, e⟩ => ⟨⟨a, b, c, d⟩, e⟩, fun ⟨⟨a, b, c, d⟩, e⟩ => ⟨a, b, c, d, e⟩⟩
theorem rgL_mem {l : List Val} {v : Val} (h : v ∈ l) (hr : rgL l) : rgV v := by
  induction l with
  | nil => cases h
  | cons x l ih =>
    obtain ⟨h1, h2⟩ := rgL_cons.1 hr
    rcases List.mem_cons.1 h with e | e
    · rw [e]; exact h1
    · exact ih e h2
theorem decDigits_len20 {u : Nat} (h : u < 100000000000000000000) : (Lib.decDigits u).length ≤ 20 := decDigits_length 19 u (by omega)
theorem itoa_len21 {n : Int} (h : inW n) : (Lib.itoa n).length ≤ 21 := by
  unfold inW at h
  unfold Lib.itoa
  split
  · have := decDigits_len20 (u := n.natAbs) (by omega)
    simp; omega
  · have := decDigits_len20 (u := n.toNat) (by omega)
    omega
theorem keyB_len : ∀ l : List Val, rgL l → bkL l ≤ 1048576 → (keyB l).length ≤ 20 * bkL l
  | [], _, _ => by rw [keyB]; simp
  | .mk k n d s l :: vs, h, hb => by
    rw [bkL] at hb
    rw [rgL] at h
    obtain ⟨h1, h2, h3, h4, h5⟩ := h
    have i1 := keyB_len l h4 (by omega)
    have i2 := keyB_len vs h5 (by omega)
    have j1 := itoa_len21 h1
    have j2 := itoa_len21 h2
    have j3 := itoa_len21 h3
    have j4 := decDigits_length 6 s.size (by omega)
    have j5 := decDigits_length 6 l.length (by have := bkL_len l; omega)
    have e4 : Lib.itoa (s.size : Int) = Lib.decDigits s.size := by unfold Lib.itoa; rw [if_neg (by omega)]; simp
    have e5 : Lib.itoa (l.length : Int) = Lib.decDigits l.length := by unfold Lib.itoa; rw [if_neg (by omega)]; simp
    have e6 : s.data.toList.length = s.size := Array.length_toList
    rw [keyB, bkL]
    simp only [List.length_append, List.length_cons, e4, e5, e6]
    omega
theorem keyT_len {l : List Val} (h : rgL l) (hb : bkL l ≤ 1048576) : (keyT l).length ≤ 20 * bkL l + 9 := by
  have i1 := keyB_len l h hb
  have j5 := decDigits_length 6 l.length (by have := bkL_len l; omega)
  have e5 : Lib.itoa (l.length : Int) = Lib.decDigits l.length := by unfold Lib.itoa; rw [if_neg (by omega)]; simp
  unfold keyT
  simp only [List.length_append, List.length_cons, List.length_nil, e5]
  omega
/-- the place of a row among those collected -/
def findZ (r : List Val) : List Sg → Option Nat
  | [] => none
  | x :: z => if ordL x.1 r = 0 then some 0 else (findZ r z).map (· + 1)
theorem findZ_some {r : List Val} : ∀ {z : List Sg} {i : Nat}, findZ r z = some i → ∃ h : i < z.length, z[i].1 = r
  | [], i, h => by cases h
  | x :: z, i, h => by
    unfold findZ at h
    split at h
    · rename_i e
      injection h with h
      subst h
      exact ⟨by simp, ordL_eq.1 e⟩
    · cases hf : findZ r z with
      | none => rw [hf] at h; cases h
      | some j =>
        rw [hf] at h
        injection h with h
        subst h
        obtain ⟨h1, h2⟩ := findZ_some hf
        exact ⟨by simpa using h1, by simpa using h2⟩
theorem findZ_none {r : List Val} : ∀ {z : List Sg}, findZ r z = none → ∀ x ∈ z, x.1 ≠ r
  | [], _, x, h => absurd h (by simp)
  | y :: z, h, x, hx => by
    unfold findZ at h
    split at h
    · cases h
    · rename_i e
      have h2 : findZ r z = none := by
        cases hf : findZ r z with
        | none => rfl
        | some j => rw [hf] at h; cases h
      rcases List.mem_cons.1 hx with e1 | e1
      · rw [e1]; exact fun e2 => e (ordL_eq.2 e2)
      · exact findZ_none h2 x e1
theorem findZ_snoc {r : List Val} {z : List Sg} (h : findZ r z = none) (x : Sg) (hx : x.1 = r) : findZ r (z ++ [x]) = some z.length := by
  induction z with
  | nil => show (if ordL x.1 r = 0 then some 0 else _) = _; rw [if_pos (ordL_eq.2 hx)]; rfl
  | cons y z ih =>
    unfold findZ at h
    split at h
    · cases h
    · rename_i e
      have h2 : findZ r z = none := by
        cases hf : findZ r z with
        | none => rfl
        | some j => rw [hf] at h; cases h
      rw [List.cons_append]
      unfold findZ
      rw [if_neg e, ih h2]; simp
theorem findZ_snoc_ne {r : List Val} {z : List Sg} (x : Sg) (hx : x.1 ≠ r) : findZ r (z ++ [x]) = findZ r z := by
  induction z with
  | nil => show (if ordL x.1 r = 0 then some 0 else _) = _; rw [if_neg (fun e => hx (ordL_eq.1 e))]; rfl
  | cons y z ih => rw [List.cons_append]; unfold findZ; rw [ih]
/-- n more of the one at place i -/
def bumpZ (i : Nat) (n : Int) (z : List Sg) : List Sg := z.modify i (fun x => (x.1, wrap64 (x.2 + n)))
theorem bumpZ_fst (i : Nat) (n : Int) (z : List Sg) : (bumpZ i n z).map Prod.fst = z.map Prod.fst := by
  unfold bumpZ
  induction z generalizing i with
  | nil => simp
  | cons x z ih =>
    cases i with
    | zero => simp
    | succ i => simp [ih i]
theorem bumpZ_len (i : Nat) (n : Int) (z : List Sg) : (bumpZ i n z).length = z.length := by unfold bumpZ; simp
theorem findZ_map {r : List Val} : ∀ {a b : List Sg}, a.map Prod.fst = b.map Prod.fst → findZ r a = findZ r b
  | [], [], _ => rfl
  | [], _ :: _, h => by simp at h
  | _ :: _, [], h => by simp at h
  | x :: a, y :: b, h => by
    rw [List.map_cons, List.map_cons, List.cons.injEq] at h
    unfold findZ
    rw [h.1, findZ_map h.2]
theorem bumpZ_cnt (r : List Val) (n : Int) : ∀ (z : List Sg) (i : Nat) (h : i < z.length), wrap64 (cntZ r (bumpZ i n z)) = wrap64 (cntZ r z + if ordL z[i].1 r = 0 then n else 0)
  | [], i, h => absurd h (by simp)
  | x :: z, 0, _ => by
    show wrap64 (cntZ r ((x.1, wrap64 (x.2 + n)) :: z)) = _
    rw [cntZ_cons, cntZ_cons]
    show wrap64 ((if ordL x.1 r = 0 then wrap64 (x.2 + n) else 0) + cntZ r z) = wrap64 (_ + if ordL x.1 r = 0 then n else 0)
    split
    · rw [w64_l]; congr 1; omega
    · congr 1; omega
  | x :: z, i + 1, h => by
    have hi : i < z.length := by simpa using h
    have ih := bumpZ_cnt r n z i hi
    show wrap64 (cntZ r (x :: bumpZ i n z)) = _
    rw [cntZ_cons, ← w64_r, ih, w64_r, cntZ_cons]
    congr 1
    show _ = _ + (if ordL (z[i]'hi).1 r = 0 then n else 0)
    omega
/-- what Norm has collected behind the elements z -/
structure Coll (z acc : List Sg) : Prop where
  nd : (acc.map Prod.fst).Nodup
  rg : RgZ acc
  cnt : ∀ r, wrap64 (cntZ r acc) = wrap64 (cntZ r z)
  len : acc.length ≤ z.length
  sub : ∀ x ∈ acc, ∃ y ∈ z, y.1 = x.1
theorem Coll.nil : Coll [] [] := ⟨List.nodup_nil, fun x h => absurd h (by simp), fun _ => rfl, Nat.le_refl _, fun x h => absurd h (by simp)⟩
theorem bump_rg {acc : List Sg} (h : RgZ acc) (i : Nat) (n : Int) : RgZ (bumpZ i n acc) := by
  unfold bumpZ
  intro x hx
  obtain ⟨j, hj, rfl⟩ := List.getElem_of_mem hx
  rw [List.getElem_modify]
  split
  · exact w64_rng _
  · exact h _ (List.getElem_mem _)
theorem Coll.old {z acc : List Sg} (h : Coll z acc) (x : Sg) {i : Nat} (hf : findZ x.1 acc = some i) : Coll (z ++ [x]) (bumpZ i x.2 acc) := by
  obtain ⟨hi, he⟩ := findZ_some hf
  refine ⟨by rw [bumpZ_fst]; exact h.nd, bump_rg h.rg _ _, fun r => ?_, by rw [bumpZ_len, List.length_append]; have := h.len; omega, fun y hy => ?_⟩
  · rw [bumpZ_cnt r x.2 acc i hi, ← w64_l, h.cnt, w64_l, cntZ_app, he, cntZ_cons]
    congr 1; show _ = _ + (_ + 0); omega
  · have h1 : y.1 ∈ (bumpZ i x.2 acc).map Prod.fst := List.mem_map_of_mem hy
    rw [bumpZ_fst] at h1
    obtain ⟨v, hv, e⟩ := List.mem_map.1 h1
    obtain ⟨u, hu, e2⟩ := h.sub v hv
    exact ⟨u, by simp [hu], e2.trans e⟩
theorem Coll.new {z acc : List Sg} (h : Coll z acc) (x : Sg) (hx : inW x.2) (hf : findZ x.1 acc = none) : Coll (z ++ [x]) (acc ++ [x]) := by
  refine ⟨?_, rg_app h.rg (fun y hy => by rw [List.mem_singleton.1 hy]; exact hx), fun r => ?_, by rw [List.length_append, List.length_append]; have := h.len; simp; omega, fun y hy => ?_⟩
  · rw [List.map_append, List.nodup_append]
    refine ⟨h.nd, by simp, fun a ha b hb => ?_⟩
    rw [List.map_singleton, List.mem_singleton] at hb
    obtain ⟨v, hv, rfl⟩ := List.mem_map.1 ha
    rw [hb]; exact findZ_none hf v hv
  · rw [cntZ_app, cntZ_app, ← w64_l, h.cnt, w64_l]
  · rcases List.mem_append.1 hy with hy | hy
    · obtain ⟨u, hu, e⟩ := h.sub y hy
      exact ⟨u, by simp [hu], e⟩
    · exact ⟨x, by simp, by rw [List.mem_singleton.1 hy]⟩
/-- struck and sorted it is the normal form -/
theorem Coll.norm {z acc L : List Sg} (h : Coll z acc) (hz : RgZ z) (hp : L.Perm (acc.filter (fun x => x.2 != 0))) (hs : L.Pairwise (fun x y => ordL x.1 y.1 ≤ 0)) : L = normP z := by
  have hnd : (L.map Prod.fst).Nodup := (hp.map _).nodup_iff.2 (List.Pairwise.sublist (List.Sublist.map _ List.filter_sublist) h.nd)
  refine norm_is hz ⟨?_, fun x hx => ?_, fun x hx => h.rg x (List.mem_filter.1 (hp.mem_iff.1 hx)).1⟩ (fun r => ?_)
  · have h2 : L.Pairwise (fun x y => x.1 ≠ y.1) := List.pairwise_map.1 hnd
    exact (hs.and h2).imp (fun ⟨a, b⟩ => by
      rcases Int.lt_or_eq_of_le a with c | c
      · exact c
      · exact absurd (ordL_eq.1 c) b)
  · simpa using (List.mem_filter.1 (hp.mem_iff.1 hx)).2
  · have h1 : RgZ L := fun x hx => h.rg x (List.mem_filter.1 (hp.mem_iff.1 hx)).1
    rw [cntZ_perm r hp, cntZ_filter, ← h.cnt]
    refine (w64_in ?_).symm
    have hP := List.mergeSort_perm acc (fun x y => decide (ordL x.1 y.1 ≤ 0))
    rw [← cntZ_perm r hP]
    have hso : (acc.mergeSort (fun x y => decide (ordL x.1 y.1 ≤ 0))).Pairwise (fun x y => ordL x.1 y.1 ≤ 0) := by
      have := List.pairwise_mergeSort (le := fun (x y : Sg) => decide (ordL x.1 y.1 ≤ 0)) (fun a b c h1 h2 => decide_eq_true (TotC.row.trans _ _ _ (of_decide_eq_true h1) (of_decide_eq_true h2))) (fun a b => by
        rcases TotC.row.total a.1 b.1 with e | e
        · rw [decide_eq_true e]; rfl
        · rw [decide_eq_true e]; simp) acc
      exact this.imp (fun h => of_decide_eq_true h)
    have hnd2 : ((acc.mergeSort (fun x y => decide (ordL x.1 y.1 ≤ 0))).map Prod.fst).Nodup := (hP.map _).nodup_iff.2 h.nd
    refine inc_cnt_rg ((hso.and (List.pairwise_map.1 hnd2)).imp (fun ⟨a, b⟩ => ?_)) (fun x hx => h.rg x (hP.mem_iff.1 hx)) r
    rcases Int.lt_or_eq_of_le a with c | c
    · exact c
    · exact absurd (ordL_eq.1 c) b
/-- the rows, each as often as its multiplicity says; none where one is negative or there is no room -/
def roomZ : Int → List Sg → Bool
  | _, [] => true
  | room, x :: z => decide (0 ≤ x.2) && decide (x.2 ≤ room) && roomZ (room - x.2) z
def spreadZ (z : List Sg) : List (List Val) := z.flatMap (fun x => List.replicate x.2.toNat x.1)
end Go.Proofs.YtgojggmjajlbpaaGreatDoor

/- BAGS OF ROWS IN MEMORY. -/
namespace Go.Proofs.YtgojggmjajlbpaaGreatDoor
open Go.RowKit
theorem wt_bk : ∀ l : List Val, wtL l ≤ bkL l
  | [] => by rw [wtL, bkL]; exact Nat.le_refl _
  | .mk k n d s l :: vs => by rw [wtL, bkL]; have := wt_bk l; have := wt_bk vs; omega
theorem Vals.at5 {w : World} {ok : Nat → Prop} {A : Option Addr} {l : List Val} (h : Vals w ok A l) {k : Nat} (hk : k < l.length) : ∃ b o, A = some ⟨b, o, none⟩ ∧ ∃ A' c', V5 w b (o + k * 5) l[k]! A' c' ∧ l[k]!.l.length ≤ c' ∧ Vals w ok A' l[k]!.l := by
  obtain ⟨b, o, hA, hc⟩ := h.2 (by omega)
  obtain ⟨-, A', c', h5, h6, h7⟩ := VCells.iff.1 (hc k hk)
  refine ⟨b, o, hA, A', c', ?_⟩
  rw [getV hk]
  exact ⟨h5, h6, h7⟩
/-- are two rows one -/
def eqL (a b : List Val) : Bool := decide (ordL a b = 0)
theorem eqL_t {a b : List Val} : eqL a b = true ↔ a = b := by unfold eqL; rw [decide_eq_true_iff, ordL_eq]
theorem eqL_f {a b : List Val} : eqL a b = false ↔ a ≠ b := by unfold eqL; rw [decide_eq_false_iff_not, ordL_eq]
/-- a row with its multiplicity, two cells -/
def SgC (w : World) (ok : Nat → Prop) (b o : Nat) (x : Sg) : Prop := ok b ∧ (∃ A c, w.cell? ⟨b, o, none⟩ = some (.slice A x.1.length c) ∧ x.1.length ≤ c ∧ Vals w ok A x.1) ∧ w.cell? ⟨b, o + 1, none⟩ = some (.int .i64 x.2)
def Bag (w : World) (ok : Nat → Prop) (A : Option Addr) (z : List Sg) : Prop := SliceR (SgC w ok) 2 A z
theorem SgC.keep {w w' : World} {ok ok' : Nat → Prop} (hk : ∀ b o x, ok b → w.cell? ⟨b, o, none⟩ = some x → w'.cell? ⟨b, o, none⟩ = some x) (ho : ∀ b, ok b → ok' b) {b o : Nat} {x : Sg} (h : SgC w ok b o x) : SgC w' ok' b o x :=
  let ⟨h0, ⟨A, c, h1, h2, h3⟩, h4⟩ := h
  ⟨ho _ h0, ⟨A, c, hk _ _ _ h0 h1, h2, h3.keep hk ho⟩, hk _ _ _ h0 h4⟩
theorem Bag.keep {w w' : World} {ok ok' : Nat → Prop} {A : Option Addr} {z : List Sg} (h : Bag w ok A z) (hk : ∀ b o x, ok b → w.cell? ⟨b, o, none⟩ = some x → w'.cell? ⟨b, o, none⟩ = some x) (ho : ∀ b, ok b → ok' b) : Bag w' ok' A z :=
  SliceR.mono h (fun _ _ _ _ hx => hx.keep hk ho)
theorem Bag.ext {w w' : World} {ok : Nat → Prop} {A : Option Addr} {z : List Sg} (h : Bag w ok A z) (e : Ext w w') : Bag w' ok A z := h.keep (fun _ _ _ _ hc => e.cell hc) (fun _ h => h)
theorem Bag.to {w : World} {ok ok' : Nat → Prop} {A : Option Addr} {z : List Sg} (h : Bag w ok A z) (ho : ∀ b, ok b → ok' b) : Bag w ok' A z := h.keep (fun _ _ _ _ hc => hc) ho
/-- an element with its row's head -/
structure HSg where
  A : Option Addr
  c : Nat
  x : Sg
def HSg.cells (h : HSg) : List Value := [.slice h.A h.x.1.length h.c, .int .i64 h.x.2]
def KSg : KindG HSg := ⟨HSg.cells, 2, fun W ok h => h.x.1.length ≤ h.c ∧ Vals W ok h.A h.x.1, fun _ => rfl, fun h u hu => by
  simp only [HSg.cells, List.mem_cons, List.not_mem_nil, or_false] at hu
  rcases hu with rfl | rfl <;> rfl, fun _ _ _ _ _ hk hl => ⟨hl.1, hl.2.keep' hk⟩⟩
theorem T_sg : ElT Tryz.prog 22 38 KSg.size 32 := ⟨Tryz.underlying22, ⟨.agg #[.slice none 0 0, .int .i64 0], by kernel_rfl, rfl⟩, by decide⟩
abbrev OwnZ (W : World) (base : Nat) (ok0 : Nat → Prop) (v : Value) (hs : List HSg) : Prop := OwnG KSg 38 W base ok0 v hs
theorem OwnZ.bag {W : World} {base : Nat} {ok0 : Nat → Prop} {v : Value} {hs : List HSg} (h : OwnZ W base ok0 v hs) (hm : hs.length ≤ 8000000) : ∃ A c, v = .slice A hs.length c ∧ hs.length ≤ c ∧ Bag W (fun b => ok0 b ∨ base ≤ b) A (hs.map HSg.x) := by
  exact OwnG.slice (K := KSg) HSg.x h (by omega) (fun g o x hg hc hl => ⟨.inr hg, ⟨x.A, x.c, hc 0 _ rfl, hl.1, hl.2.to (fun _ hb => .inl hb)⟩, hc 1 _ rfl⟩)
/-- the heads of a bag that lies -/
theorem Bag.heads {w : World} {ok : Nat → Prop} {A : Option Addr} {z : List Sg} (h : Bag w ok A z) : ∃ hs : List HSg, hs.map HSg.x = z ∧ (∀ p ∈ hs, KSg.lies w ok p) ∧ ∀ ad, A = some ad → ∀ j u, (hs.flatMap HSg.cells)[j]? = some u → w.cell? (ad.add j) = some u := by
  suffices H : ∀ (z : List Sg) (b o : Nat), (∀ k (hk : k < z.length), SgC w ok b (o + k * 2) z[k]) → ∃ hs : List HSg, hs.map HSg.x = z ∧ (∀ p ∈ hs, KSg.lies w ok p) ∧ ∀ j u, (hs.flatMap HSg.cells)[j]? = some u → w.cell? ⟨b, o + j, none⟩ = some u by
    rcases Nat.eq_zero_or_pos z.length with h0 | h0
    · have : z = [] := List.eq_nil_of_length_eq_zero h0
      subst this
      exact ⟨[], rfl, fun p hp => absurd hp (by simp), fun _ _ j u hu => by simp at hu⟩
    · obtain ⟨b, o, rfl, hc⟩ := h.2 h0
      obtain ⟨hs, h1, h2, h3⟩ := H z b o hc
      refine ⟨hs, h1, h2, fun ad e j u hu => ?_⟩
      injection e with e
      subst e
      rw [Addr.add_mid]; exact h3 j u hu
  intro z
  induction z with
  | nil => intro b o _; exact ⟨[], rfl, fun p hp => absurd hp (by simp), fun j u hu => by simp at hu⟩
  | cons x z ih =>
    intro b o hc
    obtain ⟨hs, h1, h2, h3⟩ := ih b (o + 2) (fun k hk => by
      have := hc (k + 1) (by simpa using hk)
      rw [show o + (k + 1) * 2 = o + 2 + k * 2 by omega] at this
      exact this)
    have h0 := hc 0 (by simp)
    rw [Nat.zero_mul, Nat.add_zero] at h0
    obtain ⟨-, ⟨A, c, e0, e1, e2⟩, e3⟩ := h0
    refine ⟨⟨A, c, x⟩ :: hs, by rw [List.map_cons, h1], fun p hp => ?_, fun j u hu => ?_⟩
    · rcases List.mem_cons.1 hp with e | e
      · rw [e]; exact ⟨e1, e2⟩
      · exact h2 p e
    · rw [List.flatMap_cons] at hu
      by_cases hj : j < 2
      · rw [List.getElem?_append_left (by simpa [HSg.cells] using hj)] at hu
        have hj' : j = 0 ∨ j = 1 := by omega
        rcases hj' with rfl | rfl <;> (simp [HSg.cells] at hu; subst hu; assumption)
      · rw [List.getElem?_append_right (by simp [HSg.cells]; omega)] at hu
        have := h3 _ u hu
        rw [show o + 2 + (j - (HSg.cells ⟨A, c, x⟩).length) = o + j by simp [HSg.cells]; omega] at this
        exact this
/-- the rows of a bag that are small enough -/
def OkZ (z : List Sg) : Prop := ∀ x ∈ z, rgL x.1 ∧ szL x.1 ∧ bkL x.1 ≤ 1048576
end Go.Proofs.YtgojggmjajlbpaaGreatDoor

/- A ROW THAT A CALL OWNS, cut short: what lies behind the cut is cleared. -/
namespace Go.Proofs.YtgojggmjajlbpaaGreatDoor
open Go.RowKit
theorem zeros_one {z : Array Value} (hz : ∀ v ∈ z.toList, v.oneCell' = true) (h0 : 0 < z.size) (n : Nat) : ∀ v ∈ (Builtin.zeroCells z n).toList, v.oneCell' = true := by
  intro v hv
  unfold Builtin.zeroCells at hv
  rw [Array.toList_map, List.mem_map] at hv
  obtain ⟨i, -, rfl⟩ := hv
  have hlt : i % z.size < z.size := Nat.mod_lt _ h0
  rw [getElem!_pos z _ hlt]
  exact hz _ (by simp)
variable {α : Type} {K : KindG α} {P : Program} {e : TypeId} {W : World} {base : Nat} {ok0 : Nat → Prop} {hs : List α}
theorem OwnG.cleared {t g n c i : Nat} {z : Value} (hu : P.underlying t = some (.slice e)) (hz : ∀ w, (zeroValue e).run P w = .ok z w) (hzs : z.cells.size = K.size) (hz1 : ∀ v ∈ z.cells.toList, v.oneCell' = true) (hs0 : 0 < K.size)
    (h : OwnG K e W base ok0 (.slice (some ⟨g, 0, none⟩) n c) hs) (hn : n = hs.length) (hi : i < n) :
    ∃ W', (∀ ty c', (Builtin.clear_ #[t] ty #[.slice (some ⟨g, i * K.size, none⟩) (n - i) c']).run P W = .ok (.tuple #[]) W') ∧ OwnG K e W' base ok0 (.slice (some ⟨g, 0, none⟩) i c) (hs.take i) ∧ W.grownBy W' (some g) := by
  subst hn
  rcases h.own.2 with ⟨hv, -⟩ | ⟨g', cap', cur, hv, hb, hh, hcp, hm, hcs, htk⟩
  · simp at hv
  · simp only [Value.slice.injEq, Option.some.injEq, Addr.mk.injEq, and_true, true_and] at hv
    obtain ⟨rfl, rfl⟩ := hv
    have hB : Blk W g e cur.toList := by unfold Blk; rw [Array.toArray_toList]; exact hh
    have hzl : (Builtin.zeroCells z.cells (hs.length - i)).size = (hs.length - i) * K.size := by rw [size_zeroCells, hzs]
    have hmul : i * K.size + (hs.length - i) * K.size = hs.length * K.size := by rw [← Nat.add_mul]; congr 1; omega
    have hcap : hs.length * K.size ≤ c * K.size := Nat.mul_le_mul_right _ hcp
    have hfit : i * K.size + (Builtin.zeroCells z.cells (hs.length - i)).size ≤ cur.toList.length := by
      have h1 : cur.toList.length = c * K.size := by rw [Array.length_toList]; exact hcs
      rw [hzl, h1]; omega
    have hgr : ∀ X : Array Value, W.grownBy (W.setRow g X) (some g) := fun X => ⟨rfl, rfl, rfl, by simp [World.setRow], fun k hk hne => setRow_other W g k X (fun e2 => hne (by rw [e2]))⟩
    refine ⟨W.setRow g (laidAt cur.toList (i * K.size) (Builtin.zeroCells z.cells (hs.length - i)).toList).toArray, fun ty c' => run_clearK (P := P) W t ty e g (i * K.size) (hs.length - i) c' z cur.toList e hu hz (by omega) hB hfit (zeros_one hz1 (by omega) _), ⟨?_, fun p hp => ?_⟩, hgr _⟩
    · have hlen : (hs.take i).length = i := by rw [List.length_take]; omega
      rw [hlen]
      refine Blk.own (cs := laidAt cur.toList (i * K.size) (Builtin.zeroCells z.cells (hs.length - i)).toList) (hB.set _) hb (by omega) hm (by rw [laidAt_len (by rw [Array.length_toList]; exact hfit), Array.length_toList, hcs]) ?_
      rw [take_laid_lt (by rw [Array.length_toList] at *; omega) (Nat.le_refl _), ← flat_takeK K.enc K.size K.len, ← htk, List.take_take, Nat.min_eq_left (Nat.mul_le_mul_right _ (Nat.le_of_lt hi))]
    · exact K.keep _ _ _ _ _ (fun b o x hb2 hc => ⟨(hgr _).cell hc (fun e2 => hb2.2 (by rw [e2]; rfl)), hb2⟩) (h.lies p (List.mem_of_mem_take hp))
theorem flat_set2 (f : α → List Value) (hf : ∀ x, (f x).length = 2) (a0 a1 : Value) : ∀ (l : List α) (i : Nat) (y : α), i < l.length → f y = [a0, a1] → (l.set i y).flatMap f = ((l.flatMap f).set (i * 2) a0).set (i * 2 + 1) a1
  | [], i, y, h, _ => absurd h (by simp)
  | x :: l, 0, y, _, hy => by
    have hx := hf x
    match hfx : f x, hx with
    | [b0, b1], _ => simp [hfx, hy]
  | x :: l, i + 1, y, h, hy => by
    have ih := flat_set2 f hf a0 a1 l i y (by simpa using h) hy
    have e0 : (i + 1) * 2 = 2 + i * 2 := by omega
    have hx : (f x).length = 2 := hf x
    have S : ∀ (m : List Value) (j : Nat) (u : Value), (f x ++ m).set (2 + j) u = f x ++ m.set j u := fun m j u => by
      rw [List.set_append_right _ _ (by omega), hx, Nat.add_sub_cancel_left]
    rw [List.set_cons_succ, List.flatMap_cons, List.flatMap_cons, ih, e0, S, Nat.add_assoc, S]
theorem grown_two {a b c : World} {r : Option Nat} (p : a.grownBy b r) (q : b.grownBy c r) : a.grownBy c r := ⟨q.os.trans p.os, q.tape.trans p.tape, q.output.trans p.output, Nat.le_trans p.size q.size, fun k hk hne => (q.block k (Nat.lt_of_lt_of_le hk p.size) hne).trans (p.block k hk hne)⟩
theorem Ext.gr {a b : World} (h : Ext a b) (r : Option Nat) : a.grownBy b r := ⟨h.os, h.tape, h.output, h.size, fun k hk _ => h.block k hk⟩
/-- a whole element of two cells stored at place i -/
theorem OwnG.put2 (hK : K.size = 2) {g n c : Nat} (h : OwnG K e W base ok0 (.slice (some ⟨g, 0, none⟩) n c) hs) {i : Nat} (hi : i < hs.length) (y : α) {a0 a1 : Value} (hy : K.enc y = [a0, a1]) (hl : K.lies W (fun b => ok0 b ∧ some b ≠ some g) y) :
    OwnG K e ((W.setCell ⟨g, i * 2, none⟩ a0).setCell ⟨g, i * 2 + 1, none⟩ a1) base ok0 (.slice (some ⟨g, 0, none⟩) n c) (hs.set i y) ∧ W.grownBy ((W.setCell ⟨g, i * 2, none⟩ a0).setCell ⟨g, i * 2 + 1, none⟩ a1) (some g) := by
  obtain ⟨A, c', hv⟩ := own_form h.own
  injection hv with h1 h2 h3
  subst h2
  obtain ⟨k0, g0⟩ := World.ownsRow.stored h.own (i * 2) a0
  obtain ⟨k1, g1⟩ := World.ownsRow.stored k0 (i * 2 + 1) a1
  have G := grown_two g0 g1
  refine ⟨⟨?_, fun p hp => ?_⟩, G⟩
  · rw [List.length_set, flat_set2 K.enc (fun x => by rw [K.len, hK]) _ _ hs i y hi hy]; exact k1
  · have hlies : K.lies W (fun b => ok0 b ∧ some b ≠ (Value.slice (some ⟨g, 0, none⟩) hs.length c).ownBlock) p := by
      rcases List.mem_or_eq_of_mem_set hp with hp | hp
      · exact h.lies p hp
      · rw [hp]; exact hl
    exact K.keep _ _ _ _ _ (fun b o x hb hc => ⟨G.cell hc (fun e2 => hb.2 (by rw [e2]; rfl)), hb⟩) hlies
end Go.Proofs.YtgojggmjajlbpaaGreatDoor

/- THE FIRST PLACE OF A KIND in a list; strings compared; a function value entered. -/
namespace Go.Proofs.YtgojggmjajlbpaaGreatDoor
open Go.RowKit
theorem run_enter {P : Program} {f : FuncId} {fn : Func} {c : Code} (hf : P.funcs[f]? = some fn) (hname : (fn.name == "runtime.NumGoroutine") = false) (hb : fn.body = some c) (args : Array Value) (w : World) : (callFunc f args).run P w = .ok (.enter f args) w := by
  have h1 : fn.name ≠ "runtime.NumGoroutine" := by simpa using hname
  simp [callFunc, hf, h1, hb]
/-- the first place whose element is told, or -1 -/
def idxF {α : Type} (p : α → Bool) (l : List α) : Int := match l.findIdx? p with | some i => (i : Int) | none => -1
theorem idxF_none {α : Type} {p : α → Bool} {l : List α} (h : ∀ i (hi : i < l.length), p l[i] = false) : idxF p l = -1 := by
  have : l.findIdx? p = none := List.findIdx?_eq_none_iff.2 (fun x hx => by obtain ⟨i, hi, rfl⟩ := List.getElem_of_mem hx; exact h i hi)
  unfold idxF; rw [this]
theorem idxF_at {α : Type} {p : α → Bool} {l : List α} (i : Nat) (hi : i < l.length) (h1 : ∀ j (hj : j < l.length), j < i → p l[j] = false) (h2 : p l[i] = true) : idxF p l = (i : Int) := by
  have : l.findIdx? p = some i := List.findIdx?_eq_some_iff_getElem.2 ⟨hi, h2, fun j hj => by rw [h1 j (by omega) hj]; exact Bool.false_ne_true⟩
  unfold idxF; rw [this]
end Go.Proofs.YtgojggmjajlbpaaGreatDoor
