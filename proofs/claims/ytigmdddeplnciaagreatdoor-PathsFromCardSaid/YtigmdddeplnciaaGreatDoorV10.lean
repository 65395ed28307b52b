/- PARTS OF THE WALKS, joined: PtB, PtC, PtD, PtLaid, Merge, Adj. -/
import Derived.Test.YtigmdddeplnciaaGreatDoorV09
import Derived.Test.YtigmdddeplnciaaGreatDoorV04
import Derived.Test.YtigmdddeplnciaaGreatDoorV05
import Derived.Test.YtigmdddeplnciaaGreatDoorV06
import Derived.Lib.LaidTab
import Derived.Stop.LaidErr
import Derived.Sort.LotA
import Derived.Test.YtigmdddeplnciaaGreatDoorV00
import Derived.Test.YtigmdddeplnciaaGreatDoorV01
/- PLAIN: the order of paths: what the reference lists rises. No program in sight. -/
namespace Go.Proofs.YtigmdddeplnciaaGreatDoor
open Go.RowKit
/-- the hops of a value -/
def hopsV (v : Val) : Int := if v.kind = 7 ∧ validV v = true then ((v.l.length / 2 : Nat) : Int) else -1
def ordP (a b : Val) : Int := thenC (Lib.compareInt (hopsV a) (hopsV b)) (ordV a b)
theorem TotC.path : TotC ordP :=
  (TotC.lex TotC.int TotC.val).pull (fun v => (hopsV v, v)) (fun _ _ h => (Prod.mk.inj h).2)
theorem ordL_app : ∀ {P Q X Y : List Val}, P.length = Q.length → ordL (P ++ X) (Q ++ Y) = thenC (ordL P Q) (ordL X Y)
  | [], [], X, Y, _ => by rw [List.nil_append, List.nil_append, ordL, thenC_zero]
  | [], _ :: _, _, _, h => absurd h (by simp)
  | _ :: _, [], _, _, h => absurd h (by simp)
  | p :: P, q :: Q, X, Y, h => by
    rw [List.cons_append, List.cons_append, ordL, ordL, ordL_app (by simpa using h), thenC_assoc]
theorem thenC_m1 (x : Int) : thenC (-1) x < 0 := by rw [thenC_ne (by decide)]; decide
theorem leaf_node {i : Int} : leafB (nodeV i) = true ↔ 1 ≤ i ∧ i ≤ 1000000 := by
  unfold leafB nodeV
  simp [Val.kind, Val.n, Val.d, Val.s, Val.l]
  exact ⟨fun h => ⟨of_decide_eq_true h.1, of_decide_eq_true h.2⟩, fun h => ⟨decide_eq_true h.1, decide_eq_true h.2⟩⟩
theorem leaf_edge {i : Int} : leafB (edgeV i) = true ↔ 1 ≤ i ∧ i ≤ 1000000 := by
  unfold leafB edgeV
  simp [Val.kind, Val.n, Val.d, Val.s, Val.l]
  exact ⟨fun h => ⟨of_decide_eq_true h.1, of_decide_eq_true h.2⟩, fun h => ⟨decide_eq_true h.1, decide_eq_true h.2⟩⟩
def idOk (i : Int) : Prop := 1 ≤ i ∧ i ≤ 1000000
/-- all numbers of a path are ids -/
def RngP (s : Int) (h : List Hop) : Prop := idOk s ∧ ∀ x ∈ h, idOk x.1 ∧ idOk x.2
theorem RngP.node {s : Int} {h : List Hop} (hr : RngP s h) {i : Nat} (hi : i ≤ h.length) : idOk (nodeP s h i) := by
  unfold nodeP
  rw [getElem!_pos _ i (by simp; omega)]
  cases i with
  | zero => exact hr.1
  | succ i => rw [List.getElem_cons_succ, List.getElem_map]; exact (hr.2 _ (List.getElem_mem _)).2
theorem path_els {s : Int} {h : List Hop} (hr : RngP s h) (h12 : h.length ≤ 12) : pathB (elsP s h) = true := by
  unfold pathB
  rw [Bool.and_eq_true, Bool.and_eq_true, elsP_len]
  refine ⟨⟨decide_eq_true (by omega), decide_eq_true (by omega)⟩, List.all_eq_true.2 (fun i hi => ?_)⟩
  have hi' : i < 2 * h.length + 1 := List.mem_range.1 hi
  rcases Nat.mod_two_eq_zero_or_one i with h0 | h0
  · obtain ⟨j, rfl⟩ : ∃ j, i = 2 * j := ⟨i / 2, by omega⟩
    rw [elsP_node (by omega)]
    have e : stepK (2 * j) = 5 := by unfold stepK; rw [if_pos h0]
    rw [e, leaf_node.2 (hr.node (by omega))]; rfl
  · obtain ⟨j, rfl⟩ : ∃ j, i = 2 * j + 1 := ⟨i / 2, by omega⟩
    rw [elsP_edge (by omega)]
    have e : stepK (2 * j + 1) = 6 := by unfold stepK; rw [if_neg (by omega)]
    have hj : j < h.length := by omega
    rw [e, leaf_edge.2 (by rw [getElem!_pos h j hj]; exact (hr.2 _ (List.getElem_mem hj)).1)]; rfl
theorem valid_path {l : List Val} (h : pathB l = true) : validV (pathV l) = true := by
  unfold validV
  rw [validN_path rfl]
  show (bareL (pathV l) && pathB l) = true
  rw [h]; rfl
theorem valid_els {s : Int} {h : List Hop} (hr : RngP s h) (h12 : h.length ≤ 12) : validV (pathV (elsP s h)) = true := valid_path (path_els hr h12)
theorem hops_els {s : Int} {h : List Hop} (hr : RngP s h) (h12 : h.length ≤ 12) : hopsV (pathV (elsP s h)) = (h.length : Int) := by
  unfold hopsV
  rw [if_pos ⟨rfl, valid_els hr h12⟩]
  show (((elsP s h).length / 2 : Nat) : Int) = _
  rw [elsP_len]; omega
theorem ordV_path {a b : List Val} (ha : pathB a = true) (hb : pathB b = true) : ordV (pathV a) (pathV b) = ordL a b := by
  rw [ordV_eq, if_pos (valid_path ha), if_pos (valid_path hb)]
  unfold ordU
  show thenC (Lib.compareInt (cls 7) (cls 7)) (if cls 7 = 2 then _ else thenC (cmpT ByteArray.empty ByteArray.empty) (thenC (Lib.compareInt 0 0) (ordL a b))) = _
  rw [TotC.int.refl, TotC.str.refl, TotC.int.refl, if_neg (by decide)]; rfl
theorem ordL_one_edge {e f : Int} (he : idOk e) (hf : idOk f) (h : e < f) (X Y : List Val) : ordL (edgeV e :: X) (edgeV f :: Y) < 0 := by
  have h1 : ordV (edgeV e) (edgeV f) = -1 := by
    have v1 : validV (edgeV e) = true := validN_of_leaf (leaf_edge.2 he)
    have v2 : validV (edgeV f) = true := validN_of_leaf (leaf_edge.2 hf)
    rw [ordV_eq, if_pos v1, if_pos v2]
    unfold ordU
    show thenC (Lib.compareInt (cls 6) (cls 6)) (if cls 6 = 2 then _ else thenC (cmpT ByteArray.empty ByteArray.empty) (thenC (Lib.compareInt e f) _)) = _
    rw [TotC.int.refl, TotC.str.refl, if_neg (by decide), thenC_zero, thenC_zero]
    have : Lib.compareInt e f = -1 := by unfold Lib.compareInt; rw [if_pos h]
    rw [this]; rfl
  rw [ordL, h1]; exact thenC_m1 _
section
variable {g : GraphG} {types : List ByteArray} {dir mode s : Int}
theorem mem_kids {h h' : List Hop} : h' ∈ kidsP g types dir mode s h ↔ ∃ a ∈ hopsE g types dir (lastP s h), h' = h ++ [a] ∧ allowH s h' mode = true := by
  unfold kidsP
  rw [List.mem_filter, List.mem_map]
  constructor
  · rintro ⟨⟨a, ha, rfl⟩, h2⟩; exact ⟨a, ha, rfl, h2⟩
  · rintro ⟨a, ha, rfl, h2⟩; exact ⟨⟨a, ha, rfl⟩, h2⟩
/-- what is told of a listed path -/
structure OnP (g : GraphG) (types : List ByteArray) (dir mode s : Int) (h : List Hop) : Prop where
  rng : RngP s h
  step : ∀ i, i < h.length → h[i]! ∈ hopsE g types dir (nodeP s h i)
  allow : allowH s h mode = true
theorem nodeP_pre (s : Int) (h t : List Hop) {i : Nat} (hi : i ≤ h.length) : nodeP s (h ++ t) i = nodeP s h i := by
  unfold nodeP
  rw [getElem!_pos _ i (by simp; omega), getElem!_pos _ i (by simp; omega)]
  rw [List.getElem_of_eq (show s :: List.map Prod.snd (h ++ t) = (s :: List.map Prod.snd h) ++ t.map Prod.snd by simp), List.getElem_append_left]
theorem lev_on (hg : GoodG g) (hs : idOk s) (hm : 1 ≤ mode ∧ mode ≤ 3) : ∀ {k : Nat} {h : List Hop}, h ∈ levP g types dir mode s k → h.length = k ∧ OnP g types dir mode s h
  | 0, h, hh => by
    rw [levP, List.mem_singleton] at hh
    subst hh
    exact ⟨rfl, ⟨hs, fun _ hx => absurd hx (by simp)⟩, fun i hi => absurd hi (by simp), allow_nil s hm⟩
  | k + 1, h, hh => by
    rw [levP] at hh
    obtain ⟨p, hp, hh⟩ := List.mem_flatMap.1 hh
    obtain ⟨hl, ho⟩ := lev_on hg hs hm hp
    obtain ⟨a, ha, rfl, hal⟩ := mem_kids.1 hh
    have hr := hops_rng hg ha
    refine ⟨by rw [List.length_append, hl]; rfl, ⟨⟨hs, fun x hx => ?_⟩, fun i hi => ?_, hal⟩⟩
    · rcases List.mem_append.1 hx with h1 | h1
      · exact ho.rng.2 x h1
      · rw [List.mem_singleton.1 h1]; exact hr
    · rw [List.length_append] at hi
      rw [getElem!_pos _ i (by rw [List.length_append]; exact hi)]
      by_cases h1 : i < p.length
      · rw [nodeP_pre _ _ _ (by omega), List.getElem_append_left h1, ← getElem!_pos p i h1]; exact ho.step i h1
      · have h2 : i = p.length := by simp at hi; omega
        subst h2
        rw [nodeP_pre _ _ _ (Nat.le_refl _), ← lastP_node, List.getElem_append_right (Nat.le_refl _)]
        simpa using ha
theorem on_lev (hs : idOk s) : ∀ {h : List Hop}, OnP g types dir mode s h → h ∈ levP g types dir mode s h.length := by
  intro h
  induction hk : h.length generalizing h with
  | zero =>
    intro _
    rw [List.eq_nil_of_length_eq_zero hk, levP]; simp
  | succ k ih =>
    intro ho
    have hne : h ≠ [] := fun e => by rw [e] at hk; cases hk
    obtain ⟨p, a, rfl⟩ : ∃ p a, h = p ++ [a] := ⟨h.dropLast, h.getLast hne, (List.dropLast_concat_getLast hne).symm⟩
    have hpl : p.length = k := by simpa using hk
    have hp : OnP g types dir mode s p := ⟨⟨hs, fun x hx => ho.rng.2 x (by simp [hx])⟩, fun i hi => by
      have := ho.step i (by rw [List.length_append]; omega)
      rw [nodeP_pre _ _ _ (by omega), getElem!_pos _ i (by rw [List.length_append]; omega), List.getElem_append_left hi] at this
      rwa [getElem!_pos p i hi], allow_prefix ho.allow⟩
    have ha : a ∈ hopsE g types dir (lastP s p) := by
      have := ho.step p.length (by simp)
      rw [nodeP_pre _ _ _ (Nat.le_refl _), getElem!_pos _ _ (by simp), List.getElem_append_right (Nat.le_refl _)] at this
      rw [lastP_node]; simpa using this
    rw [levP]
    refine List.mem_flatMap.2 ⟨p, ?_, mem_kids.2 ⟨a, ha, rfl, ho.allow⟩⟩
    exact ih hpl hp
theorem lev_rise (hg : GoodG g) (hs : idOk s) (hm : 1 ≤ mode ∧ mode ≤ 3) : ∀ k : Nat, (levP g types dir mode s k).Pairwise (fun a b => ordL (elsP s a) (elsP s b) < 0)
  | 0 => by rw [levP]; simp
  | k + 1 => by
    rw [levP, List.pairwise_flatMap]
    refine ⟨fun p hp => ?_, (lev_rise hg hs hm k).imp_of_mem (fun {p q} hp hq h a ha b hb => ?_)⟩
    · unfold kidsP
      refine List.Pairwise.filter _ (List.pairwise_map.2 ((hops_rise hg types dir (lastP s p)).imp_of_mem (fun {a b} ha hb h => ?_)))
      rw [elsP_snoc, elsP_snoc, ordL_app rfl, TotC.row.refl, thenC_zero]
      exact ordL_one_edge (hops_rng hg ha).1 (hops_rng hg hb).1 h _ _
    · obtain ⟨x, -, rfl, -⟩ := mem_kids.1 ha
      obtain ⟨y, -, rfl, -⟩ := mem_kids.1 hb
      rw [elsP_snoc, elsP_snoc, ordL_app (by rw [elsP_len, elsP_len, (lev_on hg hs hm hp).1, (lev_on hg hs hm hq).1]), thenC_ne (by omega)]
      exact h
theorem mem_all {mn : Int} {mx : Nat} {h : List Hop} (hg : GoodG g) (hs : idOk s) (hm : 1 ≤ mode ∧ mode ≤ 3) : h ∈ allP g types dir mode s mn mx ↔ OnP g types dir mode s h ∧ mn ≤ (h.length : Int) ∧ h.length ≤ mx := by
  unfold allP
  rw [List.mem_flatMap]
  constructor
  · rintro ⟨k, hk, hh⟩
    have hk' := List.mem_range.1 hk
    split at hh
    · obtain ⟨h1, h2⟩ := lev_on hg hs hm hh
      exact ⟨h2, by omega, by omega⟩
    · cases hh
  · rintro ⟨h1, h2, h3⟩
    exact ⟨h.length, List.mem_range.2 (by omega), by rw [if_pos h2]; exact on_lev hs h1⟩
theorem all_rise (hg : GoodG g) (hs : idOk s) (hm : 1 ≤ mode ∧ mode ≤ 3) (mn : Int) (mx : Nat) (h6 : mx ≤ 6) : ((allP g types dir mode s mn mx).map (fun h => pathV (elsP s h))).Pairwise (fun a b => ordP a b < 0) := by
  have hR : ∀ k ∈ List.range (mx + 1), ∀ h ∈ (if mn ≤ (k : Int) then levP g types dir mode s k else []), h.length = k ∧ RngP s h := fun k _ h hh => by
    split at hh
    · obtain ⟨h1, h2⟩ := lev_on hg hs hm hh; exact ⟨h1, h2.rng⟩
    · cases hh
  rw [List.pairwise_map]
  unfold allP
  rw [List.pairwise_flatMap]
  refine ⟨fun k hk => ?_, List.pairwise_iff_getElem.2 (fun i j hi hj hij a ha b hb => ?_)⟩
  · have hk' := List.mem_range.1 hk
    by_cases hmn : mn ≤ (k : Int)
    · have h0 := hR k hk
      rw [if_pos hmn] at h0 ⊢
      refine (lev_rise hg hs hm k).imp_of_mem (fun {a b} ha hb h => ?_)
      obtain ⟨a1, a2⟩ := h0 a ha
      obtain ⟨b1, b2⟩ := h0 b hb
      unfold ordP
      rw [hops_els a2 (by omega), hops_els b2 (by omega), a1, b1, TotC.int.refl, thenC_zero, ordV_path (path_els a2 (by omega)) (path_els b2 (by omega))]
      exact h
    · rw [if_neg hmn]; exact .nil
  · have hi' : i < mx + 1 := by simpa using hi
    have hj' : j < mx + 1 := by simpa using hj
    rw [List.getElem_range] at ha hb
    obtain ⟨a1, a2⟩ := hR i (List.mem_range.2 hi') a ha
    obtain ⟨b1, b2⟩ := hR j (List.mem_range.2 hj') b hb
    unfold ordP
    rw [hops_els a2 (by omega), hops_els b2 (by omega), a1, b1]
    have : Lib.compareInt (i : Int) (j : Int) = -1 := by unfold Lib.compareInt; rw [if_pos (by omega)]
    rw [this]; exact thenC_m1 _
/-- a rising list of what lies deep first is what the reference lists -/
theorem dfs_all (hg : GoodG g) (hs : idOk s) (hm : 1 ≤ mode ∧ mode ≤ 3) {st : Int → List Hop} (hst : ∀ n, (st n).Perm (hopsE g types dir n)) (mn : Int) (mx : Nat) (h6 : mx ≤ 6) {r : List Val} (hp : r.Perm ((dfsP mode s st mn mx []).map (fun h => pathV (elsP s h)))) (hr : r.Pairwise (fun a b => ordP a b ≤ 0)) : r = (allP g types dir mode s mn mx).map (fun h => pathV (elsP s h)) := by
  refine rise_unique TotC.path (hp.trans ((?_ : (dfsP mode s st mn mx []).Perm (allP g types dir mode s mn mx)).map _)) hr ((all_rise hg hs hm mn mx h6).imp (fun h => by omega))
  refine (dfs_perm g types dir mode s hst mn mx [] (allow_nil s hm)).trans ?_
  unfold allP
  refine fm_cong (fun k _ => ?_)
  rw [← levP_levH]
  show List.Perm (if mn ≤ ((0 + k : Nat) : Int) then _ else _) _
  rw [Nat.zero_add]
end
end Go.Proofs.YtigmdddeplnciaaGreatDoor

/- PLAIN: which values are paths of a graph; what From and Between return; how modes contain one another. No program in sight. -/
namespace Go.Proofs.YtigmdddeplnciaaGreatDoor
open Go.RowKit
/-- does some edge e lead from a to b -/
def stepB (g : GraphG) (types : List ByteArray) (dir a e b : Int) : Bool := g.edges.any (fun x => decide (x.id = e) && decide (toE types dir a x = some b))
theorem stepB_iff {g : GraphG} {types : List ByteArray} {dir a e b : Int} : stepB g types dir a e b = true ↔ (e, b) ∈ hopsE g types dir a := by
  unfold stepB
  rw [List.any_eq_true, mem_hops]
  constructor
  · rintro ⟨x, hx, h⟩
    rw [Bool.and_eq_true, decide_eq_true_iff, decide_eq_true_iff] at h
    exact ⟨x, hx, h.1, h.2⟩
  · rintro ⟨x, hx, h1, h2⟩
    exact ⟨x, hx, by rw [Bool.and_eq_true, decide_eq_true_iff, decide_eq_true_iff]; exact ⟨h1, h2⟩⟩
/-- are the first k hops of a list of values steps -/
def stepsB (g : GraphG) (types : List ByteArray) (dir : Int) (l : List Val) (k : Nat) : Bool := (List.range k).all (fun j => stepB g types dir l[2 * j]!.n l[2 * j + 1]!.n l[2 * j + 2]!.n)
theorem stepsB_iff {g : GraphG} {types : List ByteArray} {dir : Int} {l : List Val} {k : Nat} : stepsB g types dir l k = true ↔ ∀ j, j < k → stepB g types dir l[2 * j]!.n l[2 * j + 1]!.n l[2 * j + 2]!.n = true := by
  unfold stepsB
  rw [List.all_eq_true]
  exact ⟨fun h j hj => h j (List.mem_range.2 hj), fun h j hj => h j (List.mem_range.1 hj)⟩
theorem stepsB_no {g : GraphG} {types : List ByteArray} {dir : Int} {l : List Val} {k j : Nat} (hj : j < k) (h : stepB g types dir l[2 * j]!.n l[2 * j + 1]!.n l[2 * j + 2]!.n = false) : stepsB g types dir l k = false := by
  cases hb : stepsB g types dir l k
  · rfl
  · rw [stepsB_iff.1 hb j hj] at h; cases h
/-- is a value a path of a graph, allowed in a mode -/
def isP (g : GraphG) (types : List ByteArray) (dir mode : Int) (v : Val) : Bool :=
  if 0 ≤ hopsV v then (if chkG g = 0 then (if allowL v.l mode = true then (if hasN g.nodes v.l[0]!.n = true then stepsB g types dir v.l (v.l.length / 2) else false) else false) else false) else false
def fromOk (g : GraphG) (s mode mn mx : Int) : Prop := chkG g = 0 ∧ hasN g.nodes s = true ∧ 1 ≤ mode ∧ mode ≤ 3 ∧ 0 ≤ mn ∧ mn ≤ mx ∧ mx ≤ 6
instance (g : GraphG) (s mode mn mx : Int) : Decidable (fromOk g s mode mn mx) := by unfold fromOk; infer_instance
def fromP (g : GraphG) (s : Int) (types : List ByteArray) (dir mode mn mx : Int) : List Val := if fromOk g s mode mn mx then (allP g types dir mode s mn mx.toNat).map (fun h => pathV (elsP s h)) else []
def endsP (tn : Int) (v : Val) : Bool := decide (v.l[v.l.length - 1]!.n = tn)
def betwP (g : GraphG) (s tn : Int) (types : List ByteArray) (dir mode mn mx : Int) : List Val := (fromP g s types dir mode mn mx).filter (endsP tn)
section
variable {g : GraphG} {types : List ByteArray} {dir mode s mn mx : Int}
theorem id_node (hg : GoodG g) {s : Int} (h : hasN g.nodes s = true) : idOk s := by
  obtain ⟨n, hn, rfl⟩ := gf_has.1 h
  exact hg.nid n hn
/-- each of them, with what is told of it -/
theorem mem_from {v : Val} (h : v ∈ fromP g s types dir mode mn mx) : fromOk g s mode mn mx ∧ ∃ h, v = pathV (elsP s h) ∧ OnP g types dir mode s h ∧ mn ≤ (h.length : Int) ∧ (h.length : Int) ≤ mx := by
  unfold fromP at h
  split at h
  · rename_i hok
    obtain ⟨p, hp, rfl⟩ := List.mem_map.1 h
    have hg := good_of hok.1
    obtain ⟨h1, h2, h3⟩ := (mem_all hg (id_node hg hok.2.1) ⟨hok.2.2.1, hok.2.2.2.1⟩).1 hp
    have := hok.2.2.2.2
    exact ⟨hok, p, rfl, h1, h2, by omega⟩
  · cases h
theorem from_rise : (fromP g s types dir mode mn mx).Pairwise (fun a b => ordP a b < 0) := by
  unfold fromP
  split
  · rename_i hok
    have hg := good_of hok.1
    have := hok.2.2.2.2
    exact all_rise hg (id_node hg hok.2.1) ⟨hok.2.2.1, hok.2.2.2.1⟩ mn mx.toNat (by omega)
  · exact .nil
theorem is_on (hc : chkG g = 0) (hn : hasN g.nodes s = true) {h : List Hop} (ho : OnP g types dir mode s h) (h12 : h.length ≤ 12) {mode' : Int} (ha : allowH s h mode' = true) : isP g types dir mode' (pathV (elsP s h)) = true := by
  unfold isP
  rw [hops_els ho.rng h12, if_pos (by omega), if_pos hc]
  show (if allowL (elsP s h) mode' = true then (if hasN g.nodes (elsP s h)[0]!.n = true then stepsB g types dir (elsP s h) ((elsP s h).length / 2) else false) else false) = true
  rw [allow_els, if_pos ha]
  have h0 : (elsP s h)[0]! = nodeV s := rfl
  rw [h0, if_pos (by exact hn), stepsB_iff]
  intro j hj
  have hj' : j < h.length := by rw [elsP_len] at hj; omega
  rw [show 2 * j + 2 = 2 * (j + 1) by omega, elsP_node (by omega), elsP_node (by omega), elsP_edge hj', stepB_iff]
  have h1 := ho.step j hj'
  have h2 : nodeP s h (j + 1) = h[j]!.2 := by
    unfold nodeP
    rw [getElem!_pos _ _ (by simp; omega), List.getElem_cons_succ, List.getElem_map, getElem!_pos h j hj']
  show ((edgeV h[j]!.1).n, (nodeV (nodeP s h (j + 1))).n) ∈ hopsE g types dir (nodeV (nodeP s h j)).n
  rw [h2]; exact h1
theorem allow_walk (s : Int) (h : List Hop) : allowH s h 1 = true := by unfold allowH; rw [if_pos rfl]
/-- in the directions out and in a path without a node twice has no edge twice -/
theorem simple_trail (hg : GoodG g) {h : List Hop} (ho : OnP g types dir 3 s h) (hd : dir ≠ 3) : allowH s h 2 = true := by
  have h3 := ho.allow
  unfold allowH noDup at *
  rw [if_neg (by decide), if_neg (by decide), if_pos rfl, decide_eq_true_iff, cut_iff] at h3
  rw [if_neg (by decide), if_pos rfl, decide_eq_true_iff, nodup_bang]
  intro i j hij hj e
  have hj' : j < h.length := by simpa using hj
  rw [getElem!_pos _ i (by simp; omega), getElem!_pos _ j hj, List.getElem_map, List.getElem_map, ← getElem!_pos h i (by omega), ← getElem!_pos h j hj'] at e
  obtain ⟨x, hx, x1, x2⟩ := mem_hops.1 (ho.step i (by omega))
  obtain ⟨y, hy, y1, y2⟩ := mem_hops.1 (ho.step j hj')
  have hxy : x = y := hg.einj hx hy (by omega)
  subst hxy
  have hlen : (s :: h.map Prod.snd).length = h.length + 1 := by simp
  unfold toE at x2 y2
  split at x2
  · rename_i ht
    rw [if_pos ht] at y2
    by_cases h1 : dir = 1
    · have d2 : ¬ (dir = 2 ∨ dir = 3) := by omega
      split at x2
      · rename_i hx1
        split at y2
        · rename_i hy1
          exact h3 i j hij (by omega) (.inr (by omega)) (hx1.2.symm.trans hy1.2)
        · rw [if_neg (fun hh => d2 hh.1)] at y2; cases y2
      · rw [if_neg (fun hh => d2 hh.1)] at x2; cases x2
    · have d1 : ¬ (dir = 1 ∨ dir = 3) := by omega
      rw [if_neg (fun hh => d1 hh.1)] at x2 y2
      split at x2
      · rename_i hx1
        split at y2
        · rename_i hy1
          exact h3 i j hij (by omega) (.inr (by omega)) (hx1.2.symm.trans hy1.2)
        · cases y2
      · cases x2
  · cases x2
theorem on_short {h : List Hop} (ho : OnP g types dir mode s h) (h0 : h ≠ []) : OnP g types dir mode s h.dropLast ∧ elsP s h.dropLast = (elsP s h).take ((elsP s h).length - 2) := by
  obtain ⟨p, a, rfl⟩ : ∃ p a, h = p ++ [a] := ⟨h.dropLast, h.getLast h0, (List.dropLast_concat_getLast h0).symm⟩
  rw [List.dropLast_concat]
  refine ⟨⟨⟨ho.rng.1, fun x hx => ho.rng.2 x (by simp [hx])⟩, fun i hi => ?_, allow_prefix ho.allow⟩, ?_⟩
  · have := ho.step i (by rw [List.length_append]; omega)
    rw [nodeP_pre _ _ _ (by omega), getElem!_pos _ i (by rw [List.length_append]; omega), List.getElem_append_left hi] at this
    rwa [getElem!_pos p i hi]
  · rw [elsP_snoc, List.length_append]
    show elsP s p = (elsP s p ++ [edgeV a.1, nodeV a.2]).take ((elsP s p).length + 2 - 2)
    rw [Nat.add_sub_cancel, List.take_left]
end
end Go.Proofs.YtigmdddeplnciaaGreatDoor

/- THE WALKS over the hops of a path and the order of paths. -/
namespace Go.Proofs.YtigmdddeplnciaaGreatDoor
open Go.RowKit
/-- a value as it is handed on -/
abbrev agV (v : Val) (A : Option Addr) (c : Nat) : Value := .agg #[.int .i64 v.kind, .int .i64 v.n, .int .i64 v.d, .string v.s, .slice A v.l.length c]
theorem hops_other {k n d : Int} {s : ByteArray} {l : List Val} (h : k ≠ 7) : hopsV (.mk k n d s l) = -1 := by unfold hopsV; rw [if_neg (fun e => h e.1)]
theorem hops_not {n d : Int} {s : ByteArray} {l : List Val} (h : validV (.mk 7 n d s l) = false) : hopsV (.mk 7 n d s l) = -1 := by unfold hopsV; rw [if_neg (fun e => by rw [h] at e; exact Bool.noConfusion e.2)]
theorem hops_yes {n d : Int} {s : ByteArray} {l : List Val} (h : validV (.mk 7 n d s l) = true) : hopsV (.mk 7 n d s l) = ((l.length / 2 : Nat) : Int) := by unfold hopsV; rw [if_pos ⟨rfl, h⟩]; rfl
set_option maxRecDepth 100000 in
theorem p_Hops (v : Val) (ok : Nat → Prop) (A : Option Addr) (c : Nat) (w : World) (hv : Vals w ok A v.l) :
    Calls Tryz.prog 17 #[agV v A c] w fun e w' => e = .returned (.int .i64 (hopsV v)) ∧ Ext w w' := by
  cases v with
  | mk k n d s l =>
    obtain ⟨g, w1, hg, hw1, ⟨c0, c1, c2, c3, c4⟩, hx, -⟩ := box_val w (.mk k n d s l) A c 37
    have HC := Lib.hid (fun W (e : Ext w1 W) => v_Valid (.mk k n d s l) ok A c W ((hv.ext hx).ext e))
    have hm : l.length ≤ 140737488355328 := hv.len
    have HW := Lib.hid hw1
    have HG := Lib.hid hg
    clear hv hw1 hg
    simp only [agV, Val.kind, Val.n, Val.d, Val.s, Val.l] at *
    by_cases h7 : k = 7
    · subst h7
      have HN := Lib.hid (hops_not (n := n) (d := d) (s := s) (l := l))
      have HY := Lib.hid (hops_yes (n := n) (d := d) (s := s) (l := l))
      generalize hopsV (.mk 7 n d s l) = R at *
      generalize validV (.mk 7 n d s l) = q at *
      go_enter Tryz.func17, Tryz.ntmps17
      go_upto_region 1 with (fail)
      rw [← HW.out, ← HG.out]
      clear HW HG
      cases q
      · have HR := Lib.hid (HN.out rfl)
        go_wp2_with (go_at_call 41; ((with_reducible refine (HC.out _ (Ext.refl _)).mono ?_); rintro e w2 ⟨rfl, hx2⟩))
        go_ret
        exact ⟨ret_i64 HR.out.symm, hx.trans hx2⟩
      · have HR := Lib.hid (HY.out rfl)
        go_wp2_with (go_at_call 41; ((with_reducible refine (HC.out _ (Ext.refl _)).mono ?_); rintro e w2 ⟨rfl, hx2⟩; replace c4 := hx2.cell c4))
        go_ret
        exact ⟨ret_i64 (by rw [HR.out]; omega), hx.trans hx2⟩
    · have HR := Lib.hid (hops_other (n := n) (d := d) (s := s) (l := l) h7)
      generalize hopsV (.mk k n d s l) = R at *
      have h7' : (k != 7) = true := by simpa using h7
      clear HC
      go_enter Tryz.func17, Tryz.ntmps17
      go_upto_region 1 with (fail)
      rw [← HW.out, ← HG.out]
      clear HW HG
      go_wp2_with fail
      go_ret
      exact ⟨ret_i64 HR.out.symm, hx⟩
theorem orL_path (x y : Int) : orL [x, y] = thenC x y := by
  show thenC x (thenC y 0) = _
  unfold thenC; split <;> (try split) <;> omega
def V5s (V : World) (q : Nat) (k n d : Int) (s : ByteArray) (A : Option Addr) (m c : Nat) : Prop := V.cell? ⟨q, 0, none⟩ = some (.int .i64 k) ∧ V.cell? ⟨q, 1, none⟩ = some (.int .i64 n) ∧ V.cell? ⟨q, 2, none⟩ = some (.int .i64 d) ∧ V.cell? ⟨q, 3, none⟩ = some (.string s) ∧ V.cell? ⟨q, 4, none⟩ = some (.slice A m c)
set_option maxRecDepth 100000 in
set_option maxHeartbeats 800000 in
theorem p_Order (a b : Val) (ok ok' : Nat → Prop) (A B : Option Addr) (c d : Nat) (w : World) (hz : ZeroAt w) (ha : Vals w ok A a.l) (hb : Vals w ok' B b.l) :
    Calls Tryz.prog 19 #[agV a A c, agV b B d] w fun e w' => e = .returned (.int .i64 (ordP a b)) ∧ Ext w w' := by
  obtain ⟨q, w2, hq, hw2, ⟨a0, a1, a2, a3, a4, b0, b1, b2, b3, b4⟩, hx⟩ : ∃ (q : Nat) (w2 : World), q = w.heap.size ∧ w2 = (w.alloc (.cells #[.int .i64 a.kind, .int .i64 a.n, .int .i64 a.d, .string a.s, .slice A a.l.length c] 37)).alloc (.cells #[.int .i64 b.kind, .int .i64 b.n, .int .i64 b.d, .string b.s, .slice B b.l.length d] 37) ∧ (w2.cell? ⟨q, 0, none⟩ = some (.int .i64 a.kind) ∧ w2.cell? ⟨q, 1, none⟩ = some (.int .i64 a.n) ∧ w2.cell? ⟨q, 2, none⟩ = some (.int .i64 a.d) ∧ w2.cell? ⟨q, 3, none⟩ = some (.string a.s) ∧ w2.cell? ⟨q, 4, none⟩ = some (.slice A a.l.length c) ∧ w2.cell? ⟨q + 1, 0, none⟩ = some (.int .i64 b.kind) ∧ w2.cell? ⟨q + 1, 1, none⟩ = some (.int .i64 b.n) ∧ w2.cell? ⟨q + 1, 2, none⟩ = some (.int .i64 b.d) ∧ w2.cell? ⟨q + 1, 3, none⟩ = some (.string b.s) ∧ w2.cell? ⟨q + 1, 4, none⟩ = some (.slice B b.l.length d)) ∧ Ext w w2 :=
    ⟨_, _, rfl, rfl, ⟨by go_simp, by go_simp, by go_simp, by go_simp, by go_simp, by go_simp, by go_simp, by go_simp, by go_simp, by go_simp⟩, (by solve_by_elim [X0, X1, X2, X3])⟩
  have HW := Lib.hid hw2
  have HG := Lib.hid hq
  have HA := Lib.hid (fun W (e : Ext w2 W) => p_Hops a ok A c W (ha.ext (hx.trans e)))
  have HB := Lib.hid (fun W (e : Ext w2 W) => p_Hops b ok' B d W (hb.ext (hx.trans e)))
  have HO := Lib.hid (fun W (e : Ext w2 W) => v_Order a b ok ok' A B c d W (hz.ext (hx.trans e)) (ha.ext (hx.trans e)) (hb.ext (hx.trans e)))
  have HT := Lib.hid ((orL_path (Lib.compareInt (hopsV a) (hopsV b)) (ordV a b)).trans (show _ = ordP a b from rfl))
  clear hw2 hq hz ha hb
  simp only [agV] at *
  generalize ordP a b = R at *
  generalize hopsV a = x at *
  generalize hopsV b = y at *
  generalize ordV a b = z at *
  generalize a.kind = ak at *
  generalize a.n = an at *
  generalize a.d = ad at *
  generalize a.s = sa at *
  generalize a.l.length = al at *
  generalize b.kind = bk at *
  generalize b.n = bn at *
  generalize b.d = bd at *
  generalize b.s = bs at *
  generalize b.l.length = bl at *
  have MK := Lib.hid (fun V (e : Ext w2 V) => (⟨⟨e.cell a0, e.cell a1, e.cell a2, e.cell a3, e.cell a4⟩, e.cell b0, e.cell b1, e.cell b2, e.cell b3, e.cell b4⟩ : V5s V q ak an ad sa A al c ∧ V5s V (q + 1) bk bn bd bs B bl d))
  unfold V5s at MK
  go_enter Tryz.func19, Tryz.ntmps19
  go_upto_region 1 with (fail)
  rw [← HW.out, ← HG.out]
  clear HW HG
  refine wp_region_held_drew (S := (fun V => (V.cell? ⟨q, 0, none⟩ = some (.int .i64 ak) ∧ V.cell? ⟨q, 1, none⟩ = some (.int .i64 an) ∧ V.cell? ⟨q, 2, none⟩ = some (.int .i64 ad) ∧ V.cell? ⟨q, 3, none⟩ = some (.string sa) ∧ V.cell? ⟨q, 4, none⟩ = some (.slice A al c)) ∧ V.cell? ⟨q + 1, 0, none⟩ = some (.int .i64 bk) ∧ V.cell? ⟨q + 1, 1, none⟩ = some (.int .i64 bn) ∧ V.cell? ⟨q + 1, 2, none⟩ = some (.int .i64 bd) ∧ V.cell? ⟨q + 1, 3, none⟩ = some (.string bs) ∧ V.cell? ⟨q + 1, 4, none⟩ = some (.slice B bl d))) (by kernel_rfl) ?hs1 (fun hHeld => ?go1)
  case hs1 => (exact MK.out _ (by solve_by_elim [X0, X1, X2, X3]))
  refine TK 0 (v := ?v2) hHeld ?hy2 ?_
  case hy2 => (intro w hSw; (try dsimp only at hSw); go_simp <;> first | with_reducible rfl | rw [if_neg (by omega)] | rw [if_pos (by omega)])
  (try simp only [PU])
  refine TK 2 (v := ?v3) hHeld ?hy3 ?_
  case hy3 => (intro w hSw; (try dsimp only at hSw); go_simp <;> first | with_reducible rfl | rw [if_neg (by omega)] | rw [if_pos (by omega)])
  (try simp only [PU])
  refine TK 5 (v := ?v4) hHeld ?hy4 ?_
  case hy4 => (intro w hSw; (try dsimp only at hSw); go_simp <;> first | with_reducible rfl | rw [if_neg (by omega)] | rw [if_pos (by omega)])
  (try simp only [PU])
  refine TK 6 (v := ?v5) hHeld ?hy5 ?_
  case hy5 => (intro w hSw; (try dsimp only at hSw); go_simp <;> first | with_reducible rfl | rw [if_neg (by omega)] | rw [if_pos (by omega)])
  (try simp only [PU])
  refine wpAnyH_ready (rs := [1]) (by kernel_rfl) (by simp) ?_
  refine AllReadyH.cons (o := ⟨_, _, _, _, _, _⟩) rfl (fun K hK => ?step6x0) ?more6x0
  case more6x0 => exact AllReadyH.nil
  go_simp
  (refine (HA.out _ (by solve_by_elim [X0, X1, X2, X3])).mono ?_; rintro e w3 ⟨rfl, hb3⟩; replace hb3 : Ext w2 w3 := Ext.trans (by solve_by_elim [X0, X1, X2, X3]) hb3)
  refine hK.out _ _ ?hS6x0 (fun H6 => ?_)
  case hS6x0 => first | (exact MK.out _ (by solve_by_elim [X0, X1, X2, X3])) | ((try dsimp only); (exact MK.out _ (by solve_by_elim [X0, X1, X2, X3])))
  clear hK K
  clear hHeld
  (try simp only [PU])
  refine wpAnyH_ready (rs := [3]) (by kernel_rfl) (by simp) ?_
  refine AllReadyH.cons (o := ⟨_, _, _, _, _, _⟩) rfl (fun K hK => ?step7x0) ?more7x0
  case more7x0 => exact AllReadyH.nil
  go_simp
  (refine (HB.out _ (by solve_by_elim [X0, X1, X2, X3])).mono ?_; rintro e w4 ⟨rfl, hb4⟩; replace hb4 : Ext w2 w4 := Ext.trans (by solve_by_elim [X0, X1, X2, X3]) hb4)
  refine hK.out _ _ ?hS7x0 (fun H7 => ?_)
  case hS7x0 => first | (exact MK.out _ (by solve_by_elim [X0, X1, X2, X3])) | ((try dsimp only); (exact MK.out _ (by solve_by_elim [X0, X1, X2, X3])))
  clear hK K
  clear H6
  (try simp only [PU])
  refine wpAnyH_ready (rs := [4]) (by kernel_rfl) (by simp) ?_
  refine AllReadyH.cons (o := ⟨_, _, _, _, _, _⟩) rfl (fun K hK => ?step8x0) ?more8x0
  case more8x0 => exact AllReadyH.nil
  go_simp
  (refine (c_cmp_int _ _ _).mono ?_; rintro e w5 ⟨rfl, rfl⟩)
  refine hK.out _ _ ?hS8x0 (fun H8 => ?_)
  case hS8x0 => first | (exact MK.out _ (by solve_by_elim [X0, X1, X2, X3])) | ((try dsimp only); (exact MK.out _ (by solve_by_elim [X0, X1, X2, X3])))
  clear hK K
  clear H7
  (try simp only [PU])
  refine wpAnyH_ready (rs := [7]) (by kernel_rfl) (by simp) ?_
  refine AllReadyH.cons (o := ⟨_, _, _, _, _, _⟩) rfl (fun K hK => ?step9x0) ?more9x0
  case more9x0 => exact AllReadyH.nil
  go_simp
  (refine (HO.out _ (by solve_by_elim [X0, X1, X2, X3])).mono ?_; rintro e w6 ⟨rfl, hb6⟩; replace hb6 : Ext w2 w6 := Ext.trans (by solve_by_elim [X0, X1, X2, X3]) hb6)
  refine hK.out _ _ ?hS9x0 (fun H9 => ?_)
  case hS9x0 => first | (exact MK.out _ (by solve_by_elim [X0, X1, X2, X3])) | ((try dsimp only); (exact MK.out _ (by solve_by_elim [X0, X1, X2, X3])))
  clear hK K
  clear H8
  (try simp only [PU])
  refine wpAnyH_ready (rs := [8]) (by kernel_rfl) (by simp) ?_
  refine AllReadyH.cons (o := ⟨_, _, _, _, _, _⟩) rfl (fun K hK => ?step10x0) ?more10x0
  case more10x0 => exact AllReadyH.nil
  go_simp
  refine hK.out _ _ ?hS10x0 (fun H10 => ?_)
  case hS10x0 => first | (exact MK.out _ (by solve_by_elim [X0, X1, X2, X3])) | ((try dsimp only); (exact MK.out _ (by solve_by_elim [X0, X1, X2, X3])))
  clear hK K
  clear H9
  (try simp only [PU])
  refine wpAnyH_ready (rs := [9]) (by kernel_rfl) (by simp) ?_
  refine AllReadyH.cons (o := ⟨_, _, _, _, _, _⟩) rfl (fun K hK => ?step11x0) ?more11x0
  case more11x0 => exact AllReadyH.nil
  go_simp
  (refine Calls.mono (c_or_int _ [Lib.compareInt x y, z] _ (by simp) ?hcs) ?_; (case hcs => (intro j hj; have hj6 : j = 0 ∨ j = 1 := (by simp at hj; omega); rcases hj6 with rfl | rfl <;> (go_simp; done))); rintro e w7 ⟨rfl, rfl⟩)
  refine hK.out _ _ ?hS11x0 (fun H11 => ?_)
  case hS11x0 => first | (exact MK.out _ (by solve_by_elim [X0, X1, X2, X3])) | ((try dsimp only); (exact MK.out _ (by solve_by_elim [X0, X1, X2, X3])))
  clear hK K
  clear H10
  (try simp only [PU])
  refine TK 10 (v := ?v12) H11 ?hy12 ?_
  case hy12 => (intro w _; go_simp <;> first | with_reducible rfl | rw [if_neg (by omega)] | rw [if_pos (by omega)])
  (try simp only [PU])
  refine wpAnyH_done (by kernel_rfl) ?_ _
  clear H11
  go_wp2_with fail
  go_ret
  exact ⟨by first | rfl | (rw [← HT.out]; rfl) | rw [HT.out], hx.trans (by solve_by_elim [X0, X1, X2, X3])⟩
set_option maxRecDepth 100000 in
theorem r24_valid (v : Val) (ok : Nat → Prop) (A : Option Addr) (c : Nat) (w : World) (hv : Vals w ok A v.l) (hs : szV v) :
    Calls Tryz.prog 39 #[agV v A c] w fun e w' => e = .returned (.bool (decide (v.kind = 7) && validV v)) ∧ Ext w w' := by
  obtain ⟨g, w1, hg, hw1, ⟨c0, c1, c2, c3, c4⟩, hx, -⟩ := box_val w v A c 37
  have HC := Lib.hid (fun W (e : Ext w1 W) => r4_Valid v ok A c W ((hv.ext hx).ext e) hs)
  have HW := Lib.hid hw1
  have HG := Lib.hid hg
  clear hv hw1 hg hs
  simp only [agV] at *
  generalize validV v = q at *
  generalize v.kind = k at *
  by_cases h7 : k = 7
  · subst h7
    go_enter Tryz.func39, Tryz.ntmps39
    go_upto_region 1 with (fail)
    rw [← HW.out, ← HG.out]
    clear HW HG
    go_wp2_with (go_at_call 47; ((with_reducible refine (HC.out _ (Ext.refl _)).mono ?_); rintro e w2 ⟨rfl, hx2⟩))
    go_ret
    exact ⟨by simp, hx.trans hx2⟩
  · have HR := Lib.hid (show (decide (k = 7) && q) = false by rw [decide_eq_false h7]; rfl)
    have h7' : (k == 7) = false := by simpa using h7
    generalize (decide (k = 7) && q) = R at *
    clear HC h7
    go_enter Tryz.func39, Tryz.ntmps39
    go_upto_region 1 with (fail)
    rw [← HW.out, ← HG.out]
    clear HW HG
    go_wp2_with fail
    go_ret
    exact ⟨by rw [HR.out]; rfl, hx⟩
theorem hops_v0 {v : Val} (h : (decide (v.kind = 7) && validV v) = false) : hopsV v = -1 := by
  unfold hopsV
  rw [if_neg]
  rintro ⟨h1, h2⟩
  rw [decide_eq_true h1, h2] at h; cases h
theorem hops_v1 {v : Val} (h : (decide (v.kind = 7) && validV v) = true) : hopsV v = ((v.l.length / 2 : Nat) : Int) := by
  rw [Bool.and_eq_true, decide_eq_true_iff] at h
  unfold hopsV; rw [if_pos h]
set_option maxRecDepth 100000 in
theorem r24_Hops (v : Val) (ok : Nat → Prop) (A : Option Addr) (c : Nat) (w : World) (hv : Vals w ok A v.l) (hs : szV v) :
    Calls Tryz.prog 18 #[agV v A c] w fun e w' => e = .returned (.int .i64 (hopsV v)) ∧ Ext w w' := by
  obtain ⟨g, w1, hg, hw1, ⟨c0, c1, c2, c3, c4⟩, hx, -⟩ := box_val w v A c 37
  have HC := Lib.hid (fun W (e : Ext w1 W) => r24_valid v ok A c W ((hv.ext hx).ext e) hs)
  have HW := Lib.hid hw1
  have HG := Lib.hid hg
  have HN := Lib.hid (hops_v0 (v := v))
  have HY := Lib.hid (hops_v1 (v := v))
  have hm : v.l.length ≤ 140737488355328 := hv.len
  clear hv hw1 hg hs
  simp only [agV] at *
  generalize hopsV v = R at *
  generalize (decide (v.kind = 7) && validV v) = q at *
  go_enter Tryz.func18, Tryz.ntmps18
  go_upto_region 1 with (fail)
  rw [← HW.out, ← HG.out]
  clear HW HG
  cases q
  · have HR := Lib.hid (HN.out rfl)
    go_wp2_with (go_at_call 39; ((with_reducible refine (HC.out _ (Ext.refl _)).mono ?_); rintro e w2 ⟨rfl, hx2⟩))
    go_ret
    exact ⟨ret_i64 HR.out.symm, hx.trans hx2⟩
  · have HR := Lib.hid (HY.out rfl)
    go_wp2_with (go_at_call 39; ((with_reducible refine (HC.out _ (Ext.refl _)).mono ?_); rintro e w2 ⟨rfl, hx2⟩; replace c4 := hx2.cell c4))
    go_ret
    exact ⟨ret_i64 (by rw [HR.out]; omega), hx.trans hx2⟩
end Go.Proofs.YtigmdddeplnciaaGreatDoor

/- WHAT THE ROWS OF CHAPTER 24 LIST; graphs that come in, with their sizes; a question; values. -/
namespace Go.Proofs.YtigmdddeplnciaaGreatDoor
open Go.ChangeShapes Go.WideShapes Go.ChangeAt Go.RowKit
open Go.ChangeMaps (open_string shut_string)
theorem gZero : Tryz.prog.globalNamed "graphdb/frac.zero" = some 0 := by kernel_rfl
theorem gZeroType : (Tryz.prog.globals[0]?).map (·.type) = some 78 := by kernel_rfl
theorem cellsFrac : Tryz.prog.cellsOf 78 = 2 := by kernel_rfl
abbrev laidList : List (String × DataW Unit) := Rows.pathsFromRow.laid
theorem zero_of {W : World} (h : laidMetH Tryz.prog laidList W) : ZeroAt W := by
  have h0 : laidMet Tryz.prog laidList W := h
  obtain ⟨ps, ⟨g', t', cs, fuel, p, q, hg', ht', hvar, hd, -, -⟩, -⟩ := h0
  obtain rfl := Option.some.inj (gZero.symm.trans hg')
  obtain rfl := Option.some.inj (gZeroType.symm.trans ht')
  obtain ⟨y0, y1, n, hx, hl, h0, h1⟩ := trod_struct2 Tryz.underlying78 hd
  rw [cellsFrac] at hl
  obtain ⟨c0, c1, rfl⟩ := Joins.array2 (show cs.size = 2 by simpa using hl)
  obtain ⟨a, e0, x0, -⟩ := DataW.trod_int (k := .i64) Tryz.underlying3 h0
  obtain ⟨b, e1, x1, -⟩ := DataW.trod_int (k := .i64) Tryz.underlying3 h1
  rw [x0, x1] at hx
  simp only [Rows.laid_graphdb_frac_zero, Prod.mk.injEq, DataW.agg.injEq, List.cons.injEq, DataW.lit.injEq, Lit.int.injEq] at hx
  have k0 : c0 = .int .i64 a := by simpa [show Tryz.prog.cellsOf 3 = 1 from by kernel_rfl] using e0
  have k1 : c1 = .int .i64 b := by simpa [show Tryz.prog.cellsOf 3 = 1 from by kernel_rfl] using e1
  have ha : (0 : Int) = a := hx.1.1.2
  have hb : (1 : Int) = b := hx.1.2.1.2
  subst ha hb k0 k1
  have z0 := World.var?_cell gZero hvar 0
  have z1 := World.var?_cell gZero hvar 1
  refine ⟨z0, z1, ?_⟩
  unfold World.var? at hvar
  rw [gZero] at hvar
  rcases Nat.lt_or_ge 0 W.heap.size with k | k
  · exact k
  · simp only [Option.bind_some, Array.getElem?_eq_none k] at hvar; cases hvar
/-- The laid heap meets the condition. -/
theorem door_met (os : Os) (args : Array Value) : laidMetH Tryz.prog laidList ((World.laidAll Tryz.prog os laidList).forCall (fun _ _ => 0) ⟨#[], args, []⟩).memory := by
  rw [MakeChecks.laidMetH_plain _ _ _ (by kernel_rfl)]
  exact laidMet_laidAll _ (by kernel_rfl) (by kernel_rfl)
theorem bytes64 : Tryz.prog.bytesOf 37 = 64 := by kernel_rfl
theorem bytes80 : Tryz.prog.bytesOf 108 = 80 := by kernel_rfl
theorem bytes16 : Tryz.prog.bytesOf 9 = 16 := by kernel_rfl
theorem cellsAsk : Tryz.prog.cellsOf 28 = 11 := by kernel_rfl
theorem eight_L {α : Type} {l : List α} (h : l.length = 8) : ∃ a b c d e f g h, l = [a, b, c, d, e, f, g, h] := by
  match l, h with
  | [a, b, c, d, e, f, g, h], _ => exact ⟨a, b, c, d, e, f, g, h, rfl⟩
theorem eleven_L {α : Type} {l : List α} (h : l.length = 11) : ∃ a b c d e f g h i j k, l = [a, b, c, d, e, f, g, h, i, j, k] := by
  match l, h with
  | [a, b, c, d, e, f, g, h, i, j, k], _ => exact ⟨a, b, c, d, e, f, g, h, i, j, k, rfl⟩
section
variable {H : Type} {enc : TypeId × Value → H} {w : World} {base : Nat} {spare : Nat → Bool} {held : Bool}
/-- a slice that reads: each element by what its cells are -/
theorem slice_genL {α : Type} {t e size fuel : Nat} {cs : List Value} {x : DataW H × List MemPlace} (ht : Tryz.prog.underlying t = some (.slice e)) (he : Tryz.prog.cellsOf e = size) (hbe : 0 < Tryz.prog.bytesOf e) (hs : 0 < size) (R : Nat → Nat → α → Prop) (Q : α → Prop)
    (hel : ∀ n cs' (y : DataW H × List MemPlace), fuel = n + 1 → (∀ k ∈ y.1.weights Tryz.prog e, k ≤ reachBytes) → DataW.trod enc Tryz.prog w base spare held n e cs' = some y → ∃ v : α, Q v ∧ ∀ b o, (∀ j u, cs'[j]? = some u → w.cell? ⟨b, o + j, none⟩ = some u) → R b o v)
    (hwt : ∀ k ∈ x.1.weights Tryz.prog t, k ≤ reachBytes) (h : DataW.trod enc Tryz.prog w base spare held fuel t cs = some x) : ∃ (l : List α) (A : Option Addr) (c : Nat), cs = [.slice A l.length c] ∧ l.length ≤ c ∧ SliceR R size A l ∧ (∀ v ∈ l, Q v) ∧ l.length * Tryz.prog.bytesOf e ≤ 140737488355328 := by
  rcases DataW.trod_slice ht h with ⟨rfl, -⟩ | ⟨a, len, cap, elems, rest, n, hfu, rfl, hxx, -, hl, hm, hlen, hel2, -, -⟩
  · exact ⟨[], none, 0, rfl, Nat.le_refl _, SliceR.nil _ _ _, fun v hv => absurd hv (by simp), by simp⟩
  · rw [hxx] at hwt
    simp only [DataW.weights, ht, List.mem_cons, List.mem_append, List.length_map] at hwt
    have hlen2 : len ≤ 140737488355328 := by
      have h1 := hwt _ (.inl rfl)
      have h2 : (elems.length + rest.length) * 1 ≤ (elems.length + rest.length) * Tryz.prog.bytesOf e := Nat.mul_le_mul_left _ hbe
      have h3 := reachBytes_lt
      omega
    have H : ∀ i, i < len → ∃ v : α, Q v ∧ R a.block (a.off + i * size) v ∧ a = ⟨a.block, a.off, none⟩ := fun i hi => by
      have h1 := hel2 i hi
      rw [he, List.getElem?_eq_getElem (by omega)] at h1
      obtain ⟨cs', hc, ht'⟩ := Option.bind_eq_some_iff.1 h1
      obtain ⟨v, hq, hr⟩ := hel n cs' _ hfu (fun k hk => hwt k (.inr (.inl (weightsAll_mem (List.mem_map_of_mem (List.getElem_mem _)) k hk)))) ht'
      obtain ⟨-, hlen', hat⟩ := World.cells?_some hc
      have hspot : a = ⟨a.block, a.off, none⟩ := by
        have h1' := hel2 0 (by omega)
        rw [he, List.getElem?_eq_getElem (by omega)] at h1'
        obtain ⟨cs0, hc0, -⟩ := Option.bind_eq_some_iff.1 h1'
        obtain ⟨-, hl0, hat0⟩ := World.cells?_some hc0
        have h2 := hat0 0 hs
        rw [Nat.zero_mul] at h2
        obtain ⟨u, hu⟩ : ∃ u, cs0[0]? = some u := ⟨cs0[0]'(by omega), List.getElem?_eq_getElem (by omega)⟩
        rw [hu] at h2
        exact spot_of_cell (v := u) (by simpa [Addr.add] using h2)
      refine ⟨v, hq, hr _ _ (fun j u hu => ?_), hspot⟩
      have hj : j < size := by have := (List.getElem?_eq_some_iff.1 hu).1; omega
      have h2 := hat j hj
      rw [hspot, add_none, hu] at h2
      exact h2
    obtain ⟨l, hll, hp⟩ := list_of (fun i v => Q v ∧ R a.block (a.off + i * size) v ∧ a = ⟨a.block, a.off, none⟩) len H
    refine ⟨l, some a, cap, by rw [hll], by omega, ⟨by omega, fun hpos => ⟨a.block, a.off, congrArg some (hp 0 hpos).2.2, fun k hk => (hp k hk).2.1⟩⟩, fun v hv => ?_, ?_⟩
    · obtain ⟨i, hi, rfl⟩ := List.getElem_of_mem hv
      exact (hp i hi).1
    · have h1 := hwt _ (.inl rfl)
      have h2 : l.length * Tryz.prog.bytesOf e ≤ (elems.length + rest.length) * Tryz.prog.bytesOf e := Nat.mul_le_mul_right _ (by omega)
      have h3 := reachBytes_lt
      omega
set_option maxRecDepth 100000 in
/-- values that read, and lists of values -/
theorem open_bothP : ∀ fuel : Nat,
    (∀ (cs : List Value) (x : DataW H × List MemPlace), (∀ k ∈ x.1.weights Tryz.prog 37, k ≤ reachBytes) → DataW.trod enc Tryz.prog w base spare held fuel 37 cs = some x → ∃ v : Val, (szV v ∧ capV v) ∧ ∀ b o, (∀ j u, cs[j]? = some u → w.cell? ⟨b, o + j, none⟩ = some u) → VCells w (fun _ => True) b o v) ∧
    (∀ (t : TypeId) (cs : List Value) (x : DataW H × List MemPlace), Tryz.prog.underlying t = some (.slice 37) → (∀ k ∈ x.1.weights Tryz.prog t, k ≤ reachBytes) → DataW.trod enc Tryz.prog w base spare held fuel t cs = some x → ∃ (l : List Val) (A : Option Addr) (c : Nat), cs = [.slice A l.length c] ∧ l.length ≤ c ∧ Vals w (fun _ => True) A l ∧ szL l ∧ capL l ∧ l.length * 64 ≤ 140737488355328)
  | 0 => ⟨fun cs x _ h => by simp [DataW.trod] at h, fun t cs x _ _ h => by simp [DataW.trod] at h⟩
  | n + 1 => by
    obtain ⟨ih1, ih2⟩ := open_bothP n
    refine ⟨fun cs x hwt h => ?_, fun t cs x ht hwt h => ?_⟩
    · obtain ⟨xs, m, hm, rfl, hl, hlen, hg⟩ := DataW.trod_struct Tryz.underlying37 h
      obtain rfl : m = n := by omega
      rw [cellsVal] at hl
      obtain ⟨c0, c1, c2, c3, c4, rfl⟩ := five hl
      obtain ⟨y0, y1, y2, y3, y4, rfl⟩ := five (show xs.length = 5 from hlen)
      have g0 : DataW.trod enc Tryz.prog w base spare held m 3 (([c0, c1, c2, c3, c4].drop 0).take (Tryz.prog.cellsOf 3)) = some y0 := hg 0 _ rfl
      rw [cellsInt] at g0
      have g1 : DataW.trod enc Tryz.prog w base spare held m 3 (([c0, c1, c2, c3, c4].drop 1).take (Tryz.prog.cellsOf 3)) = some y1 := hg 1 _ rfl
      rw [cellsInt] at g1
      have g2 : DataW.trod enc Tryz.prog w base spare held m 3 (([c0, c1, c2, c3, c4].drop 2).take (Tryz.prog.cellsOf 3)) = some y2 := hg 2 _ rfl
      rw [cellsInt] at g2
      have g3 : DataW.trod enc Tryz.prog w base spare held m 9 (([c0, c1, c2, c3, c4].drop 3).take (Tryz.prog.cellsOf 9)) = some y3 := hg 3 _ rfl
      rw [cellsStr] at g3
      have g4 : DataW.trod enc Tryz.prog w base spare held m 32 (([c0, c1, c2, c3, c4].drop 4).take (Tryz.prog.cellsOf 32)) = some y4 := hg 4 _ rfl
      rw [cellsVals] at g4
      have hwe : ∀ k ∈ DataW.weightsEach Tryz.prog [3, 3, 3, 9, 32] [y0.1, y1.1, y2.1, y3.1, y4.1], k ≤ reachBytes := fun k hk => hwt k (by
        simp only [DataW.weights, Tryz.underlying37]
        exact hk)
      obtain ⟨k0, e0, -, -⟩ := DataW.trod_int (k := .i64) Tryz.underlying3 g0
      obtain ⟨k1, e1, -, -⟩ := DataW.trod_int (k := .i64) Tryz.underlying3 g1
      obtain ⟨k2, e2, -, -⟩ := DataW.trod_int (k := .i64) Tryz.underlying3 g2
      obtain ⟨s, e3, x3, -⟩ := DataW.trod_string Tryz.underlying9 g3
      have hsz := str_small x3 (fun k hk => hwe k (DataW.weights_mem_each (j := 3) rfl rfl k hk))
      obtain ⟨l, A, c, e4, hlc, hv, hszl, hcl, hc64⟩ := ih2 _ _ _ Tryz.underlying32 (fun k hk => hwe k (DataW.weights_mem_each (j := 4) rfl rfl k hk)) g4
      cases e0; cases e1; cases e2; cases e3; cases e4
      refine ⟨.mk k0 k1 k2 s l, ⟨szV_iff.2 ⟨hsz, hszl⟩, capV_iff.2 ⟨hc64, hcl⟩⟩, fun b o hc => VCells.iff.2 ⟨trivial, A, c, ⟨hc 0 _ rfl, hc 1 _ rfl, hc 2 _ rfl, hc 3 _ rfl, hc 4 _ rfl⟩, hlc, hv⟩⟩
    · obtain ⟨l, A, c, e, hlc, hv, hq, hb⟩ := slice_genL (α := Val) ht cellsVal bytesVal (by decide) (VCells w (fun _ => True)) (fun v => szV v ∧ capV v) (fun m cs' y hm hk hy => by
        obtain rfl : m = n := by omega
        exact ih1 cs' y hk hy) hwt h
      rw [bytes64] at hb
      exact ⟨l, A, c, e, hlc, hv, szL_ofV (fun v hv => (hq v hv).1), capL_of (fun v hv => (hq v hv).2), hb⟩
/-- a slice of strings that reads -/
theorem open_strsP {t : TypeId} {fuel : Nat} {cs : List Value} {x : DataW H × List MemPlace} (ht : Tryz.prog.underlying t = some (.slice 9)) (hwt : ∀ k ∈ x.1.weights Tryz.prog t, k ≤ reachBytes) (h : DataW.trod enc Tryz.prog w base spare held fuel t cs = some x) :
    ∃ (l : List ByteArray) (A : Option Addr) (c : Nat), cs = [.slice A l.length c] ∧ l.length ≤ c ∧ Strs w (fun _ => True) A l ∧ (∀ s ∈ l, s.size ≤ 140737488355328) ∧ l.length * Tryz.prog.bytesOf 9 ≤ 140737488355328 :=
  slice_genL (α := ByteArray) ht cellsStr bytesStr (by decide) (StrC w (fun _ => True)) (fun s => s.size ≤ 140737488355328) (fun _ cs' y _ hk hy => by
    obtain ⟨s, e, x3, -⟩ := DataW.trod_string Tryz.underlying9 hy
    have hsz := str_small x3 hk
    subst e
    exact ⟨s, hsz, fun b o hc => ⟨trivial, hc 0 _ rfl⟩⟩) hwt h
set_option maxRecDepth 100000 in
theorem open_propP {fuel : Nat} {cs : List Value} {x : DataW H × List MemPlace} (hwt : ∀ k ∈ x.1.weights Tryz.prog 108, k ≤ reachBytes) (h : DataW.trod enc Tryz.prog w base spare held fuel 108 cs = some x) : ∃ v : PropG, (szV v.v ∧ capV v.v) ∧ ∀ b o, (∀ j u, cs[j]? = some u → w.cell? ⟨b, o + j, none⟩ = some u) → PropC w (fun _ => True) b o v := by
  obtain ⟨xs, m, hm, hxx, hl, hlen, hg⟩ := DataW.trod_struct Tryz.underlying108 h
  rw [cellsProp] at hl
  obtain ⟨c0, c1, c2, c3, c4, c5, rfl⟩ := six_L hl
  obtain ⟨y0, y1, rfl⟩ := twoL (show xs.length = 2 from hlen)
  have g0 : DataW.trod enc Tryz.prog w base spare held m 9 (([c0, c1, c2, c3, c4, c5].drop 0).take (Tryz.prog.cellsOf 9)) = some y0 := hg 0 _ rfl
  rw [cellsStr] at g0
  have g1 : DataW.trod enc Tryz.prog w base spare held m 37 (([c0, c1, c2, c3, c4, c5].drop 1).take (Tryz.prog.cellsOf 37)) = some y1 := hg 1 _ rfl
  rw [cellsVal] at g1
  have hwe : ∀ k ∈ DataW.weightsEach Tryz.prog [9, 37] [y0.1, y1.1], k ≤ reachBytes := fun k hk => hwt k (by
    rw [show x.1 = .agg [y0.1, y1.1] from congrArg Prod.fst hxx]
    simp only [DataW.weights, Tryz.underlying108]
    exact hk)
  obtain ⟨s0, e0, x0, -⟩ := DataW.trod_string Tryz.underlying9 g0
  have z0 := str_small x0 (fun k hk => hwe k (DataW.weights_mem_each (j := 0) rfl rfl k hk))
  obtain ⟨v1, z1, d1⟩ := (open_bothP m).1 _ _ (fun k hk => hwe k (DataW.weights_mem_each (j := 1) rfl rfl k hk)) g1
  cases e0
  refine ⟨⟨s0, v1⟩, z1, fun b o hc => ⟨hc 0 _ rfl, d1 b (o + 1) (fun j u hu => ?_)⟩⟩
  have h6 := hc (j + 1) u (by simpa using hu)
  rwa [show o + (j + 1) = o + 1 + j by omega] at h6
theorem open_propsP {fuel : Nat} {cs : List Value} {x : DataW H × List MemPlace} (hwt : ∀ k ∈ x.1.weights Tryz.prog 43, k ≤ reachBytes) (h : DataW.trod enc Tryz.prog w base spare held fuel 43 cs = some x) :
    ∃ (l : List PropG) (A : Option Addr) (c : Nat), cs = [.slice A l.length c] ∧ l.length ≤ c ∧ SliceR (PropC w (fun _ => True)) 6 A l ∧ (∀ v ∈ l, szV v.v ∧ capV v.v) ∧ l.length * Tryz.prog.bytesOf 108 ≤ 140737488355328 :=
  slice_genL (α := PropG) Tryz.underlying43 cellsProp bytesProp (by decide) (PropC w (fun _ => True)) (fun v => szV v.v ∧ capV v.v) (fun _ _ _ _ hk hy => open_propP hk hy) hwt h
set_option maxRecDepth 100000 in
theorem open_nodeP {fuel : Nat} {cs : List Value} {x : DataW H × List MemPlace} (hwt : ∀ k ∈ x.1.weights Tryz.prog 45, k ≤ reachBytes) (h : DataW.trod enc Tryz.prog w base spare held fuel 45 cs = some x) : ∃ v : NodeG, (capN v ∧ ∀ p ∈ v.props, szV p.v) ∧ ∀ b o, (∀ j u, cs[j]? = some u → w.cell? ⟨b, o + j, none⟩ = some u) → NodeC w (fun _ => True) b o v := by
  obtain ⟨xs, m, hm, hxx, hl, hlen, hg⟩ := DataW.trod_struct Tryz.underlying45 h
  rw [cellsNode] at hl
  obtain ⟨c0, c1, c2, rfl⟩ := three_L hl
  obtain ⟨y0, y1, y2, rfl⟩ := three_L (show xs.length = 3 from hlen)
  have g0 : DataW.trod enc Tryz.prog w base spare held m 3 (([c0, c1, c2].drop 0).take (Tryz.prog.cellsOf 3)) = some y0 := hg 0 _ rfl
  rw [cellsInt] at g0
  have g1 : DataW.trod enc Tryz.prog w base spare held m 26 (([c0, c1, c2].drop 1).take (Tryz.prog.cellsOf 26)) = some y1 := hg 1 _ rfl
  rw [cellsStrs] at g1
  have g2 : DataW.trod enc Tryz.prog w base spare held m 43 (([c0, c1, c2].drop 2).take (Tryz.prog.cellsOf 43)) = some y2 := hg 2 _ rfl
  rw [cellsProps] at g2
  have hwe : ∀ k ∈ DataW.weightsEach Tryz.prog [3, 26, 43] [y0.1, y1.1, y2.1], k ≤ reachBytes := fun k hk => hwt k (by
    rw [show x.1 = .agg [y0.1, y1.1, y2.1] from congrArg Prod.fst hxx]
    simp only [DataW.weights, Tryz.underlying45]
    exact hk)
  obtain ⟨k0, e0, -, -⟩ := DataW.trod_int (k := .i64) Tryz.underlying3 g0
  obtain ⟨l1, A1, c1', e1, n1, v1, z1, b1⟩ := open_strsP Tryz.underlying26 (fun k hk => hwe k (DataW.weights_mem_each (j := 1) rfl rfl k hk)) g1
  rw [bytes16] at b1
  obtain ⟨l2, A2, c2', e2, n2, v2, z2, b2⟩ := open_propsP (fun k hk => hwe k (DataW.weights_mem_each (j := 2) rfl rfl k hk)) g2
  rw [bytes80] at b2
  cases e0; cases e1; cases e2
  exact ⟨⟨k0, l1, l2⟩, ⟨⟨b1, b2, fun p hp => (z2 p hp).2⟩, fun p hp => (z2 p hp).1⟩, fun b o hc => ⟨trivial, hc 0 _ rfl, A1, c1', A2, c2', hc 1 _ rfl, n1, v1, hc 2 _ rfl, n2, v2⟩⟩
theorem open_nodesP {fuel : Nat} {cs : List Value} {x : DataW H × List MemPlace} (hwt : ∀ k ∈ x.1.weights Tryz.prog 22, k ≤ reachBytes) (h : DataW.trod enc Tryz.prog w base spare held fuel 22 cs = some x) :
    ∃ (l : List NodeG) (A : Option Addr) (c : Nat), cs = [.slice A l.length c] ∧ l.length ≤ c ∧ SliceR (NodeC w (fun _ => True)) 3 A l ∧ (∀ v ∈ l, capN v ∧ ∀ p ∈ v.props, szV p.v) ∧ l.length * Tryz.prog.bytesOf 45 ≤ 140737488355328 :=
  slice_genL (α := NodeG) Tryz.underlying22 cellsNode bytesNode (by decide) (NodeC w (fun _ => True)) (fun v => capN v ∧ ∀ p ∈ v.props, szV p.v) (fun _ _ _ _ hk hy => open_nodeP hk hy) hwt h
set_option maxRecDepth 100000 in
/-- a graph that reads, where it lies among other things -/
theorem open_graphP {fuel : Nat} {cs : List Value} {x : DataW H × List MemPlace} (hwt : ∀ k ∈ x.1.weights Tryz.prog 25, k ≤ reachBytes) (h : DataW.trod enc Tryz.prog w base spare held fuel 25 cs = some x) :
    ∃ (g : GraphG) (A B : Option Addr) (c d : Nat), cs = [.slice A g.nodes.length c, .slice B g.edges.length d, .int .i64 g.nn, .int .i64 g.ne] ∧ g.nodes.length ≤ c ∧ g.edges.length ≤ d ∧ GraphAt w (fun _ => True) A B g ∧ SzG g ∧ ∀ x ∈ g.nodes, capN x := by
  obtain ⟨xs, m, hm, hxx, hl, hlen, hg⟩ := DataW.trod_struct Tryz.underlying25 h
  rw [cellsGraph] at hl
  obtain ⟨c0, c1, c2, c3, rfl⟩ := four_L hl
  obtain ⟨y0, y1, y2, y3, rfl⟩ := four_L (show xs.length = 4 from hlen)
  have g0 : DataW.trod enc Tryz.prog w base spare held m 22 (([c0, c1, c2, c3].drop 0).take (Tryz.prog.cellsOf 22)) = some y0 := hg 0 _ rfl
  rw [cellsNodes] at g0
  have g1 : DataW.trod enc Tryz.prog w base spare held m 23 (([c0, c1, c2, c3].drop 1).take (Tryz.prog.cellsOf 23)) = some y1 := hg 1 _ rfl
  rw [cellsEdges] at g1
  have g2 : DataW.trod enc Tryz.prog w base spare held m 3 (([c0, c1, c2, c3].drop 2).take (Tryz.prog.cellsOf 3)) = some y2 := hg 2 _ rfl
  rw [cellsInt] at g2
  have g3 : DataW.trod enc Tryz.prog w base spare held m 3 (([c0, c1, c2, c3].drop 3).take (Tryz.prog.cellsOf 3)) = some y3 := hg 3 _ rfl
  rw [cellsInt] at g3
  have hwe : ∀ k ∈ DataW.weightsEach Tryz.prog [22, 23, 3, 3] [y0.1, y1.1, y2.1, y3.1], k ≤ reachBytes := fun k hk => hwt k (by
    rw [show x.1 = .agg [y0.1, y1.1, y2.1, y3.1] from congrArg Prod.fst hxx]
    simp only [DataW.weights, Tryz.underlying25]
    exact hk)
  obtain ⟨l0, A0, c0', e0, n0, v0, z0, -⟩ := open_nodesP (fun k hk => hwe k (DataW.weights_mem_each (j := 0) rfl rfl k hk)) g0
  obtain ⟨l1, A1, c1', e1, n1, v1, z1⟩ := open_edges (fun k hk => hwe k (DataW.weights_mem_each (j := 1) rfl rfl k hk)) g1
  obtain ⟨k2, e2, -, -⟩ := DataW.trod_int (k := .i64) Tryz.underlying3 g2
  obtain ⟨k3, e3, -, -⟩ := DataW.trod_int (k := .i64) Tryz.underlying3 g3
  cases e0; cases e1; cases e2; cases e3
  exact ⟨⟨l0, l1, k2, k3⟩, A0, A1, c0', c1', rfl, n0, n1, ⟨v0, v1⟩, ⟨fun x hx => (z0 x hx).2, z1⟩, fun x hx => (z0 x hx).1⟩
set_option maxRecDepth 100000 in
/-- a question that comes in -/
theorem top_ask {r : Reach} {b0 : Nat} {v : Value} {dd : DataW H} {p : List MemPlace} (hv : Value.okWide Tryz.prog w r b0 28 v) (hwt0 : ∀ k ∈ dd.weights Tryz.prog 28, k ≤ reachBytes) (h0 : DataW.Trod enc Tryz.prog w base spare held 28 v dd p) :
    ∃ (g : GraphG) (fr tn dir mode mn mx : Int) (types : List ByteArray) (A B T : Option Addr) (c d e : Nat), v = .agg #[.slice A g.nodes.length c, .slice B g.edges.length d, .int .i64 g.nn, .int .i64 g.ne, .int .i64 fr, .int .i64 tn, .int .i64 dir, .int .i64 mode, .int .i64 mn, .int .i64 mx, .slice T types.length e] ∧ GraphAt w (fun _ => True) A B g ∧ SzG g ∧ (∀ x ∈ g.nodes, capN x) ∧ Strs w (fun _ => True) T types := by
  obtain ⟨csa, rfl, -⟩ := okWide_struct Tryz.underlying28 hv
  obtain ⟨fuel, hf⟩ := h0
  obtain ⟨cs, rfl⟩ : ∃ cs : List Value, csa = cs.toArray := ⟨csa.toList, by simp⟩
  obtain ⟨x, hx⟩ : ∃ x : DataW H × List MemPlace, x = (dd, p) := ⟨_, rfl⟩
  rw [← hx] at hf
  have hwt : ∀ k ∈ x.1.weights Tryz.prog 28, k ≤ reachBytes := by rw [hx]; exact hwt0
  have h : DataW.trod enc Tryz.prog w base spare held fuel 28 cs = some x := by simpa [Value.cells] using hf
  obtain ⟨xs, m, hm, hxx, hl, hlen, hg⟩ := DataW.trod_struct Tryz.underlying28 h
  rw [cellsAsk] at hl
  obtain ⟨c0, c1, c2, c3, c4, c5, c6, c7, c8, c9, c10, rfl⟩ := eleven_L hl
  obtain ⟨y0, y1, y2, y3, y4, y5, y6, y7, rfl⟩ := eight_L (show xs.length = 8 from hlen)
  have g0 : DataW.trod enc Tryz.prog w base spare held m 25 (([c0, c1, c2, c3, c4, c5, c6, c7, c8, c9, c10].drop 0).take (Tryz.prog.cellsOf 25)) = some y0 := hg 0 _ rfl
  rw [cellsGraph] at g0
  have g1 : DataW.trod enc Tryz.prog w base spare held m 3 (([c0, c1, c2, c3, c4, c5, c6, c7, c8, c9, c10].drop 4).take (Tryz.prog.cellsOf 3)) = some y1 := hg 1 _ rfl
  rw [cellsInt] at g1
  have g2 : DataW.trod enc Tryz.prog w base spare held m 3 (([c0, c1, c2, c3, c4, c5, c6, c7, c8, c9, c10].drop 5).take (Tryz.prog.cellsOf 3)) = some y2 := hg 2 _ rfl
  rw [cellsInt] at g2
  have g3 : DataW.trod enc Tryz.prog w base spare held m 3 (([c0, c1, c2, c3, c4, c5, c6, c7, c8, c9, c10].drop 6).take (Tryz.prog.cellsOf 3)) = some y3 := hg 3 _ rfl
  rw [cellsInt] at g3
  have g4 : DataW.trod enc Tryz.prog w base spare held m 3 (([c0, c1, c2, c3, c4, c5, c6, c7, c8, c9, c10].drop 7).take (Tryz.prog.cellsOf 3)) = some y4 := hg 4 _ rfl
  rw [cellsInt] at g4
  have g5 : DataW.trod enc Tryz.prog w base spare held m 3 (([c0, c1, c2, c3, c4, c5, c6, c7, c8, c9, c10].drop 8).take (Tryz.prog.cellsOf 3)) = some y5 := hg 5 _ rfl
  rw [cellsInt] at g5
  have g6 : DataW.trod enc Tryz.prog w base spare held m 3 (([c0, c1, c2, c3, c4, c5, c6, c7, c8, c9, c10].drop 9).take (Tryz.prog.cellsOf 3)) = some y6 := hg 6 _ rfl
  rw [cellsInt] at g6
  have g7 : DataW.trod enc Tryz.prog w base spare held m 26 (([c0, c1, c2, c3, c4, c5, c6, c7, c8, c9, c10].drop 10).take (Tryz.prog.cellsOf 26)) = some y7 := hg 7 _ rfl
  rw [cellsStrs] at g7
  have hwe : ∀ k ∈ DataW.weightsEach Tryz.prog [25, 3, 3, 3, 3, 3, 3, 26] [y0.1, y1.1, y2.1, y3.1, y4.1, y5.1, y6.1, y7.1], k ≤ reachBytes := fun k hk => hwt k (by
    rw [show x.1 = .agg [y0.1, y1.1, y2.1, y3.1, y4.1, y5.1, y6.1, y7.1] from congrArg Prod.fst hxx]
    simp only [DataW.weights, Tryz.underlying28]
    exact hk)
  obtain ⟨g, A, B, c, d, e0, n0, n0', v0, z0, y0'⟩ := open_graphP (fun k hk => hwe k (DataW.weights_mem_each (j := 0) rfl rfl k hk)) g0
  obtain ⟨k1, e1, -, -⟩ := DataW.trod_int (k := .i64) Tryz.underlying3 g1
  obtain ⟨k2, e2, -, -⟩ := DataW.trod_int (k := .i64) Tryz.underlying3 g2
  obtain ⟨k3, e3, -, -⟩ := DataW.trod_int (k := .i64) Tryz.underlying3 g3
  obtain ⟨k4, e4, -, -⟩ := DataW.trod_int (k := .i64) Tryz.underlying3 g4
  obtain ⟨k5, e5, -, -⟩ := DataW.trod_int (k := .i64) Tryz.underlying3 g5
  obtain ⟨k6, e6, -, -⟩ := DataW.trod_int (k := .i64) Tryz.underlying3 g6
  obtain ⟨l7, A7, c7', e7, n7, v7, z7, b7⟩ := open_strsP Tryz.underlying26 (fun k hk => hwe k (DataW.weights_mem_each (j := 7) rfl rfl k hk)) g7
  rw [bytes16] at b7
  cases e0; cases e1; cases e2; cases e3; cases e4; cases e5; cases e6; cases e7
  exact ⟨g, k1, k2, k3, k4, k5, k6, l7, A, B, A7, c, d, c7', rfl, v0, z0, y0', v7⟩
set_option maxRecDepth 100000 in
/-- a value that comes in -/
theorem top_val {r : Reach} {b0 : Nat} {v : Value} {dd : DataW H} {p : List MemPlace} (hv : Value.okWide Tryz.prog w r b0 37 v) (hwt0 : ∀ k ∈ dd.weights Tryz.prog 37, k ≤ reachBytes) (h0 : DataW.Trod enc Tryz.prog w base spare held 37 v dd p) :
    ∃ (x : Val) (A : Option Addr) (c : Nat), v = agV x A c ∧ Vals w (fun _ => True) A x.l ∧ szV x := by
  obtain ⟨csa, rfl, -⟩ := okWide_struct Tryz.underlying37 hv
  obtain ⟨fuel, hf⟩ := h0
  obtain ⟨cs, rfl⟩ : ∃ cs : List Value, csa = cs.toArray := ⟨csa.toList, by simp⟩
  obtain ⟨x, hx⟩ : ∃ x : DataW H × List MemPlace, x = (dd, p) := ⟨_, rfl⟩
  rw [← hx] at hf
  have hwt : ∀ k ∈ x.1.weights Tryz.prog 37, k ≤ reachBytes := by rw [hx]; exact hwt0
  have h : DataW.trod enc Tryz.prog w base spare held fuel 37 cs = some x := by simpa [Value.cells] using hf
  obtain ⟨xs, m, hm, hxx, hl, hlen, hg⟩ := DataW.trod_struct Tryz.underlying37 h
  rw [cellsVal] at hl
  obtain ⟨c0, c1, c2, c3, c4, rfl⟩ := fiveL hl
  obtain ⟨y0, y1, y2, y3, y4, rfl⟩ := fiveL (show xs.length = 5 from hlen)
  have g0 : DataW.trod enc Tryz.prog w base spare held m 3 (([c0, c1, c2, c3, c4].drop 0).take (Tryz.prog.cellsOf 3)) = some y0 := hg 0 _ rfl
  rw [cellsInt] at g0
  have g1 : DataW.trod enc Tryz.prog w base spare held m 3 (([c0, c1, c2, c3, c4].drop 1).take (Tryz.prog.cellsOf 3)) = some y1 := hg 1 _ rfl
  rw [cellsInt] at g1
  have g2 : DataW.trod enc Tryz.prog w base spare held m 3 (([c0, c1, c2, c3, c4].drop 2).take (Tryz.prog.cellsOf 3)) = some y2 := hg 2 _ rfl
  rw [cellsInt] at g2
  have g3 : DataW.trod enc Tryz.prog w base spare held m 9 (([c0, c1, c2, c3, c4].drop 3).take (Tryz.prog.cellsOf 9)) = some y3 := hg 3 _ rfl
  rw [cellsStr] at g3
  have g4 : DataW.trod enc Tryz.prog w base spare held m 32 (([c0, c1, c2, c3, c4].drop 4).take (Tryz.prog.cellsOf 32)) = some y4 := hg 4 _ rfl
  rw [cellsVals] at g4
  have hwe : ∀ k ∈ DataW.weightsEach Tryz.prog [3, 3, 3, 9, 32] [y0.1, y1.1, y2.1, y3.1, y4.1], k ≤ reachBytes := fun k hk => hwt k (by
    rw [show x.1 = .agg [y0.1, y1.1, y2.1, y3.1, y4.1] from congrArg Prod.fst hxx]
    simp only [DataW.weights, Tryz.underlying37]
    exact hk)
  obtain ⟨k0, e0, -, -⟩ := DataW.trod_int (k := .i64) Tryz.underlying3 g0
  obtain ⟨k1, e1, -, -⟩ := DataW.trod_int (k := .i64) Tryz.underlying3 g1
  obtain ⟨k2, e2, -, -⟩ := DataW.trod_int (k := .i64) Tryz.underlying3 g2
  obtain ⟨s3, e3, x3, -⟩ := DataW.trod_string Tryz.underlying9 g3
  have z3 := str_small x3 (fun k hk => hwe k (DataW.weights_mem_each (j := 3) rfl rfl k hk))
  obtain ⟨l4, A4, c4', e4, -, v4, z4, -⟩ := (open_bothP m).2 _ _ _ Tryz.underlying32 (fun k hk => hwe k (DataW.weights_mem_each (j := 4) rfl rfl k hk)) g4
  cases e0; cases e1; cases e2; cases e3; cases e4
  exact ⟨.mk k0 k1 k2 s3 l4, A4, c4', rfl, v4, szV_iff.2 ⟨z3, z4⟩⟩
end
end Go.Proofs.YtigmdddeplnciaaGreatDoor

/- PLAIN: MERGING IN PLACE, as slices.SortStableFunc does it: what its parts make of a row. No program in sight. -/
namespace Go.Proofs.YtigmdddeplnciaaGreatDoor
open Go.Sort
variable {α : Type} [Inhabited α] {lt : α → α → Bool}
theorem swp_at (d : Array α) {i j : Nat} (hi : i < d.size) (hj : j < d.size) (k : Nat) : (swp d i j)[k]! = if k = j then d[i]! else if k = i then d[j]! else d[k]! := swp_get d hi hj k
/-- where the exchange of two ranges takes place x from -/
def swS (a b n x : Nat) : Nat := if a ≤ x ∧ x < a + n then x - a + b else if b ≤ x ∧ x < b + n then x - b + a else x
theorem swS_zero (a b x : Nat) : swS a b 0 x = x := by unfold swS; rw [if_neg (by omega), if_neg (by omega)]
theorem swS_step (d e : Array α) {a b n i : Nat} (hs : e.size = d.size) (hab : a + n ≤ b) (hi : i < n) (hb : b + n ≤ d.size) (h : ∀ x, e[x]! = d[swS a b i x]!) (x : Nat) : (swp e (a + i) (b + i))[x]! = d[swS a b (i + 1) x]! := by
  rw [swp_at e (by omega) (by omega)]
  split
  · rename_i hx
    rw [h]; congr 1; subst hx; unfold swS
    repeat' split
    all_goals omega
  · split
    · rename_i hx
      rw [h]; congr 1; subst hx; unfold swS
      repeat' split
      all_goals omega
    · rw [h]; congr 1; unfold swS
      repeat' split
      all_goals omega
/-- where a rotation takes place x from -/
def rotS (a m b x : Nat) : Nat := if a ≤ x ∧ x < b then (if x < a + (b - m) then m + (x - a) else x - (b - m)) else x
theorem rotS_left {m i j x : Nat} (hi : i ≤ m) (hij : j < i) : swS (m - i) m j (rotS (m - (i - j)) m (m + j) x) = rotS (m - i) m (m + j) x := by
  unfold rotS swS
  repeat' split
  all_goals omega
theorem rotS_right {m i j x : Nat} (hi : i ≤ m) (hij : i < j) : swS (m - i) (m + j - i) i (rotS (m - i) m (m + (j - i)) x) = rotS (m - i) m (m + j) x := by
  unfold rotS swS
  repeat' split
  all_goals omega
theorem rotS_end {m i x : Nat} (hi : i ≤ m) : swS (m - i) m i x = rotS (m - i) m (m + i) x := by
  unfold rotS swS
  repeat' split
  all_goals omega
theorem rotS_idl (m b x : Nat) : rotS m m b x = x := by
  unfold rotS
  repeat' split
  all_goals omega
theorem rotS_idr (a m x : Nat) : rotS a m m x = x := by
  unfold rotS
  repeat' split
  all_goals omega
/-- nothing of [m, b) is less than anything of [a, m) -/
def Cross (lt : α → α → Bool) (a m b : Nat) (d : Array α) : Prop := ∀ i j, a ≤ i → i < m → m ≤ j → j < b → lt d[j]! d[i]! = false
theorem srt_sub {a b a' b' : Nat} {d : Array α} (h : SortedIn lt a b d) (ha : a ≤ a') (hb : b' ≤ b) : SortedIn lt a' b' d := fun i j h1 h2 h3 => h i j (by omega) h2 (by omega)
theorem srt_kept {a b lo hi : Nat} {d e : Array α} (h : SortedIn lt a b d) (hp : PermIn lo hi d e) (ho : b ≤ lo ∨ hi ≤ a) : SortedIn lt a b e := fun i j h1 h2 h3 => by
  rw [hp.2.1 i (by omega), hp.2.1 j (by omega)]; exact h i j h1 h2 h3
theorem srt_glue {a m b : Nat} {d : Array α} (h1 : SortedIn lt a m d) (h2 : SortedIn lt m b d) (h : Cross lt a m b d) : SortedIn lt a b d := fun i j hi hij hj => by
  by_cases hm : j < m
  · exact h1 i j hi hij hm
  · by_cases hm' : m ≤ i
    · exact h2 i j hm' hij hj
    · exact h i j hi (by omega) (by omega) hj
theorem srt_le (hS : SWO lt) {a b : Nat} {d : Array α} (h : SortedIn lt a b d) {i j : Nat} (hi : a ≤ i) (hij : i ≤ j) (hj : j < b) : lt d[j]! d[i]! = false := by
  rcases Nat.lt_or_eq_of_le hij with h1 | h1
  · exact h i j hi h1 hj
  · subst h1; exact hS.irrefl _
theorem Cross.left {a m b : Nat} {d e : Array α} (hm : m ≤ d.size) (h : Cross lt a m b d) (hp : PermIn a m d e) : Cross lt a m b e := fun i j h1 h2 h3 h4 => by
  rw [hp.2.1 j (by omega)]
  exact permIn_all d e a m (fun u => lt d[j]! u = false) hm hp (fun i h1 h2 => h i j h1 h2 h3 h4) i h1 h2
theorem Cross.right {a m b : Nat} {d e : Array α} (hb : b ≤ d.size) (h : Cross lt a m b d) (hp : PermIn m b d e) : Cross lt a m b e := fun i j h1 h2 h3 h4 => by
  rw [hp.2.1 i (by omega)]
  exact permIn_all d e m b (fun u => lt u d[i]! = false) hb hp (fun j h3 h4 => h i j h1 h2 h3 h4) j h3 h4
/-- less and not less: 'x < y ≤ z' -/
theorem lt_le {β : Type} {lt : β → β → Bool} (hS : SWO lt) {x y z : β} (h1 : lt x y = true) (h2 : lt z y = false) : lt x z = true := by
  cases hz : lt x z with
  | true => rfl
  | false =>
    -- z ≤ x, x < y: but y ≤ z
    have := hS.ntrans x z y hz h2
    rw [h1] at this; cases this
theorem le_lt {β : Type} {lt : β → β → Bool} (hS : SWO lt) {x y z : β} (h1 : lt y x = false) (h2 : lt y z = true) : lt x z = true := by
  cases hz : lt x z with
  | true => rfl
  | false =>
    have := hS.ntrans y x z h1 hz
    rw [h2] at this; cases this
/-- THE SEARCH OF symMerge: where it begins and ends -/
def symLo (a m b : Nat) : Nat := if m > (a + b) / 2 then (a + b) / 2 + m - b else a
def symHi (a m b : Nat) : Nat := if m > (a + b) / 2 then (a + b) / 2 else m
theorem sym_rng {a m b : Nat} (h1 : a < m) (h2 : m < b) : a ≤ symLo a m b ∧ symLo a m b ≤ symHi a m b ∧ symHi a m b ≤ m ∧ symHi a m b ≤ (a + b) / 2 ∧ (a + b) / 2 + m - symLo a m b ≤ b ∧ b ≤ (a + b) / 2 + m + (b - m) := by
  unfold symLo symHi; split <;> omega
/-- what is known of the place s that it finds -/
structure SymAt (lt : α → α → Bool) (a m b s : Nat) (d : Array α) : Prop where
  lo : symLo a m b ≤ s
  hi : s ≤ symHi a m b
  up : symLo a m b < s → lt d[(a + b) / 2 + m - s]! d[s - 1]! = false
  dn : s < symHi a m b → lt d[(a + b) / 2 + m - s - 1]! d[s]! = true
theorem sym_cross (hS : SWO lt) {a m b s : Nat} {d : Array α} (h1 : a < m) (h2 : m < b) (hl : SortedIn lt a m d) (hr : SortedIn lt m b d) (h : SymAt lt a m b s d) :
    ∀ x y, (a ≤ x ∧ x < s ∨ m ≤ x ∧ x < (a + b) / 2 + m - s) → (s ≤ y ∧ y < m ∨ (a + b) / 2 + m - s ≤ y ∧ y < b) → lt d[y]! d[x]! = false := by
  have hlo := h.lo
  have hhi := h.hi
  have hr0 := sym_rng h1 h2
  intro x y hx hy
  rcases hx with hx | hx <;> rcases hy with hy | hy
  · exact hl x y hx.1 (by omega) hy.2
  · have hs : symLo a m b < s := by
      rcases Nat.lt_or_eq_of_le hlo with e | e
      · exact e
      · exfalso; unfold symLo at e; split at e <;> omega
    have e1 := srt_le hS hl hx.1 (show x ≤ s - 1 by omega) (show s - 1 < m by omega)
    have e2 := h.up hs
    have e3 := srt_le hS hr (show m ≤ (a + b) / 2 + m - s by omega) hy.1 hy.2
    exact hS.ntrans _ _ _ e3 (hS.ntrans _ _ _ e2 e1)
  · have hs : s < symHi a m b := by
      rcases Nat.lt_or_eq_of_le hhi with e | e
      · exact e
      · exfalso; unfold symHi at e; split at e <;> omega
    have e1 := srt_le hS hr hx.1 (show x ≤ (a + b) / 2 + m - s - 1 by omega) (by omega)
    have e2 := hS.asymmA (h.dn hs)
    have e3 := srt_le hS hl (show a ≤ s by omega) hy.1 hy.2
    exact hS.ntrans _ _ _ e3 (hS.ntrans _ _ _ e2 e1)
  · exact hr x y hx.1 (by omega) hy.2
/-- behind the rotation: four runs, and the two halves part -/
structure SymCut (lt : α → α → Bool) (a m b s : Nat) (e : Array α) : Prop where
  r1 : SortedIn lt a s e
  r2 : SortedIn lt s ((a + b) / 2) e
  r3 : SortedIn lt ((a + b) / 2) ((a + b) / 2 + m - s) e
  r4 : SortedIn lt ((a + b) / 2 + m - s) b e
  cross : Cross lt a ((a + b) / 2) b e
theorem sym_cut (hS : SWO lt) {a m b s : Nat} {d e : Array α} (h1 : a < m) (h2 : m < b) (hl : SortedIn lt a m d) (hr : SortedIn lt m b d) (h : SymAt lt a m b s d)
    (he : ∀ x, e[x]! = d[rotS s m ((a + b) / 2 + m - s) x]!) : SymCut lt a m b s e := by
  have hc := sym_cross hS h1 h2 hl hr h
  have hlo := h.lo
  have hhi := h.hi
  have hr0 := sym_rng h1 h2
  have src : ∀ x, rotS s m ((a + b) / 2 + m - s) x = if x < s then x else if x < (a + b) / 2 then m + (x - s) else if x < (a + b) / 2 + m - s then x - ((a + b) / 2 - s) else x := by
    intro x; unfold rotS
    repeat' split
    all_goals omega
  refine ⟨?_, ?_, ?_, ?_, ?_⟩
  · intro i j hi hij hj
    rw [he, he, src, src, if_pos (by omega), if_pos (by omega)]
    exact hl i j hi hij (by omega)
  · intro i j hi hij hj
    rw [he, he, src, src, if_neg (by omega), if_pos (by omega), if_neg (by omega), if_pos (by omega)]
    exact hr _ _ (by omega) (by omega) (by omega)
  · intro i j hi hij hj
    rw [he, he, src, src, if_neg (by omega), if_neg (by omega), if_pos (by omega), if_neg (by omega), if_neg (by omega), if_pos (by omega)]
    exact hl _ _ (by omega) (by omega) (by omega)
  · intro i j hi hij hj
    rw [he, he, src, src, if_neg (by omega), if_neg (by omega), if_neg (by omega), if_neg (by omega), if_neg (by omega), if_neg (by omega)]
    exact hr _ _ (by omega) (by omega) (by omega)
  · intro i j hi him hmj hj
    rw [he, he]
    refine hc _ _ ?_ ?_
    · rw [src]
      by_cases his : i < s
      · rw [if_pos his]; exact .inl ⟨by omega, by omega⟩
      · rw [if_neg his, if_pos (by omega)]; exact .inr ⟨by omega, by omega⟩
    · rw [src, if_neg (by omega), if_neg (by omega)]
      split
      · exact .inl ⟨by omega, by omega⟩
      · exact .inr ⟨by omega, by omega⟩
/-- THE LEFT RUN HAS ONE ELEMENT: it goes behind all that are less -/
theorem ins_left (hS : SWO lt) {a b i : Nat} {d e : Array α} (hai : a + 1 ≤ i) (hib : i ≤ b) (hr : SortedIn lt (a + 1) b d) (hlt : ∀ x, a + 1 ≤ x → x < i → lt d[x]! d[a]! = true) (hge : ∀ x, i ≤ x → x < b → lt d[x]! d[a]! = false)
    (he : ∀ x, e[x]! = if a ≤ x ∧ x < i - 1 then d[x + 1]! else if x = i - 1 then d[a]! else d[x]!) : SortedIn lt a b e := by
  intro p q hp hpq hq
  rw [he, he]
  repeat' split
  all_goals first | omega | skip
  · exact hr _ _ (by omega) (by omega) (by omega)
  · exact hS.asymmA (hlt _ (by omega) (by omega))
  · exact hr _ _ (by omega) (by omega) (by omega)
  · exact hge _ (by omega) (by omega)
  · exact hr _ _ (by omega) (by omega) (by omega)
/-- THE RIGHT RUN HAS ONE ELEMENT: it goes ahead of all that are greater -/
theorem ins_right (hS : SWO lt) {a m i : Nat} {d e : Array α} (hai : a ≤ i) (him : i ≤ m) (hl : SortedIn lt a m d) (hle : ∀ x, a ≤ x → x < i → lt d[m]! d[x]! = false) (hgt : ∀ x, i ≤ x → x < m → lt d[m]! d[x]! = true)
    (he : ∀ x, e[x]! = if i < x ∧ x ≤ m then d[x - 1]! else if x = i then d[m]! else d[x]!) : SortedIn lt a (m + 1) e := by
  intro p q hp hpq hq
  rw [he, he]
  repeat' split
  all_goals first | omega | skip
  · exact hl _ _ (by omega) (by omega) (by omega)
  · exact hS.asymmA (hgt _ (by omega) (by omega))
  · exact hl _ _ (by omega) (by omega) (by omega)
  · exact hle _ (by omega) (by omega)
  · exact hl _ _ (by omega) (by omega) (by omega)
/-- one exchange to the right, one to the left -/
theorem shiftR_step {d e : Array α} {a k : Nat} (hs : e.size = d.size) (hk : k + 1 < d.size) (hak : a ≤ k) (h : ∀ x, e[x]! = if a ≤ x ∧ x < k then d[x + 1]! else if x = k then d[a]! else d[x]!) (x : Nat) :
    (swp e k (k + 1))[x]! = if a ≤ x ∧ x < k + 1 then d[x + 1]! else if x = k + 1 then d[a]! else d[x]! := by
  rw [swp_at e (by omega) (by omega), h, h, h]
  repeat' split
  all_goals first | omega | rfl | skip
  all_goals (congr 1; omega)
theorem shiftL_step {d e : Array α} {m k : Nat} (hs : e.size = d.size) (hm : m < d.size) (hkm : k + 1 ≤ m) (h : ∀ x, e[x]! = if k + 1 < x ∧ x ≤ m then d[x - 1]! else if x = k + 1 then d[m]! else d[x]!) (x : Nat) :
    (swp e (k + 1) k)[x]! = if k < x ∧ x ≤ m then d[x - 1]! else if x = k then d[m]! else d[x]! := by
  rw [swp_at e (by omega) (by omega), h, h, h]
  repeat' split
  all_goals first | omega | rfl | skip
  all_goals (congr 1; omega)
/-- BLOCKS: runs of bs elements each rise -/
def Blocks (lt : α → α → Bool) (bs n : Nat) (d : Array α) : Prop := ∀ q, SortedIn lt (q * bs) (min (q * bs + bs) n) d
/-- behind some rounds of a level: runs of 2 bs up to a, runs of bs from there -/
structure Level (lt : α → α → Bool) (bs n a : Nat) (d : Array α) : Prop where
  two : ∀ q, q * (2 * bs) + 2 * bs ≤ a → SortedIn lt (q * (2 * bs)) (q * (2 * bs) + 2 * bs) d
  one : ∀ q, a ≤ q * bs → SortedIn lt (q * bs) (min (q * bs + bs) n) d
theorem Level.start {bs n : Nat} {d : Array α} (hb : 0 < bs) (h : Blocks lt bs n d) : Level lt bs n 0 d := ⟨fun q hq => by omega, fun q _ => h q⟩
theorem Level.step {bs n q : Nat} {d e : Array α} (hb : 0 < bs) (h : Level lt bs n (q * (2 * bs)) d) (hn : q * (2 * bs) + 2 * bs ≤ n) (hp : PermIn (q * (2 * bs)) (q * (2 * bs) + 2 * bs) d e) (hs : SortedIn lt (q * (2 * bs)) (q * (2 * bs) + 2 * bs) e) :
    Level lt bs n ((q + 1) * (2 * bs)) e := by
  have e1 : (q + 1) * (2 * bs) = q * (2 * bs) + 2 * bs := by rw [Nat.add_mul, Nat.one_mul]
  rw [e1]
  refine ⟨fun p hpq => ?_, fun p hpq => ?_⟩
  · rcases Nat.lt_trichotomy p q with h1 | h1 | h1
    · have h2 : (p + 1) * (2 * bs) ≤ q * (2 * bs) := Nat.mul_le_mul_right _ h1
      rw [Nat.add_mul, Nat.one_mul] at h2
      exact srt_kept (h.two p h2) hp (.inl h2)
    · subst h1; exact hs
    · have h2 : (q + 1) * (2 * bs) ≤ p * (2 * bs) := Nat.mul_le_mul_right _ h1
      omega
  · exact srt_kept (h.one p (by omega)) hp (.inr hpq)
/-- the last round of a level -/
theorem Level.last {bs n q : Nat} {d e : Array α} (h : Level lt bs n (q * (2 * bs)) d) (hn : n < q * (2 * bs) + 2 * bs) (ha : q * (2 * bs) ≤ n) (hp : PermIn (q * (2 * bs)) n d e) (hs : SortedIn lt (q * (2 * bs)) n e) : Blocks lt (bs * 2) n e := by
  intro p
  rw [Nat.mul_comm bs 2]
  rcases Nat.lt_trichotomy p q with h1 | h1 | h1
  · have h2 : (p + 1) * (2 * bs) ≤ q * (2 * bs) := Nat.mul_le_mul_right _ h1
    rw [Nat.add_mul, Nat.one_mul] at h2
    exact srt_sub (srt_kept (h.two p h2) hp (.inl h2)) (Nat.le_refl _) (by omega)
  · subst h1; exact srt_sub hs (Nat.le_refl _) (by omega)
  · have h2 : (q + 1) * (2 * bs) ≤ p * (2 * bs) := Nat.mul_le_mul_right _ h1
    rw [Nat.add_mul, Nat.one_mul] at h2
    intro i j hi hij hj
    omega
theorem Level.runs {bs n q : Nat} {d : Array α} (h : Level lt bs n (q * (2 * bs)) d) : SortedIn lt (q * (2 * bs)) (min (q * (2 * bs) + bs) n) d ∧ SortedIn lt (q * (2 * bs) + bs) (min (q * (2 * bs) + bs + bs) n) d := by
  have e1 : 2 * q * bs = q * (2 * bs) := by rw [Nat.mul_comm 2 q, Nat.mul_assoc]
  have e2 : (2 * q + 1) * bs = q * (2 * bs) + bs := by rw [Nat.add_mul, Nat.one_mul, e1]
  have h1 := h.one (2 * q) (by omega)
  have h2 := h.one (2 * q + 1) (by omega)
  rw [e1] at h1
  rw [e2] at h2
  exact ⟨h1, h2⟩
theorem Blocks.done {bs n : Nat} {d : Array α} (h : Blocks lt bs n d) (hn : n ≤ bs) : SortedIn lt 0 n d := by
  have := h 0
  rw [Nat.zero_mul] at this
  exact srt_sub this (Nat.le_refl _) (by omega)
/-- THE FIRST LEVEL: blocks sorted by insertion -/
def First (lt : α → α → Bool) (bs a : Nat) (d : Array α) : Prop := ∀ q, q * bs + bs ≤ a → SortedIn lt (q * bs) (q * bs + bs) d
theorem First.step {bs q : Nat} {d e : Array α} (h : First lt bs (q * bs) d) (hp : PermIn (q * bs) (q * bs + bs) d e) (hs : SortedIn lt (q * bs) (q * bs + bs) e) : First lt bs ((q + 1) * bs) e := by
  have e1 : (q + 1) * bs = q * bs + bs := by rw [Nat.add_mul, Nat.one_mul]
  rw [e1]
  intro p hpq
  rcases Nat.lt_trichotomy p q with h1 | h1 | h1
  · have h2 : (p + 1) * bs ≤ q * bs := Nat.mul_le_mul_right _ h1
    rw [Nat.add_mul, Nat.one_mul] at h2
    exact srt_kept (h p h2) hp (.inl h2)
  · subst h1; exact hs
  · have h2 : (q + 1) * bs ≤ p * bs := Nat.mul_le_mul_right _ h1
    intro i j hi hij hj
    omega
theorem First.last {bs n q : Nat} {d e : Array α} (h : First lt bs (q * bs) d) (hn : n < q * bs + bs) (hp : PermIn (q * bs) n d e) (hs : SortedIn lt (q * bs) n e) : Blocks lt bs n e := by
  intro p
  rcases Nat.lt_trichotomy p q with h1 | h1 | h1
  · have h2 : (p + 1) * bs ≤ q * bs := Nat.mul_le_mul_right _ h1
    rw [Nat.add_mul, Nat.one_mul] at h2
    exact srt_sub (srt_kept (h p h2) hp (.inl h2)) (Nat.le_refl _) (by omega)
  · subst h1; exact srt_sub hs (Nat.le_refl _) (by omega)
  · have h2 : (q + 1) * bs ≤ p * bs := Nat.mul_le_mul_right _ h1
    rw [Nat.add_mul, Nat.one_mul] at h2
    intro i j hi hij hj
    omega
end Go.Proofs.YtigmdddeplnciaaGreatDoor

/- ENTRIES (api.Adj): three ints; plain and in memory. -/
namespace Go.Proofs.YtigmdddeplnciaaGreatDoor
open Go.RowKit
/-- an entry: id: where it begins, n: where it leads, d: its edge -/
structure Sh where
  id : Int
  n : Int
  d : Int
deriving DecidableEq
instance : Inhabited Sh := ⟨⟨0, 0, 0⟩⟩
def ShC (w : World) (ok : Nat → Prop) (b o : Nat) (s : Sh) : Prop := ok b ∧ w.cell? ⟨b, o, none⟩ = some (.int .i64 s.id) ∧ w.cell? ⟨b, o + 1, none⟩ = some (.int .i64 s.n) ∧ w.cell? ⟨b, o + 2, none⟩ = some (.int .i64 s.d)
def Shares (w : World) (ok : Nat → Prop) (A : Option Addr) (l : List Sh) : Prop := SliceR (ShC w ok) 3 A l
theorem Shares.keep {w w' : World} {ok ok' : Nat → Prop} {A : Option Addr} {l : List Sh} (h : Shares w ok A l) (hk : ∀ b o x, ok b → w.cell? ⟨b, o, none⟩ = some x → w'.cell? ⟨b, o, none⟩ = some x ∧ ok' b) : Shares w' ok' A l := SliceR.mono h (fun _ _ _ _ hx => ⟨(hk _ _ _ hx.1 hx.2.1).2, (hk _ _ _ hx.1 hx.2.1).1, (hk _ _ _ hx.1 hx.2.2.1).1, (hk _ _ _ hx.1 hx.2.2.2).1⟩)
theorem Shares.ext {w w' : World} {ok : Nat → Prop} {A : Option Addr} {l : List Sh} (h : Shares w ok A l) (e : Ext w w') : Shares w' ok A l := h.keep (fun _ _ _ hb hc => ⟨e.cell hc, hb⟩)
theorem Shares.at_ {w : World} {ok : Nat → Prop} {A : Option Addr} {l : List Sh} (h : Shares w ok A l) {i : Nat} (hi : i < l.length) : ∃ b o, A = some ⟨b, o, none⟩ ∧ ∀ k, k < l.length → ShC w ok b (o + k * 3) l[k]! := by
  obtain ⟨b, o, hA, hc⟩ := h.2 (by omega)
  exact ⟨b, o, hA, fun k hk => by rw [getElem!_pos l k hk]; exact hc k hk⟩
def Sh.cells (s : Sh) : List Value := [.int .i64 s.id, .int .i64 s.n, .int .i64 s.d]
theorem Sh.cells_one (s : Sh) : ∀ u ∈ s.cells, u.oneCell' = true := by
  intro u hu
  simp only [Sh.cells, List.mem_cons, List.not_mem_nil, or_false] at hu
  rcases hu with rfl | rfl | rfl <;> rfl
theorem El_adj : ElT Tryz.prog 67 65 3 24 := ⟨Tryz.underlying67, ⟨.agg #[.int .i64 0, .int .i64 0, .int .i64 0], by kernel_rfl, rfl⟩, by decide⟩
theorem shares_of_own {w : World} {base e : Nat} {v : Value} {n : Nat} {l : List Sh} (h : w.ownsRow base e 3 v n (l.flatMap Sh.cells)) (hn : n = l.length) (hm : l.length ≤ 140737488355328) : ∃ A c, v = .slice A l.length c ∧ l.length ≤ c ∧ Shares w (fun b => base ≤ b) A l :=
  own_sliceR (cs := l.map Sh.cells) (by rw [← List.flatMap_def]; exact h) hn (by simp) (by simp [Sh.cells]) hm (fun g hg _ k hk h' hu => ⟨hg, by have := hu 0 (.int .i64 l[k].id) (by simp [Sh.cells]); simpa using this, by have := hu 1 (.int .i64 l[k].n) (by simp [Sh.cells]); simpa using this, by have := hu 2 (.int .i64 l[k].d) (by simp [Sh.cells]); simpa using this⟩)
end Go.Proofs.YtigmdddeplnciaaGreatDoor
