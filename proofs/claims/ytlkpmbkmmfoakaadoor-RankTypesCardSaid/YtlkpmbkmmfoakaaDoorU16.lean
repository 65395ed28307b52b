/- PARTS OF THE WALKS, joined: RkSa, RkSb, RkSc, RkT, Less. -/
import Derived.Test.YtlkpmbkmmfoakaaDoorU15
import Derived.Test.YtlkpmbkmmfoakaaDoorU14
import Derived.Test.YtlkpmbkmmfoakaaDoorU09
import Derived.Test.YtlkpmbkmmfoakaaDoorU13
import Derived.Test.YtlkpmbkmmfoakaaDoorU06
/- PLAIN LAW: the shares of Run add up to 1 and are at least the base; sums that do not overflow. -/
namespace Go.Proofs.YtlkpmbkmmfoakaaDoor
open Go.RowKit
theorem red_some {N D p m : Int} (hD : 1 ≤ D) (hm : 1 ≤ m) (hmb : m ≤ 1000000000000000) (hp : 0 ≤ p) (hpb : p ≤ 1000000000000000) (e : N * m = p * D) : (redS N D).2.2 = true := by
  rw [redS_congr hD hm e]
  unfold redS
  have hg := cgcd_pos (N := p) hm
  have h1 : 0 ≤ p / cgcd p m := Int.ediv_nonneg hp (by omega)
  have h2 : p / cgcd p m ≤ p := Int.ediv_le_self _ hp
  have h3 : 0 ≤ m / cgcd p m := Int.ediv_nonneg (by omega) (by omega)
  have h4 : m / cgcd p m ≤ m := Int.ediv_le_self _ (by omega)
  rw [if_pos (by rw [Bool.and_eq_true, inB_true, inB_true]; omega)]
theorem addO_some {a b : Fr} (ha : okF a) (hb : okF b) {p m : Int} (hm : 1 ≤ m) (hmb : m ≤ 1000000000000000) (hp : 0 ≤ p) (hpb : p ≤ 1000000000000000) (e : (a.1 * b.2 + b.1 * a.2) * m = p * (a.2 * b.2)) : ∃ c, addO a b = some c := by
  have h := red_some (pos_mul ha.pos hb.pos) hm hmb hp hpb e
  rw [← addS_valid ha hb] at h
  unfold addO
  rw [if_pos h]
  exact ⟨_, rfl⟩
theorem mulO_some {a b : Fr} (ha : okF a) (hb : okF b) {p m : Int} (hm : 1 ≤ m) (hmb : m ≤ 1000000000000000) (hp : 0 ≤ p) (hpb : p ≤ 1000000000000000) (e : (a.1 * b.1) * m = p * (a.2 * b.2)) : ∃ c, mulO a b = some c := by
  have h := red_some (pos_mul ha.pos hb.pos) hm hmb hp hpb e
  rw [← mulS_valid ha hb] at h
  unfold mulO
  rw [if_pos h]
  exact ⟨_, rfl⟩
theorem okF_int {m : Int} (h1 : 0 ≤ m) (h2 : m ≤ 1000000000000000) : okF (m, 1) := by
  unfold okF
  exact validB_iff.2 ⟨by omega, by omega, by omega, by unfold cgcd; show ((Nat.gcd m.natAbs 1 : Nat) : Int) = 1; rw [Nat.gcd_one_right]; rfl⟩
theorem okF_inv {m : Int} (h1 : 1 ≤ m) (h2 : m ≤ 1000000000000000) : okF (1, m) := by
  unfold okF
  exact validB_iff.2 ⟨h1, h2, by omega, by unfold cgcd; show ((Nat.gcd 1 m.natAbs : Nat) : Int) = 1; rw [Nat.gcd_one_left]; rfl⟩
theorem divO_some {a : Fr} {k : Int} (ha : okF a) (hk : 1 ≤ k) (hkb : k ≤ 1000000000000000) {p m : Int} (hm : 1 ≤ m) (hmb : m ≤ 1000000000000000) (hp : 0 ≤ p) (hpb : p ≤ 1000000000000000) (e : a.1 * m = p * (a.2 * k)) : ∃ c, divO a (k, 1) = some c := by
  obtain ⟨c, hc⟩ := mulO_some ha (okF_inv hk hkb) hm hmb hp hpb (by show a.1 * 1 * m = p * (a.2 * k); rw [Int.mul_one]; exact e)
  have hv : (validB k 1 && k != 0) = true := by
    have : validB k 1 = true := okF_int (by omega) hkb
    rw [this, Bool.true_and]; exact bne_iff_ne.2 (by omega)
  refine ⟨c, ?_⟩
  have hd : divS a.1 a.2 k 1 = mulS a.1 a.2 1 k := by unfold divS; rw [if_pos hv, if_neg (by omega)]
  unfold divO
  dsimp only
  rw [hd]
  unfold mulO at hc
  exact hc
theorem sub_some {damp : Fr} (h : dampB damp = true) : ∃ s, subO (1, 1) damp = some s := by
  have hv := (damp_q h).1
  unfold dampB at h
  rw [Bool.and_eq_true, Bool.and_eq_true] at h
  have h1 := of_decide_eq_true h.1.2
  have h2 := of_decide_eq_true h.2
  have hb := (validB_iff.1 hv)
  have hn : okF (-damp.1, damp.2) := by unfold okF; rw [validB_neg]; exact hv
  obtain ⟨c, hc⟩ := addO_some (a := (1, 1)) (b := (-damp.1, damp.2)) (okF_int (by decide) (by decide)) hn (p := damp.2 - damp.1) (m := damp.2) hb.1 hb.2.1 (by omega) (by omega) (by
    show (1 * damp.2 + -damp.1 * 1) * damp.2 = (damp.2 - damp.1) * (1 * damp.2)
    rw [Int.one_mul, Int.mul_one]; rfl)
  exact ⟨c, hc⟩
theorem start_good {g : GraphG} {damp : Fr} (hc : chkG g = 0) (hd : dampB damp = true) (hn : g.nodes.length ≠ 0) : Good g damp (startR g) := by
  obtain ⟨-, hd0, hd1⟩ := damp_q hd
  have hlen := (chkG_len hc).1
  rw [startR_ok hc]
  have hq : ∀ x : NodeG, qs ⟨x.id, 1, (g.nodes.length : Int)⟩ = 1 / ((g.nodes.length : Int) : Rat) := fun x => by unfold qs qv; rfl
  have hne := int_ne (show (1 : Int) ≤ (g.nodes.length : Int) by omega)
  refine ⟨fitsB_iff.2 ⟨by rw [List.length_map], fun k hk => ?_⟩, ?_, fun x hx => ?_⟩
  · rw [List.length_map] at hk
    rw [getElem!_pos _ k (by rw [List.length_map]; exact hk), List.getElem_map, getElem!_pos g.nodes k hk]
    exact ⟨rfl, okF_inv (m := (g.nodes.length : Int)) (by omega) (by omega)⟩
  · rw [sQ_map, sQ_congr (fun x _ => hq x), sQ_const]; grind
  · obtain ⟨y, -, rfl⟩ := List.mem_map.1 hx
    rw [hq, List.length_map, Rat.div_def, Rat.div_def]
    exact Rat.mul_le_mul_of_nonneg_right (by grind) (inv_nonneg_ (nat_nonneg _))
theorem run_good {g : GraphG} {types : List ByteArray} {damp : Fr} (hc : chkG g = 0) (hd : dampB damp = true) (hn : g.nodes.length ≠ 0) : ∀ (k : Nat) (L : List Sh), runK g types damp k = (L, 0) → Good g damp L
  | 0, L, h => by
    rw [runK] at h
    rw [← (Prod.mk.inj h).1]
    exact start_good hc hd hn
  | k + 1, L, h => by
    rw [runK] at h
    split at h
    · rename_i h0
      generalize hM : runK g types damp k = P at *
      obtain ⟨M, z⟩ := P
      dsimp only at h0 h
      subst h0
      have hg := run_good hc hd hn k M hM
      have hl : M.length ≠ 0 := by have := (fitsB_iff.1 hg.fits).1; omega
      rw [stepP_on hc (by rw [hd, hg.fits]; rfl) hl] at h
      cases hs : stepR types g.edges damp M (g.nodes.length : Int) with
      | none => rw [hs] at h; cases h
      | some O =>
        rw [hs] at h
        rw [← (Prod.mk.inj h).1]
        exact step_good hc hd hg hl hs
    · rename_i h0
      rw [h] at h0
      exact absurd rfl h0
theorem tot_aux : ∀ (l : List Sh) (a t : Fr), okF a → l.foldl totStep (some a) = some t → okF t ∧ qv t = qv a + sQ qs l
  | [], a, t, ha, h => by
    injection h with h
    subst h
    exact ⟨ha, by rw [sQ]; grind⟩
  | x :: l, a, t, ha, h => by
    rw [List.foldl_cons] at h
    unfold totStep at h
    rw [Option.bind_some] at h
    cases h1 : addO a (x.n, x.d) with
    | none =>
      rw [h1] at h
      have : ∀ l' : List Sh, l'.foldl totStep none = none := fun l' => by
        induction l' with
        | nil => rfl
        | cons x r ih => rw [List.foldl_cons]; exact ih
      have h2 := this l
      unfold totStep at h2
      rw [h2] at h; cases h
    | some b =>
      rw [h1] at h
      obtain ⟨-, -, k3, k4⟩ := addO_ok h1
      obtain ⟨j1, j2⟩ := tot_aux l b t k3 h
      refine ⟨j1, ?_⟩
      rw [j2, k4, sQ]
      unfold qs
      grind
theorem one_of {t : Fr} (h : okF t) (e : qv t = 1) : t = (1, 1) := by
  have h1 := int_ne h.pos
  have h2 : (t.1 : Rat) = (t.2 : Rat) := by unfold qv at e; grind
  have h3 := Rat.intCast_inj.1 h2
  obtain ⟨e1, e2⟩ := low_unique (low_of_valid h) (show Low 1 1 from ⟨by decide, by decide⟩) (by rw [h3]; omega)
  exact Prod.ext e1 e2
theorem good_tot {g : GraphG} {damp : Fr} {L : List Sh} (h : Good g damp L) : (totV L).2.2 = true → totV L = (1, 1, true) := fun h1 => by
  unfold totV at h1 ⊢
  cases ht : totO L with
  | none => rw [ht] at h1; cases h1
  | some t =>
    obtain ⟨k1, k2⟩ := tot_aux L (0, 1) t okF_zero ht
    rw [qv_zero, h.sum] at k2
    have := one_of k1 (by rw [k2]; grind)
    rw [this]
theorem cmp_ge {f b : Fr} (hf : okF f) (hb : okF b) (h : qv b ≤ qv f) : ¬ cmpS f.1 f.2 b.1 b.2 < 0 := by
  rw [cmp_valid hf hb, sgn_lt]
  have h1 := int_pos hf.pos
  have h2 := int_pos hb.pos
  have h3 : (b.1 : Rat) * (f.2 : Rat) ≤ (f.1 : Rat) * (b.2 : Rat) := by
    unfold qv at h
    have h4 := Rat.mul_le_mul_of_nonneg_right h (show (0 : Rat) ≤ (f.2 : Rat) * (b.2 : Rat) from Rat.mul_nonneg (by grind) (by grind))
    have h5 := int_ne hf.pos
    have h6 := int_ne hb.pos
    have e1 : (b.1 : Rat) / (b.2 : Rat) * ((f.2 : Rat) * (b.2 : Rat)) = (b.1 : Rat) * (f.2 : Rat) := by grind
    have e2 : (f.1 : Rat) / (f.2 : Rat) * ((f.2 : Rat) * (b.2 : Rat)) = (f.1 : Rat) * (b.2 : Rat) := by grind
    rwa [e1, e2] at h4
  rw [← Rat.intCast_mul, ← Rat.intCast_mul, Rat.intCast_le_intCast] at h3
  omega
/-- what the law RankTotal tells of the base -/
theorem good_base {g : GraphG} {damp s b : Fr} {L : List Sh} (h : Good g damp L) (hs : subO (1, 1) damp = some s) (hb : divO s ((L.length : Int), 1) = some b) {i : Nat} (hi : i < L.length) : ¬ cmpS L[i]!.n L[i]!.d b.1 b.2 < 0 := by
  obtain ⟨-, -, -, s4⟩ := subO_ok hs
  obtain ⟨-, -, b3, b4⟩ := divO_ok (by omega) hb
  rw [getElem!_pos L i hi]
  have hx : L[i] ∈ L := List.getElem_mem hi
  refine cmp_ge (f := (L[i].n, L[i].d)) (fits_ok h.fits _ hx) b3 ?_
  rw [b4, s4, qv_one]
  exact h.low _ hx
end Go.Proofs.YtlkpmbkmmfoakaaDoor

/- PLAIN LAW: shares stay even after a step with damp 0, and in a graph without edges. -/
namespace Go.Proofs.YtlkpmbkmmfoakaaDoor
open Go.RowKit
/-! no overflow -/
theorem cross_of {N D p m : Int} (hD : 1 ≤ D) (hm : 1 ≤ m) (h : (N : Rat) / (D : Rat) = (p : Rat) / (m : Rat)) : N * m = p * D := by
  have h1 := int_ne hD
  have h2 := int_ne hm
  have h3 : (N : Rat) * (m : Rat) = (p : Rat) * (D : Rat) := by grind
  rw [← Rat.intCast_mul, ← Rat.intCast_mul] at h3
  exact Rat.intCast_inj.1 h3
def bigB : Int := 1000000000000000
theorem add_den {a b : Fr} (ha : okF a) (hb : okF b) {p m : Int} (h : qv a + qv b = (p : Rat) / (m : Rat)) (hm : 1 ≤ m) (hmb : m ≤ bigB) (hp : 0 ≤ p) (hpb : p ≤ bigB) : ∃ c, addO a b = some c ∧ okF c ∧ qv c = (p : Rat) / (m : Rat) := by
  have h1 := int_ne ha.pos
  have h2 := int_ne hb.pos
  obtain ⟨c, hc⟩ := addO_some ha hb hm hmb hp hpb (cross_of (pos_mul ha.pos hb.pos) hm (by
    rw [← h]; unfold qv; simp only [Rat.intCast_add, Rat.intCast_mul]; grind))
  obtain ⟨-, -, k3, k4⟩ := addO_ok hc
  exact ⟨c, hc, k3, by rw [k4, h]⟩
theorem mul_den {a b : Fr} (ha : okF a) (hb : okF b) {p m : Int} (h : qv a * qv b = (p : Rat) / (m : Rat)) (hm : 1 ≤ m) (hmb : m ≤ bigB) (hp : 0 ≤ p) (hpb : p ≤ bigB) : ∃ c, mulO a b = some c ∧ okF c ∧ qv c = (p : Rat) / (m : Rat) := by
  have h1 := int_ne ha.pos
  have h2 := int_ne hb.pos
  obtain ⟨c, hc⟩ := mulO_some ha hb hm hmb hp hpb (cross_of (pos_mul ha.pos hb.pos) hm (by
    rw [← h]; unfold qv; simp only [Rat.intCast_mul]; grind))
  obtain ⟨-, -, k3, k4⟩ := mulO_ok hc
  exact ⟨c, hc, k3, by rw [k4, h]⟩
theorem div_den {a : Fr} (ha : okF a) {k p m : Int} (hk : 1 ≤ k) (hkb : k ≤ bigB) (h : qv a / (k : Rat) = (p : Rat) / (m : Rat)) (hm : 1 ≤ m) (hmb : m ≤ bigB) (hp : 0 ≤ p) (hpb : p ≤ bigB) : ∃ c, divO a (k, 1) = some c ∧ okF c ∧ qv c = (p : Rat) / (m : Rat) := by
  have h1 := int_ne ha.pos
  have h2 := int_ne hk
  obtain ⟨c, hc⟩ := divO_some ha hk hkb hm hmb hp hpb (cross_of (pos_mul ha.pos hk) hm (by
    rw [← h]; unfold qv; simp only [Rat.intCast_mul]; grind))
  obtain ⟨-, -, k3, k4⟩ := divO_ok (by omega) hc
  exact ⟨c, hc, k3, by rw [k4, h]⟩
theorem q_inj {a b : Fr} (ha : okF a) (hb : okF b) (h : qv a = qv b) : a = b := by
  have h1 := cross_of ha.pos hb.pos h
  obtain ⟨e1, e2⟩ := low_unique (low_of_valid ha) (low_of_valid hb) h1
  exact Prod.ext e1 e2
/-! the product of the degrees -/
section
variable {types : List ByteArray} {E : List EdgeG}
def prodN (d : Int → Nat) : List Sh → Nat
  | [] => 1
  | x :: l => max 1 (d x.id) * prodN d l
def sumN (d : Int → Nat) : List Sh → Nat
  | [] => 0
  | x :: l => d x.id + sumN d l
theorem prodN_pos (d : Int → Nat) : ∀ l, 1 ≤ prodN d l
  | [] => Nat.le_refl _
  | x :: l => by rw [prodN]; exact Nat.mul_pos (by omega) (prodN_pos d l)
theorem prodN_dvd (d : Int → Nat) : ∀ {l : List Sh} {x : Sh}, x ∈ l → max 1 (d x.id) ∣ prodN d l
  | y :: l, x, h => by
    rw [prodN]
    rcases List.mem_cons.1 h with e | e
    · subst e; exact Nat.dvd_mul_right _ _
    · exact Nat.dvd_trans (prodN_dvd d e) (Nat.dvd_mul_left _ _)
theorem cube_le : ∀ d : Nat, (max 1 d) ^ 3 ≤ 3 ^ d
  | 0 => by decide
  | 1 => by decide
  | 2 => by decide
  | 3 => by decide
  | d + 4 => by
    have h := cube_le (d + 3)
    rw [show max 1 (d + 3) = d + 3 by omega] at h
    rw [show max 1 (d + 4) = d + 4 by omega, Nat.pow_succ 3 (d + 3)]
    have h2 : (d + 4) ^ 3 ≤ (d + 3) ^ 3 * 3 := by
      have e1 : (d + 4) ^ 3 = d * d * d + 12 * (d * d) + 48 * d + 64 := by grind
      have e2 : (d + 3) ^ 3 = d * d * d + 9 * (d * d) + 27 * d + 27 := by grind
      rw [e1, e2]
      generalize d * d * d = u
      generalize d * d = v
      omega
    exact Nat.le_trans h2 (Nat.mul_le_mul_right _ h)
theorem prodN_cube (d : Int → Nat) : ∀ l, (prodN d l) ^ 3 ≤ 3 ^ (sumN d l)
  | [] => Nat.le_refl 1
  | x :: l => by
    rw [prodN, sumN, Nat.mul_pow, Nat.pow_add]
    exact Nat.mul_le_mul (cube_le _) (prodN_cube d l)
theorem sumN_add (d e : Int → Nat) : ∀ l, sumN (fun i => d i + e i) l = sumN d l + sumN e l
  | [] => rfl
  | x :: l => by rw [sumN, sumN, sumN, sumN_add d e l]; omega
theorem sumN_congr {d e : Int → Nat} (h : ∀ i, d i = e i) : ∀ l, sumN d l = sumN e l
  | [] => rfl
  | x :: l => by rw [sumN, sumN, h, sumN_congr h l]
theorem sumN_zero {d : Int → Nat} : ∀ {l : List Sh}, (∀ x ∈ l, d x.id = 0) → sumN d l = 0
  | [], _ => rfl
  | x :: l, h => by rw [sumN, h x (by simp), sumN_zero (fun y hy => h y (by simp [hy]))]
theorem sumN_one {i : Int} {b : Bool} : ∀ {l : List Sh}, l.Pairwise (fun a b => a.id ≠ b.id) → sumN (fun j => if i = j ∧ b = true then 1 else 0) l ≤ 1
  | [], _ => by rw [sumN]; omega
  | x :: l, h => by
    have hp := List.pairwise_cons.1 h
    rw [sumN]
    by_cases hx : i = x.id ∧ b = true
    · rw [if_pos hx, sumN_zero (fun y hy => if_neg (fun hh => hp.1 y hy (hx.1.symm.trans hh.1)))]
      omega
    · rw [if_neg hx]
      have := sumN_one (i := i) (b := b) hp.2
      omega
theorem deg_le {l : List Sh} (h : l.Pairwise (fun a b => a.id ≠ b.id)) : ∀ E : List EdgeG, sumN (fun i => degN types E i) l ≤ E.length
  | [] => by rw [sumN_zero (fun _ _ => rfl)]; exact Nat.zero_le _
  | e :: E => by
    have h1 : ∀ i, degN types (e :: E) i = degN types E i + (if e.frm = i ∧ typB types e.typ = true then 1 else 0) := fun i => by
      unfold degN
      rw [List.filter_cons]
      by_cases h : e.frm = i ∧ typB types e.typ = true
      · rw [if_pos h, if_pos (by simp [h.1, h.2]), List.length_cons]
      · rw [if_neg h, if_neg (by simpa using fun h1 h2 => h ⟨h1, h2⟩)]; rfl
    rw [sumN_congr h1, sumN_add, List.length_cons]
    have h2 : sumN (degN types E) l ≤ E.length := deg_le h E
    have h3 := sumN_one (i := e.frm) (b := typB types e.typ) h
    omega
theorem prod_le {l : List Sh} (h : l.Pairwise (fun a b => a.id ≠ b.id)) (hE : E.length ≤ 60) : prodN (fun i => degN types E i) l ≤ 3486784401 := by
  have h1 := prodN_cube (fun i => degN types E i) l
  have h2 : 3 ^ (sumN (fun i => degN types E i) l) ≤ 3 ^ 60 := Nat.pow_le_pow_right (by omega) (Nat.le_trans (deg_le h E) hE)
  have h3 := Nat.le_trans h1 h2
  rcases Nat.lt_or_ge 3486784401 (prodN (fun i => degN types E i) l) with h4 | h4
  · have h5 : 3486784402 ^ 3 ≤ (prodN (fun i => degN types E i) l) ^ 3 := Nat.pow_le_pow_left h4 3
    have h6 := Nat.le_trans h5 h3
    exact absurd h6 (by decide)
  · exact h4
theorem deg_pos {e : EdgeG} (he : e ∈ E) (ht : typB types e.typ = true) : 1 ≤ degN types E e.frm := by
  unfold degN
  refine List.length_pos_of_mem (a := e) (List.mem_filter.2 ⟨he, ?_⟩)
  rw [ht, Bool.and_true]; exact decide_eq_true rfl
end
/-! a step from even shares -/
theorem shareOf_even {l : List Sh} {n : Int} (hl : ∀ x ∈ l, x.n = 1 ∧ x.d = n) {i : Int} (hi : ∃ x ∈ l, x.id = i) : shareOf l i = (1, n) := by
  unfold shareOf
  cases h : l.find? (fun s => decide (s.id = i)) with
  | none =>
    obtain ⟨x, hx, e⟩ := hi
    have := List.find?_eq_none.1 h x hx
    exact absurd (decide_eq_true e) this
  | some s =>
    have hs := List.mem_of_find?_eq_some h
    obtain ⟨e1, e2⟩ := hl s hs
    show (s.n, s.d) = (1, n)
    rw [e1, e2]
theorem q_inv {n : Int} : qv (1, n) = ((1 : Int) : Rat) / (n : Rat) := rfl
section
variable {types : List ByteArray} {E : List EdgeG} {l : List Sh} {n : Nat}
theorem rest_even (hn : 1 ≤ n) (hnb : n ≤ 30) (d : Int → Nat) : ∀ (l : List Sh) (a : Fr) (t : Int), (∀ x ∈ l, x.n = 1 ∧ x.d = (n : Int)) → okF a → qv a = (t : Rat) / ((n : Int) : Rat) → 0 ≤ t → t + l.length ≤ 60 → ∃ (s : Fr) (t' : Int), l.foldl (restStep d) (some a) = some s ∧ okF s ∧ qv s = (t' : Rat) / ((n : Int) : Rat) ∧ 0 ≤ t' ∧ t' ≤ t + l.length
  | [], a, t, _, ha, hq, h0, hb => ⟨a, t, rfl, ha, hq, h0, by simp⟩
  | x :: l, a, t, hl, ha, hq, h0, hb => by
    rw [List.foldl_cons]
    unfold restStep
    have hb' : t + l.length + 1 ≤ 60 := by rw [List.length_cons] at hb; omega
    have hbn : ((x :: l).length : Int) = l.length + 1 := by rw [List.length_cons]; omega
    by_cases h : d x.id = 0
    · obtain ⟨e1, e2⟩ := hl x (by simp)
      rw [if_pos h, Option.bind_some, e1, e2]
      have hne := int_ne (show (1 : Int) ≤ (n : Int) by omega)
      obtain ⟨c, hc, k1, k2⟩ := add_den (a := a) (b := (1, (n : Int))) ha (okF_inv (by omega) (by omega)) (p := t + 1) (m := (n : Int)) (by
        rw [hq, q_inv, Rat.intCast_add]; grind) (by omega) (by unfold bigB; omega) (by omega) (by unfold bigB; omega)
      rw [hc]
      obtain ⟨s, t', j1, j2, j3, j4, j5⟩ := rest_even hn hnb d l c (t + 1) (fun y hy => hl y (by simp [hy])) k1 k2 (by omega) (by omega)
      exact ⟨s, t', j1, j2, j3, j4, by omega⟩
    · rw [if_neg h]
      obtain ⟨s, t', j1, j2, j3, j4, j5⟩ := rest_even hn hnb d l a t (fun y hy => hl y (by simp [hy])) ha hq h0 (by omega)
      exact ⟨s, t', j1, j2, j3, j4, by omega⟩
theorem in_even (hn : 1 ≤ n) (hnb : n ≤ 30) {P : Nat} (hP : 1 ≤ P) (hPb : P ≤ 3486784401) {d : Int → Nat} (id : Int) : ∀ (E : List EdgeG) (a : Fr) (t : Int), (∀ e ∈ E, typB types e.typ = true → shareOf l e.frm = (1, (n : Int)) ∧ 1 ≤ d e.frm ∧ d e.frm ≤ 60 ∧ d e.frm ∣ P) → okF a → qv a = (t : Rat) / (((n * P : Nat) : Int) : Rat) → 0 ≤ t → t + E.length * P ≤ 60 * P →
    ∃ (s : Fr) (t' : Int), E.foldl (inStep types d l id) (some a) = some s ∧ okF s ∧ qv s = (t' : Rat) / (((n * P : Nat) : Int) : Rat) ∧ 0 ≤ t' ∧ t' ≤ t + E.length * P
  | [], a, t, _, ha, hq, h0, hb => ⟨a, t, rfl, ha, hq, h0, by simp⟩
  | e :: E, a, t, hE, ha, hq, h0, hb => by
    rw [List.foldl_cons]
    unfold inStep
    have hbn : ((e :: E).length : Int) * P = E.length * P + P := by rw [List.length_cons, Int.natCast_add, Int.add_mul]; omega
    have hM : (1 : Int) ≤ ((n * P : Nat) : Int) := by have := Nat.mul_pos (show 0 < n by omega) (show 0 < P by omega); omega
    have hMb : ((n * P : Nat) : Int) ≤ bigB := by
      have h1 : n * P ≤ 30 * 3486784401 := Nat.mul_le_mul hnb hPb
      unfold bigB; omega
    have hEP : (0 : Int) ≤ (E.length : Int) * P := Int.mul_nonneg (by omega) (by omega)
    by_cases h : e.to_ = id ∧ typB types e.typ = true
    · obtain ⟨e1, e2, e3, c, e4⟩ := hE e (by simp) h.2
      rw [if_pos h, Option.bind_some, e1]
      have hne := int_ne (show (1 : Int) ≤ (n : Int) by omega)
      have hde := int_ne (show (1 : Int) ≤ (d e.frm : Int) by omega)
      have hnd : n * d e.frm ≤ 30 * 60 := Nat.mul_le_mul hnb e3
      have hnd1 : 1 ≤ n * d e.frm := Nat.mul_pos (by omega) (by omega)
      obtain ⟨q, hq1, hq2, hq3⟩ := div_den (a := (1, (n : Int))) (okF_inv (by omega) (by omega)) (k := (d e.frm : Int)) (p := 1) (m := ((n * d e.frm : Nat) : Int)) (by omega) (by unfold bigB; omega) (by
        rw [q_inv, Int.natCast_mul, Rat.intCast_mul]; grind) (by omega) (by unfold bigB; omega) (by omega) (by unfold bigB; omega)
      rw [hq1, Option.bind_some]
      have hc : c ≤ P := by
        rw [e4]; exact Nat.le_mul_of_pos_left _ (by omega)
      have hMn := int_ne hM
      obtain ⟨b, hb1, hb2, hb3⟩ := add_den ha hq2 (p := t + c) (m := ((n * P : Nat) : Int)) (by
        rw [hq, hq3, e4]
        have hcn : ((c : Int) : Rat) = ((c : Int) : Rat) := rfl
        have hc1 : (1 : Int) ≤ (c : Int) := by
          rcases Nat.eq_zero_or_pos c with h0 | h0
          · rw [h0] at e4; omega
          · omega
        have hc2 := int_ne hc1
        simp only [Int.natCast_mul, Rat.intCast_mul, Rat.intCast_add]
        have h1 : ((1 : Int) : Rat) = 1 := rfl
        rw [h1]
        grind) hM hMb (by omega) (by unfold bigB; omega)
      rw [hb1]
      obtain ⟨s, t', j1, j2, j3, j4, j5⟩ := in_even hn hnb hP hPb id E b (t + c) (fun y hy => hE y (by simp [hy])) hb2 hb3 (by omega) (by omega)
      exact ⟨s, t', j1, j2, j3, j4, by omega⟩
    · rw [if_neg h]
      obtain ⟨s, t', j1, j2, j3, j4, j5⟩ := in_even hn hnb hP hPb id E a t (fun y hy => hE y (by simp [hy])) ha hq h0 (by omega)
      exact ⟨s, t', j1, j2, j3, j4, by omega⟩
end
end Go.Proofs.YtlkpmbkmmfoakaaDoor

/- PLAIN LAW: even shares stay even. -/
namespace Go.Proofs.YtlkpmbkmmfoakaaDoor
open Go.RowKit
theorem outs_some {f : Sh → Option Sh} : ∀ (l A : List Sh), (∀ x ∈ l, ∃ y, f x = some y) → ∃ O, l.foldl (outsStep f) (some A) = some O
  | [], A, _ => ⟨A, rfl⟩
  | x :: l, A, h => by
    obtain ⟨y, hy⟩ := h x (by simp)
    rw [List.foldl_cons]
    unfold outsStep
    rw [Option.bind_some, hy, Option.map_some]
    exact outs_some l _ (fun z hz => h z (by simp [hz]))
section
variable {g : GraphG} {types : List ByteArray}
theorem start_all (hc : chkG g = 0) : ∀ x ∈ startR g, x.n = 1 ∧ x.d = (g.nodes.length : Int) := fun x hx => by
  rw [startR_ok hc] at hx
  obtain ⟨y, -, rfl⟩ := List.mem_map.1 hx
  exact ⟨rfl, rfl⟩
theorem start_len (hc : chkG g = 0) : (startR g).length = g.nodes.length := by rw [startR_ok hc, List.length_map]
theorem damp0 : dampB (0, 1) = true := by decide
theorem same_of {l O : List Sh} {n : Int} (hn : 1 ≤ n) (hnb : n ≤ 1000000000000000) (hl : ∀ x ∈ l, x.n = 1 ∧ x.d = n) (hlen : O.length = l.length) (h : ∀ k (hk : k < l.length) (hk' : k < O.length), O[k].id = l[k].id ∧ okS O[k] ∧ qs O[k] = 1 / (n : Rat)) : O = l := by
  refine List.ext_getElem hlen (fun k hk' hk => ?_)
  obtain ⟨h1, h2, h3⟩ := h k hk hk'
  obtain ⟨e1, e2⟩ := hl _ (List.getElem_mem hk)
  have h4 : ((O[k].n, O[k].d) : Fr) = (1, n) := q_inj h2 (okF_inv hn hnb) (by rw [q_inv]; exact h3)
  have h5 := Prod.mk.inj h4
  exact Sh.ext' h1 (by rw [h5.1, e1]) (by rw [h5.2, e2])
theorem even_some (hc : chkG g = 0) (hn : 1 ≤ g.nodes.length) (hnb : g.nodes.length ≤ 30) (he : g.edges.length ≤ 60) : ∃ O, stepR types g.edges (0, 1) (startR g) (g.nodes.length : Int) = some O := by
  have hgood := start_good (damp := (0, 1)) hc damp0 (show g.nodes.length ≠ 0 by omega)
  have hdi := dist_of hc hgood.fits
  have hall := start_all hc
  have hlen := start_len hc
  have hE : ∀ e ∈ g.edges, ∃ x ∈ startR g, x.id = e.frm := fun e he => by
    obtain ⟨k, hk, rfl⟩ := List.getElem_of_mem he
    obtain ⟨⟨j, hj, e1⟩, -⟩ := ends_of hc hgood.fits hk
    rw [getElem!_pos g.edges k hk] at e1
    rw [getElem!_pos (startR g) j hj] at e1
    exact ⟨_, List.getElem_mem hj, e1⟩
  generalize hlg : startR g = l at *
  obtain ⟨n, hnn⟩ : ∃ n, n = g.nodes.length := ⟨_, rfl⟩
  rw [← hnn] at hn hnb hall hlen ⊢
  have hnq := int_ne (show (1 : Int) ≤ (n : Int) by omega)
  obtain ⟨P, hP⟩ : ∃ P, P = prodN (fun i => degN types g.edges i) l := ⟨_, rfl⟩
  have hP1 : 1 ≤ P := by rw [hP]; exact prodN_pos _ _
  have hPb : P ≤ 3486784401 := by rw [hP]; exact prod_le hdi.pair he
  obtain ⟨s, t, hs1, hs2, hs3, hs4, hs5⟩ := rest_even hn hnb (fun i => degN types g.edges i) l (0, 1) 0 hall okF_zero (by rw [qv_zero]; have : ((0 : Int) : Rat) = 0 := rfl; rw [this]; grind) (by omega) (by omega)
  have hnn9 : n * n ≤ 30 * 30 := Nat.mul_le_mul hnb hnb
  have hnn1 : 1 ≤ n * n := Nat.mul_pos (by omega) (by omega)
  obtain ⟨r, hr1, hr2, hr3⟩ := div_den hs2 (k := (n : Int)) (p := t) (m := ((n * n : Nat) : Int)) (by omega) (by unfold bigB; omega) (by
    rw [hs3, Int.natCast_mul, Rat.intCast_mul]; grind) (by omega) (by unfold bigB; omega) hs4 (by unfold bigB; omega)
  have hrV : restV (fun i => degN types g.edges i) l (n : Int) = some r := by unfold restV restO; rw [hs1, Option.bind_some]; exact hr1
  obtain ⟨sb, hsb⟩ := sub_some damp0
  obtain ⟨-, -, sb3, sb4⟩ := subO_ok hsb
  rw [qv_one, qv_zero] at sb4
  obtain ⟨b, hb1, hb2, hb3⟩ := div_den sb3 (k := (l.length : Int)) (p := 1) (m := (n : Int)) (by omega) (by unfold bigB; omega) (by
    rw [sb4, hlen]
    have h1 : ((1 : Int) : Rat) = 1 := rfl
    rw [h1]; grind) (by omega) (by unfold bigB; omega) (by omega) (by unfold bigB; omega)
  unfold stepR
  rw [hrV, Option.bind_some, hsb, Option.bind_some, hb1, Option.bind_some]
  refine outs_some l [] (fun x hx => ?_)
  have hterm : ∀ e ∈ g.edges, typB types e.typ = true → shareOf l e.frm = (1, (n : Int)) ∧ 1 ≤ degN types g.edges e.frm ∧ degN types g.edges e.frm ≤ 60 ∧ degN types g.edges e.frm ∣ P := fun e he' ht => by
    have h1 := deg_pos (types := types) he' ht
    refine ⟨shareOf_even hall (hE e he'), h1, Nat.le_trans (degN_le _ _ _) he, ?_⟩
    obtain ⟨y, hy, hye⟩ := hE e he'
    have h2 := prodN_dvd (fun i => degN types g.edges i) hy
    rw [← hP, show max 1 (degN types g.edges y.id) = degN types g.edges e.frm by rw [hye]; omega] at h2
    exact h2
  have hEP : g.edges.length * P ≤ 60 * P := Nat.mul_le_mul_right _ he
  obtain ⟨xv, t2, hx1, hx2, hx3, hx4, hx5⟩ := in_even (l := l) hn hnb hP1 hPb x.id g.edges (0, 1) 0 hterm okF_zero (by rw [qv_zero]; have : ((0 : Int) : Rat) = 0 := rfl; rw [this]; grind) (by omega) (by omega)
  have hxi : inO types (fun i => degN types g.edges i) l g.edges x.id = some xv := hx1
  have hnP : n * P ≤ 30 * 3486784401 := Nat.mul_le_mul hnb hPb
  have hnP1 : 1 ≤ n * P := Nat.mul_pos (by omega) (by omega)
  have hnnP : n * (n * P) ≤ 30 * (30 * 3486784401) := Nat.mul_le_mul hnb hnP
  have hnnP1 : 1 ≤ n * (n * P) := Nat.mul_pos (by omega) (by omega)
  have hMq := int_ne (show (1 : Int) ≤ ((n * P : Nat) : Int) by omega)
  have hPq := int_ne (show (1 : Int) ≤ (P : Int) by omega)
  have ht2b : t2 ≤ 60 * 3486784401 := by
    have : (g.edges.length : Int) * P ≤ 60 * P := by exact_mod_cast hEP
    omega
  have ht2n : t2 * n ≤ 60 * 3486784401 * 30 := by
    have h1 : t2 * (n : Int) ≤ t2 * 30 := Int.mul_le_mul_of_nonneg_left (by omega) hx4
    omega
  have htP : t * P ≤ 30 * 3486784401 := by
    have h1 : t * (P : Int) ≤ t * 3486784401 := Int.mul_le_mul_of_nonneg_left (by omega) hs4
    omega
  have h0a : 0 ≤ t2 * (n : Int) := Int.mul_nonneg hx4 (by omega)
  have h0b : 0 ≤ t * (P : Int) := Int.mul_nonneg hs4 (by omega)
  obtain ⟨y, hy1, hy2, hy3⟩ := add_den hx2 hr2 (p := t2 * n + t * P) (m := ((n * (n * P) : Nat) : Int)) (by
    rw [hx3, hr3]
    simp only [Int.natCast_mul, Rat.intCast_mul, Rat.intCast_add]
    simp only [Int.natCast_mul, Rat.intCast_mul] at hMq
    grind) (by omega) (by unfold bigB; omega) (by omega) (by unfold bigB; omega)
  obtain ⟨z, hz1, hz2, hz3⟩ := mul_den (a := (0, 1)) okF_zero hy2 (p := 0) (m := 1) (by
    rw [qv_zero]
    have h1 : ((0 : Int) : Rat) = 0 := rfl
    rw [h1]; grind) (by omega) (by unfold bigB; omega) (by omega) (by unfold bigB; omega)
  obtain ⟨f, hf1, -, -⟩ := add_den hb2 hz2 (p := 1) (m := (n : Int)) (by
    rw [hb3, hz3]
    have h1 : ((0 : Int) : Rat) = 0 := rfl
    rw [h1]; grind) (by omega) (by unfold bigB; omega) (by omega) (by unfold bigB; omega)
  refine ⟨⟨x.id, f.1, f.2⟩, ?_⟩
  unfold outF
  rw [hxi, Option.bind_some, hy1, Option.bind_some, hz1, Option.bind_some, hf1]; rfl
theorem even_step (hc : chkG g = 0) (hn : 1 ≤ g.nodes.length) (hnb : g.nodes.length ≤ 30) (he : g.edges.length ≤ 60) : stepP g types (0, 1) (startR g) = (startR g, 0) := by
  have hgood := start_good (damp := (0, 1)) hc damp0 (show g.nodes.length ≠ 0 by omega)
  have hlen := start_len hc
  obtain ⟨O, hO⟩ := even_some (types := types) hc hn hnb he
  rw [stepP_on hc (by rw [damp0, hgood.fits]; rfl) (by omega), hO]
  obtain ⟨h1, h2⟩ := step_vals hgood.fits hO
  have hnq := int_ne (show (1 : Int) ≤ (g.nodes.length : Int) by omega)
  rw [same_of (n := (g.nodes.length : Int)) (by omega) (by omega) (start_all hc) h1 (fun k hk hk' => by
    obtain ⟨a, b, c⟩ := h2 k hk hk'
    refine ⟨a, b, ?_⟩
    rw [c, qv_zero, hlen]; grind)]
theorem even_run (hc : chkG g = 0) (hn : 1 ≤ g.nodes.length) (hnb : g.nodes.length ≤ 30) (he : g.edges.length ≤ 60) : runP g types (0, 1) 2 = (startR g, 0) := by
  rw [runP_on hc (by decide) (by decide) damp0]
  show runK g types (0, 1) 2 = _
  have h1 : runK g types (0, 1) 1 = (startR g, 0) := by rw [runK_next (i := 0) (L := startR g) rfl]; exact even_step hc hn hnb he
  rw [runK_next h1]; exact even_step hc hn hnb he
theorem even_free {damp : Fr} (hc : chkG g = 0) (hd : dampB damp = true) (hn : 1 ≤ g.nodes.length) (hnb : g.nodes.length ≤ 30) : stepP (lessG g (fun _ => false)) types damp (startR g) = (startR g, 0) ∨ stepP (lessG g (fun _ => false)) types damp (startR g) = ([], 24) := by
  have hc' := chk_less (p := fun _ => false) hc
  have hst := start_less (p := fun _ => false) hc
  have hgood := start_good (damp := damp) hc' hd (show (lessG g (fun _ => false)).nodes.length ≠ 0 by show g.nodes.length ≠ 0; omega)
  rw [hst] at hgood
  have hlen := start_len hc
  have hE : (lessG g (fun _ => false)).edges = [] := List.filter_eq_nil_iff.2 (fun _ _ h => by cases h)
  rw [stepP_on hc' (by rw [hd, hgood.fits]; rfl) (by omega)]
  cases hO : stepR types (lessG g (fun _ => false)).edges damp (startR g) ((lessG g (fun _ => false)).nodes.length : Int) with
  | none => exact .inr rfl
  | some O =>
    left
    obtain ⟨h1, h2⟩ := step_vals hgood.fits hO
    have hnq := int_ne (show (1 : Int) ≤ (g.nodes.length : Int) by omega)
    rw [same_of (n := (g.nodes.length : Int)) (by omega) (by omega) (start_all hc) h1 (fun k hk hk' => by
      obtain ⟨a, b, c⟩ := h2 k hk hk'
      refine ⟨a, b, ?_⟩
      rw [c, hE, hlen]
      have h3 : sQ (fun x => if degN types [] x.id = 0 then qs x else 0) (startR g) = 1 := by
        rw [← hgood.sum]
        exact sQ_congr (fun x _ => if_pos rfl)
      rw [h3, sQ]; grind)]
end
end Go.Proofs.YtlkpmbkmmfoakaaDoor

/- THE WALKS over the laws RankTotal, RankEven, RankTypes (chapter 51). -/
namespace Go.Proofs.YtlkpmbkmmfoakaaDoor
open Go.RowKit Go.Sort
theorem runP_bad {g : GraphG} {types : List ByteArray} {damp : Fr} {k : Int} (h : (runP g types damp k).2 ≠ 0) : (runP g types damp k).1 = [] := by
  unfold runP at h ⊢
  split
  · rename_i h0
    rw [if_pos h0] at h
    split
    · rename_i h1
      rw [if_pos h1] at h
      have : ∀ j, (runK g types damp j).2 ≠ 0 → (runK g types damp j).1 = [] := fun j => by
        induction j with
        | zero => intro h; exact absurd rfl h
        | succ j ih =>
          intro h
          rw [runK] at h ⊢
          split
          · rename_i h2; rw [if_pos h2] at h; exact stepP_bad h
          · rename_i h2; rw [if_neg h2] at h; exact ih h
      exact this _ h
    · rfl
  · rfl
theorem runP_good {g : GraphG} {types : List ByteArray} {damp : Fr} {k : Int} {L : List Sh} (h : runP g types damp k = (L, 0)) (hn : g.nodes.length ≠ 0) : dampB damp = true ∧ chkG g = 0 ∧ Good g damp L := by
  unfold runP at h
  split at h
  · rename_i h0
    split at h
    · rename_i h1
      rw [Bool.and_eq_true] at h1
      exact ⟨h1.2, h0, run_good h0 h1.2 hn _ _ h⟩
    · cases h
  · rename_i h0
    exact absurd (Prod.mk.inj h).2 h0
theorem tells_some {V : Option Fr} {f : Fr} {w : World} {e : Ending} {w' : World} (hv : V = some f) (h : TellsO V w e w') : e = .returned (.tuple #[.agg #[.int .i64 f.1, .int .i64 f.2], .bool true]) ∧ Ext w w' := by
  obtain ⟨⟨a, b, he, hf⟩, hx⟩ := h
  subst hv
  obtain rfl := hf f rfl
  exact ⟨he, hx⟩
set_option maxRecDepth 100000 in
set_option maxHeartbeats 3200000 in
theorem l_RankTotal (g : GraphG) (types : List ByteArray) (damp : Fr) (k : Int) (ok ok' : Nat → Prop) (A B T : Option Addr) (c d e : Nat) (w : World) (hz : ZeroAt w) (hg : GraphAt w ok A B g) (_hs : SzG g) (ht : Strs w ok' T types) :
    Calls Tryd.prog 4 #[.agg #[.slice A g.nodes.length c, .slice B g.edges.length d, .int .i64 g.nn, .int .i64 g.ne], .slice T types.length e, .agg #[.int .i64 damp.1, .int .i64 damp.2], .int .i64 k] w fun e' w' => e' = .returned (.bool true) ∧ Ext w w' := by
  obtain ⟨q, w2, hq, hw2, g0, g1, g2, g3, d0, d1, hx2⟩ := box_gf w A B c d g damp 34 25
  have HW := Lib.hid hw2
  have HG := Lib.hid hq
  have HM := Lib.hid (And.intro hg.nodes.len (And.intro hg.edges.len ht.len))
  have HFW := Lib.hid (fun W => l_few g types.length A B T c d e W HM.out)
  have HAL := Lib.hid (fun W (x : Ext w W) => l_alive W (hz.ext x))
  have hm1 : g.nodes.length ≤ 140737488355328 := hg.nodes.len
  have hm3 : types.length ≤ 140737488355328 := ht.len
  cases hfw : fewB g types.length
  · rw [hfw] at HFW
    clear hfw hw2 hq hg ht
    go_enter Tryd.func4, Tryd.ntmps4
    go_upto_region 1 with (fail)
    rw [← HW.out, ← HG.out]
    clear HW HG
    go_wp2_with (first | (go_at_call 12; ((with_reducible refine (HFW.out _).mono ?_); rintro e w3 ⟨rfl, hx3⟩; have k0 := hx3.cell g0; have k1 := hx3.cell g1; have k2 := hx3.cell g2; have k3 := hx3.cell g3; have p0 := hx3.cell d0; have p1 := hx3.cell d1)) | (go_at_call 7; ((with_reducible refine (HAL.out _ (hx2.trans (by with_reducible repeat (first | exact Ext.refl _ | assumption | refine Ext.drew ?_ | refine Ext.drewN ?_ _ | refine Ext.alloc ?_ _)))).mono ?_); rintro e w4 ⟨rfl, hx4⟩; skip)))
    go_ret
    exact ⟨rfl, hx2.trans (hx3.trans hx4)⟩
  · rw [hfw] at HFW
    by_cases hn0 : g.nodes.length = 0
    · have hnz : ((g.nodes.length : Int) == 0) = true := by rw [hn0]; rfl
      clear hfw hw2 hq hg ht hn0
      go_enter Tryd.func4, Tryd.ntmps4
      go_upto_region 1 with (fail)
      rw [← HW.out, ← HG.out]
      clear HW HG
      go_wp2_with (first | (go_at_call 12; ((with_reducible refine (HFW.out _).mono ?_); rintro e w3 ⟨rfl, hx3⟩; have k0 := hx3.cell g0; have k1 := hx3.cell g1; have k2 := hx3.cell g2; have k3 := hx3.cell g3; have p0 := hx3.cell d0; have p1 := hx3.cell d1)) | (go_at_call 7; ((with_reducible refine (HAL.out _ (hx2.trans (by with_reducible repeat (first | exact Ext.refl _ | assumption | refine Ext.drew ?_ | refine Ext.drewN ?_ _ | refine Ext.alloc ?_ _)))).mono ?_); rintro e w4 ⟨rfl, hx4⟩; skip)))
      go_ret
      exact ⟨rfl, hx2.trans (hx3.trans hx4)⟩
    · have hnz : ((g.nodes.length : Int) == 0) = false := beq_eq_false_iff_ne.2 (by omega)
      have HRN := Lib.hid (fun W (x : Ext w W) => (rk_Run g types damp k ok ok' A B T c d e W (hz.ext x) (hg.ext x) (ht.ext x)))
      have HN0 := Lib.hid (fun W (x : Ext w W) => hg.nodes.ext x)
      have HBD := Lib.hid (runP_bad (g := g) (types := types) (damp := damp) (k := k))
      have HGD := Lib.hid (fun L h => runP_good (g := g) (types := types) (damp := damp) (k := k) (L := L) h hn0)
      have hZ := Lib.hid hz
      clear hfw hw2 hq hg ht hn0
      generalize runP g types damp k = P at *
      obtain ⟨M, z⟩ := P
      have HRP := Lib.hid (fun W (x : Ext w W) => (HRN.out W x).mono (fun _ _ h => shErr_parts h))
      clear HRN
      by_cases hze : z = 0
      · subst hze
        obtain ⟨hda, hc0, hgood⟩ := HGD.out M rfl
        have HGO := Lib.hid hgood
        have HLN := Lib.hid (show M.length = g.nodes.length from (fitsB_iff.1 hgood.fits).1)
        have HID := Lib.hid (fun i (h : i < M.length) => ((fitsB_iff.1 hgood.fits).2 i h).1)
        have HTV := Lib.hid (good_tot hgood)
        obtain ⟨sb, hsb⟩ := sub_some hda
        have HSB := Lib.hid hsb
        have HTO := Lib.hid (fun S f W (x : Ext w W) (h : Shares W (fun b => w.heap.size ≤ b) S M) => rk_Total M _ S f W (hZ.out.ext x) h (by have := HLN.out; have := (chkG_len hc0).1; omega))
        have hle : ((M.length : Int) != (g.nodes.length : Int)) = false := by rw [HLN.out]; simp
        have hml : M.length ≤ 140737488355328 := by rw [HLN.out]; exact hm1
        have HSU := Lib.hid (fun W => (q3_Sub (1, 1) damp W).mono (fun _ _ h => tells_some HSB.out h))
        dsimp only at HSU
        have HDV := Lib.hid (fun W => q3_Div sb ((M.length : Int), 1) W)
        have HBV := Lib.hid (fun b i (hb : divO sb ((M.length : Int), 1) = some b) (hi : i < M.length) => good_base HGO.out HSB.out hb hi)
        dsimp only at HDV
        clear HGD HBD hgood hsb hda hc0 hz
        generalize totV M = tv at *
        obtain ⟨ta, tb, tc⟩ := tv
        dsimp only at HTO HTV
        go_enter Tryd.func4, Tryd.ntmps4
        go_upto_region 1 with (fail)
        rw [← HW.out, ← HG.out]
        clear HW HG
        go_upto_region 4 with (first | (go_at_call 12; ((with_reducible refine (HFW.out _).mono ?_); rintro e w3 ⟨rfl, hx3⟩; have k0 := hx3.cell g0; have k1 := hx3.cell g1; have k2 := hx3.cell g2; have k3 := hx3.cell g3; have p0 := hx3.cell d0; have p1 := hx3.cell d1)) | (go_at_call 13; ((with_reducible refine (HRP.out _ (hx2.trans hx3)).mono ?_); rintro e w5 ⟨⟨A5, c5, rfl, hc5, hS5⟩, hx5⟩; replace k0 := hx5.cell k0; replace k1 := hx5.cell k1; replace k2 := hx5.cell k2; replace k3 := hx5.cell k3; replace p0 := hx5.cell p0; replace p1 := hx5.cell p1)))
        have hE5 := hx2.trans (hx3.trans hx5)
        have HS5 := Lib.hid (hS5.keep (ok' := fun b => w.heap.size ≤ b) (fun _ _ _ hb hc => ⟨hc, Nat.le_trans (hx2.trans hx3).le hb⟩))
        clear hS5 HRP HFW
        go_upto_region 7 with ((go_at_call 8; ((with_reducible refine (HTO.out A5 c5 w5 hE5 HS5.out).mono ?_); rintro e w6 ⟨rfl, hx6⟩; replace k0 := hx6.cell k0; replace k1 := hx6.cell k1; replace k2 := hx6.cell k2; replace k3 := hx6.cell k3; replace p0 := hx6.cell p0; replace p1 := hx6.cell p1)))
        obtain ⟨y11, w7, hy11, hw7, t0, t1, -, -, hx7⟩ := box_frac w6 ta tb 25
        rw [← hw7, ← hy11]
        replace k0 := hx7.cell k0
        replace k1 := hx7.cell k1
        replace k2 := hx7.cell k2
        replace k3 := hx7.cell k3
        replace p0 := hx7.cell p0
        replace p1 := hx7.cell p1
        have hE7 := hE5.trans (hx6.trans hx7)
        have HL7 := Lib.hid (HS5.out.ext (hx6.trans hx7))
        clear hy11 hw7 hx7 hx6 HTO HS5
        have htt : tc = false ∨ tc = true ∧ ta = 1 ∧ tb = 1 := by
          cases htc : tc
          · exact .inl rfl
          · have := HTV.out htc
            injection this with h1 h2
            injection h2 with h2 h3
            exact .inr ⟨rfl, h1, h2⟩
        clear HTV
        rcases htt with rfl | ⟨rfl, rfl, rfl⟩
        · go_upto_region 10 with ((go_at_call 14; ((with_reducible refine (HSU.out w7).mono ?_); rintro e w8 ⟨rfl, hx8⟩; replace k0 := hx8.cell k0; replace k1 := hx8.cell k1; replace k2 := hx8.cell k2; replace k3 := hx8.cell k3; replace p0 := hx8.cell p0; replace p1 := hx8.cell p1)))
          obtain ⟨y13, w9, hy13, hw9, m0, m1, -, -, hx9⟩ := box_frac w8 sb.1 sb.2 25
          rw [← hw9, ← hy13]
          replace k0 := hx9.cell k0
          replace k1 := hx9.cell k1
          replace k2 := hx9.cell k2
          replace k3 := hx9.cell k3
          replace p0 := hx9.cell p0
          replace p1 := hx9.cell p1
          have hE10 := hE7.trans (hx8.trans hx9)
          have HL9 := Lib.hid (HL7.out.ext (hx8.trans hx9))
          clear hy13 hw9 hx9 hx8 HSU HL7 t0 t1
          go_upto_region 11 with ((go_at_call 15; ((with_reducible refine (HDV.out w9).mono ?_); rintro e w11 ⟨⟨ba, bb, rfl, hvv⟩, hx11⟩; skip)))
          have HVV := Lib.hid hvv
          clear hvv HDV
          cases hvo : divO sb ((M.length : Int), 1) with
          | none =>
            clear HVV HBV
            (try rw [hvo])
            clear hvo
            simp only [Option.isSome_none]
            obtain ⟨y15, w12, hy15, hw12, b0, b1, -, -, hz12⟩ := box_frac w11 ba bb 25
            rw [← hw12, ← hy15]
            have hE12 := hE10.trans (hx11.trans hz12)
            replace k0 := (hx11.trans hz12).cell k0
            have HLS := Lib.hid (HL9.out.ext (hx11.trans hz12))
            have HND := Lib.hid (HN0.out w12 (hE12))
            clear hy15 hw12 hz12 hx11 m0 m1 p0 p1 k1 k2 k3
            go_wp2_with fail
            go_loopw [17] (fun u W => ∃ i : Nat, u = .int .i64 i ∧ i ≤ M.length ∧ Ext w12 W) (fun u _ => M.length - (intOf u).toNat)
            case atStart => exact ⟨0, rfl, Nat.zero_le _, Ext.refl _⟩
            case round =>
              obtain ⟨i, rfl, hi, hEr⟩ := hrel
              by_cases hlt : i < M.length
              · obtain ⟨bL, oL, rfl, hcL⟩ := (HLS.out.ext hEr).at_ hlt
                obtain ⟨bn, on, rfl, hcn⟩ := (HND.out.ext hEr).at_ (show i < g.nodes.length by have := HLN.out; omega)
                obtain ⟨-, a0, a1, a2⟩ := hcL i hlt
                obtain ⟨-, n0, -⟩ := hcn i (by have := HLN.out; omega)
                rw [← HID.out i hlt] at n0
                have hil : (i : Int) < (g.nodes.length : Int) := by have := HLN.out; omega
                clear hcL hcn
                generalize M[i]! = x at *
                replace b0 := hEr.cell b0
                replace b1 := hEr.cell b1
                replace k0 := hEr.cell k0
                have MK := Lib.hid (fun V (e : Ext wr V) => (⟨e.cell a0, e.cell a1, e.cell a2, e.cell k0, e.cell n0, e.cell b0, e.cell b1⟩ : V.cell? ⟨bL, oL + i * 3, none⟩ = some (.int .i64 x.id) ∧ V.cell? ⟨bL, oL + i * 3 + 1, none⟩ = some (.int .i64 x.n) ∧ V.cell? ⟨bL, oL + i * 3 + 2, none⟩ = some (.int .i64 x.d) ∧ V.cell? ⟨q, 0, none⟩ = some (.slice (some ⟨bn, on, none⟩) g.nodes.length c) ∧ V.cell? ⟨bn, on + i * 3, none⟩ = some (.int .i64 x.id) ∧ V.cell? ⟨y15, 0, none⟩ = some (.int .i64 ba) ∧ V.cell? ⟨y15, 1, none⟩ = some (.int .i64 bb)))
                go_upto_region 14 with (fail)
                refine wp_region_held_drew (S := (fun V => V.cell? ⟨bL, oL + i * 3, none⟩ = some (.int .i64 x.id) ∧ V.cell? ⟨bL, oL + i * 3 + 1, none⟩ = some (.int .i64 x.n) ∧ V.cell? ⟨bL, oL + i * 3 + 2, none⟩ = some (.int .i64 x.d) ∧ V.cell? ⟨q, 0, none⟩ = some (.slice (some ⟨bn, on, none⟩) g.nodes.length c) ∧ V.cell? ⟨bn, on + i * 3, none⟩ = some (.int .i64 x.id) ∧ V.cell? ⟨y15, 0, none⟩ = some (.int .i64 ba) ∧ V.cell? ⟨y15, 1, none⟩ = some (.int .i64 bb))) (by kernel_rfl) ?hs1 (fun hHeld => ?go1)
                case hs1 => (exact MK.out _ (by with_reducible repeat (first | exact Ext.refl _ | assumption | refine Ext.drew ?_ | refine Ext.drewN ?_ _ | refine Ext.alloc ?_ _)))
                refine wpAnyH_take (i := 0) (oi := ⟨(some 84), (.move (.tmp 9)), 22, "law.go:91", #[], none⟩) (v := ?v2) rfl (by kernel_rfl) (by kernel_rfl) (by kernel_rfl) (fun _ _ _ h => h) (Or.inl ⟨rfl, ?hy2⟩) hHeld ?rest2
                case hy2 => (intro w _; go_simp <;> rfl)
                (try simp only [PU])
                refine wpAnyH_take (i := 1) (oi := ⟨(some 85), (.move (.tmp 17)), 3, "law.go:91", #[], none⟩) (v := ?v3) rfl (by kernel_rfl) (by kernel_rfl) (by kernel_rfl) (fun _ _ _ h => h) (Or.inl ⟨rfl, ?hy3⟩) hHeld ?rest3
                case hy3 => (intro w _; go_simp <;> rfl)
                (try simp only [PU])
                refine wpAnyH_take (i := 2) (oi := ⟨(some 86), (.indexAddr 22 (.tmp 84) (.tmp 85)), 0, "law.go:91", #[⟨0, .data⟩, ⟨1, .data⟩], none⟩) (v := ?v4) rfl (by kernel_rfl) (by kernel_rfl) (by kernel_rfl) (fun _ _ _ h => h) (Or.inl ⟨rfl, ?hy4⟩) hHeld ?rest4
                case hy4 => (intro w _; go_simp <;> first | with_reducible rfl | rw [if_neg (by omega)] | rw [if_pos (by omega)])
                (try simp only [PU])
                refine wpAnyH_take (i := 3) (oi := ⟨(some 87), (.fieldAddr 42 (.tmp 86) 0), 0, "law.go:91", #[⟨2, .data⟩], none⟩) (v := ?v5) rfl (by kernel_rfl) (by kernel_rfl) (by kernel_rfl) (fun _ _ _ h => h) (Or.inl ⟨rfl, ?hy5⟩) hHeld ?rest5
                case hy5 => (intro w _; go_simp <;> rfl)
                (try simp only [PU])
                refine wpAnyH_take (i := 4) (oi := ⟨(some 88), (.load 3 (.tmp 87)), 3, "law.go:91", #[⟨3, .data⟩], none⟩) (v := ?v6) rfl (by kernel_rfl) (by kernel_rfl) (by kernel_rfl) (fun _ _ _ h => h) (Or.inl ⟨rfl, ?hy6⟩) hHeld ?rest6
                case hy6 => (intro w hSw; (try dsimp only at hSw); go_simp <;> first | with_reducible rfl | rw [if_neg (by omega)] | rw [if_pos (by omega)])
                (try simp only [PU])
                refine wpAnyH_take (i := 5) (oi := ⟨(some 89), (.fieldAddr 34 (.tmp 4) 0), 0, "law.go:91", #[], none⟩) (v := ?v7) rfl (by kernel_rfl) (by kernel_rfl) (by kernel_rfl) (fun _ _ _ h => h) (Or.inl ⟨rfl, ?hy7⟩) hHeld ?rest7
                case hy7 => (intro w _; go_simp <;> rfl)
                (try simp only [PU])
                refine wpAnyH_take (i := 6) (oi := ⟨(some 90), (.load 31 (.tmp 89)), 31, "law.go:91", #[⟨5, .data⟩], none⟩) (v := ?v8) rfl (by kernel_rfl) (by kernel_rfl) (by kernel_rfl) (fun _ _ _ h => h) (Or.inl ⟨rfl, ?hy8⟩) hHeld ?rest8
                case hy8 => (intro w hSw; (try dsimp only at hSw); go_simp <;> first | with_reducible rfl | rw [if_neg (by omega)] | rw [if_pos (by omega)])
                (try simp only [PU])
                refine wpAnyH_take (i := 7) (oi := ⟨(some 91), (.move (.tmp 17)), 3, "law.go:91", #[], none⟩) (v := ?v9) rfl (by kernel_rfl) (by kernel_rfl) (by kernel_rfl) (fun _ _ _ h => h) (Or.inl ⟨rfl, ?hy9⟩) hHeld ?rest9
                case hy9 => (intro w _; go_simp <;> rfl)
                (try simp only [PU])
                refine wpAnyH_take (i := 8) (oi := ⟨(some 92), (.indexAddr 31 (.tmp 90) (.tmp 91)), 0, "law.go:91", #[⟨6, .data⟩, ⟨7, .data⟩], none⟩) (v := ?v10) rfl (by kernel_rfl) (by kernel_rfl) (by kernel_rfl) (fun _ _ _ h => h) (Or.inl ⟨rfl, ?hy10⟩) hHeld ?rest10
                case hy10 => (intro w _; go_simp <;> first | with_reducible rfl | rw [if_neg (by omega)] | rw [if_pos (by omega)])
                (try simp only [PU])
                refine wpAnyH_take (i := 9) (oi := ⟨(some 93), (.fieldAddr 45 (.tmp 92) 0), 0, "law.go:91", #[⟨8, .data⟩], none⟩) (v := ?v11) rfl (by kernel_rfl) (by kernel_rfl) (by kernel_rfl) (fun _ _ _ h => h) (Or.inl ⟨rfl, ?hy11⟩) hHeld ?rest11
                case hy11 => (intro w _; go_simp <;> rfl)
                (try simp only [PU])
                refine wpAnyH_take (i := 10) (oi := ⟨(some 94), (.load 3 (.tmp 93)), 3, "law.go:91", #[⟨9, .data⟩], none⟩) (v := ?v12) rfl (by kernel_rfl) (by kernel_rfl) (by kernel_rfl) (fun _ _ _ h => h) (Or.inl ⟨rfl, ?hy12⟩) hHeld ?rest12
                case hy12 => (intro w hSw; (try dsimp only at hSw); go_simp <;> first | with_reducible rfl | rw [if_neg (by omega)] | rw [if_pos (by omega)])
                (try simp only [PU])
                refine wpAnyH_take (i := 11) (oi := ⟨(some 95), (.binOp .neq 3 (.tmp 88) (.tmp 94) 3), 4, "law.go:91", #[⟨4, .data⟩, ⟨10, .data⟩], none⟩) (v := ?v13) rfl (by kernel_rfl) (by kernel_rfl) (by kernel_rfl) (fun _ _ _ h => h) (Or.inl ⟨rfl, ?hy13⟩) hHeld ?rest13
                case hy13 => (intro w _; go_simp <;> first | with_reducible rfl | rw [if_neg (by omega)] | rw [if_pos (by omega)])
                (try simp only [PU])
                refine wpAnyH_take (i := 12) (oi := ⟨(some 96), (.move (.tmp 95)), 4, "law.go:91", #[⟨11, .data⟩], none⟩) (v := ?v14) rfl (by kernel_rfl) (by kernel_rfl) (by kernel_rfl) (fun _ _ _ h => h) (Or.inl ⟨rfl, ?hy14⟩) hHeld ?rest14
                case hy14 => (intro w _; go_simp <;> rfl)
                (try simp only [PU])
                refine wpAnyH_take (i := 13) (oi := ⟨(some 97), (.move (.tmp 16)), 4, "law.go:91", #[⟨12, .guard⟩], (some (12, false))⟩) (v := ?v15) rfl (by kernel_rfl) (by kernel_rfl) (by kernel_rfl) (fun _ _ _ h => h) (Or.inl ⟨rfl, ?hy15⟩) hHeld ?rest15
                case hy15 => (intro w _; go_simp <;> rfl)
                (try simp only [PU])
                refine wpAnyH_take (i := 14) (oi := ⟨(some 98), (.move (.tmp 97)), 4, "law.go:91", #[⟨13, .data⟩, ⟨12, .chain⟩, ⟨12, .guard⟩], (some (12, false))⟩) (v := ?v16) rfl (by kernel_rfl) (by kernel_rfl) (by kernel_rfl) (fun _ _ _ h => h) (Or.inl ⟨rfl, ?hy16⟩) hHeld ?rest16
                case hy16 => (intro w _; go_simp <;> rfl)
                (try simp only [PU])
                refine wpAnyH_take (i := 15) (oi := ⟨(some 99), (.move (.tmp 9)), 22, "law.go:91", #[⟨14, .guard⟩], (some (14, true))⟩) (v := undef) rfl (by kernel_rfl) (by kernel_rfl) (by kernel_rfl) (fun _ _ _ h => h) (Or.inr ⟨rfl, rfl⟩) hHeld ?rest17
                (try simp only [PU])
                refine wpAnyH_take (i := 16) (oi := ⟨(some 100), (.move (.tmp 17)), 3, "law.go:91", #[⟨14, .guard⟩], (some (14, true))⟩) (v := undef) rfl (by kernel_rfl) (by kernel_rfl) (by kernel_rfl) (fun _ _ _ h => h) (Or.inr ⟨rfl, rfl⟩) hHeld ?rest18
                (try simp only [PU])
                refine wpAnyH_take (i := 17) (oi := ⟨(some 101), (.indexAddr 22 (.tmp 99) (.tmp 100)), 0, "law.go:91", #[⟨15, .data⟩, ⟨16, .data⟩, ⟨14, .guard⟩], (some (14, true))⟩) (v := undef) rfl (by kernel_rfl) (by kernel_rfl) (by kernel_rfl) (fun _ _ _ h => h) (Or.inr ⟨rfl, rfl⟩) hHeld ?rest19
                (try simp only [PU])
                refine wpAnyH_take (i := 18) (oi := ⟨(some 102), (.fieldAddr 42 (.tmp 101) 1), 0, "law.go:91", #[⟨17, .data⟩, ⟨14, .guard⟩], (some (14, true))⟩) (v := undef) rfl (by kernel_rfl) (by kernel_rfl) (by kernel_rfl) (fun _ _ _ h => h) (Or.inr ⟨rfl, rfl⟩) hHeld ?rest20
                (try simp only [PU])
                refine wpAnyH_take (i := 19) (oi := ⟨(some 103), (.load 25 (.tmp 102)), 25, "law.go:91", #[⟨18, .data⟩, ⟨14, .guard⟩], (some (14, true))⟩) (v := undef) rfl (by kernel_rfl) (by kernel_rfl) (by kernel_rfl) (fun _ _ _ h => h) (Or.inr ⟨rfl, rfl⟩) hHeld ?rest21
                (try simp only [PU])
                refine wpAnyH_take (i := 20) (oi := ⟨(some 104), (.load 25 (.tmp 15)), 25, "law.go:91", #[⟨14, .guard⟩], (some (14, true))⟩) (v := undef) rfl (by kernel_rfl) (by kernel_rfl) (by kernel_rfl) (fun _ _ _ h => h) (Or.inr ⟨rfl, rfl⟩) hHeld ?rest22
                (try simp only [PU])
                refine wpAnyH_take (i := 21) (oi := ⟨(some 105), (.call { callee := (.value (.func 16)), args := #[(.tmp 103), (.tmp 104)], argTypes := #[25, 25] }), 3, "law.go:91", #[⟨19, .data⟩, ⟨20, .data⟩, ⟨14, .chain⟩, ⟨14, .guard⟩], (some (14, true))⟩) (v := undef) rfl (by kernel_rfl) (by kernel_rfl) (by kernel_rfl) (fun _ _ _ h => h) (Or.inr ⟨rfl, rfl⟩) hHeld ?rest23
                (try simp only [PU])
                refine wpAnyH_take (i := 22) (oi := ⟨(some 106), (.binOp .lss 3 (.tmp 105) (.const (.int .i64 0)) 3), 4, "law.go:91", #[⟨21, .data⟩, ⟨14, .guard⟩], (some (14, true))⟩) (v := undef) rfl (by kernel_rfl) (by kernel_rfl) (by kernel_rfl) (fun _ _ _ h => h) (Or.inr ⟨rfl, rfl⟩) hHeld ?rest24
                (try simp only [PU])
                refine wpAnyH_take (i := 23) (oi := ⟨(some 107), (.pick (.tmp 98) (.tmp 106) (.const (.bool false))), 4, "law.go:91", #[⟨14, .data⟩, ⟨22, .data⟩, ⟨12, .guard⟩], (some (12, false))⟩) (v := ?v25) rfl (by kernel_rfl) (by kernel_rfl) (by kernel_rfl) (fun _ _ _ h => h) (Or.inl ⟨rfl, ?hy25⟩) hHeld ?rest25
                case hy25 => (intro w _; go_simp <;> rfl)
                (try simp only [PU])
                refine wpAnyH_take (i := 24) (oi := ⟨(some 108), (.pick (.tmp 96) (.const (.bool true)) (.tmp 107)), 4, "law.go:91", #[⟨12, .data⟩, ⟨23, .data⟩], none⟩) (v := ?v26) rfl (by kernel_rfl) (by kernel_rfl) (by kernel_rfl) (fun _ _ _ h => h) (Or.inl ⟨rfl, ?hy26⟩) hHeld ?rest26
                case hy26 => (intro w _; go_simp <;> rfl)
                (try simp only [PU])
                refine wpAnyH_done (by kernel_rfl) ?_ _
                clear hHeld
                go_wp2_with fail
                go_roundw
                case rel => exact ⟨i + 1, by go_num, by omega, hEr.trans (by with_reducible repeat (first | exact Ext.refl _ | assumption | refine Ext.drew ?_ | refine Ext.drewN ?_ _ | refine Ext.alloc ?_ _))⟩
                case measure => simp [intOf]; omega
              · go_wp2_with (go_at_call 7; ((with_reducible refine (HAL.out _ (hE12.trans hEr)).mono ?_); rintro e w14 ⟨rfl, hx14⟩; skip))
                go_ret
                exact ⟨rfl, hE12.trans (hEr.trans hx14)⟩
          | some bf =>
            obtain rfl := HVV.out bf hvo
            have HBASE := Lib.hid (fun i h => HBV.out (ba, bb) i hvo h)
            clear HVV HBV
            (try rw [hvo])
            clear hvo
            simp only [Option.isSome_some]
            obtain ⟨y15, w12, hy15, hw12, b0, b1, -, -, hz12⟩ := box_frac w11 ba bb 25
            rw [← hw12, ← hy15]
            have hE12 := hE10.trans (hx11.trans hz12)
            replace k0 := (hx11.trans hz12).cell k0
            have HLS := Lib.hid (HL9.out.ext (hx11.trans hz12))
            have HND := Lib.hid (HN0.out w12 (hE12))
            clear hy15 hw12 hz12 hx11 m0 m1 p0 p1 k1 k2 k3
            go_wp2_with fail
            go_loopw [17] (fun u W => ∃ i : Nat, u = .int .i64 i ∧ i ≤ M.length ∧ Ext w12 W) (fun u _ => M.length - (intOf u).toNat)
            case atStart => exact ⟨0, rfl, Nat.zero_le _, Ext.refl _⟩
            case round =>
              obtain ⟨i, rfl, hi, hEr⟩ := hrel
              by_cases hlt : i < M.length
              · obtain ⟨bL, oL, rfl, hcL⟩ := (HLS.out.ext hEr).at_ hlt
                obtain ⟨bn, on, rfl, hcn⟩ := (HND.out.ext hEr).at_ (show i < g.nodes.length by have := HLN.out; omega)
                obtain ⟨-, a0, a1, a2⟩ := hcL i hlt
                obtain ⟨-, n0, -⟩ := hcn i (by have := HLN.out; omega)
                rw [← HID.out i hlt] at n0
                have hil : (i : Int) < (g.nodes.length : Int) := by have := HLN.out; omega
                have HBS := Lib.hid (HBASE.out i hlt)
                have HCM := Lib.hid (fun W => r3_Cmp M[i]!.n M[i]!.d ba bb W)
                generalize cmpS M[i]!.n M[i]!.d ba bb = z at *
                have hzc : decide (z < 0) = false := decide_eq_false (Int.not_lt.2 HBS.out)
                clear hcL hcn
                generalize M[i]! = x at *
                replace b0 := hEr.cell b0
                replace b1 := hEr.cell b1
                replace k0 := hEr.cell k0
                have MK := Lib.hid (fun V (e : Ext wr V) => (⟨e.cell a0, e.cell a1, e.cell a2, e.cell k0, e.cell n0, e.cell b0, e.cell b1⟩ : V.cell? ⟨bL, oL + i * 3, none⟩ = some (.int .i64 x.id) ∧ V.cell? ⟨bL, oL + i * 3 + 1, none⟩ = some (.int .i64 x.n) ∧ V.cell? ⟨bL, oL + i * 3 + 2, none⟩ = some (.int .i64 x.d) ∧ V.cell? ⟨q, 0, none⟩ = some (.slice (some ⟨bn, on, none⟩) g.nodes.length c) ∧ V.cell? ⟨bn, on + i * 3, none⟩ = some (.int .i64 x.id) ∧ V.cell? ⟨y15, 0, none⟩ = some (.int .i64 ba) ∧ V.cell? ⟨y15, 1, none⟩ = some (.int .i64 bb)))
                go_upto_region 14 with (fail)
                refine wp_region_held_drew (S := (fun V => V.cell? ⟨bL, oL + i * 3, none⟩ = some (.int .i64 x.id) ∧ V.cell? ⟨bL, oL + i * 3 + 1, none⟩ = some (.int .i64 x.n) ∧ V.cell? ⟨bL, oL + i * 3 + 2, none⟩ = some (.int .i64 x.d) ∧ V.cell? ⟨q, 0, none⟩ = some (.slice (some ⟨bn, on, none⟩) g.nodes.length c) ∧ V.cell? ⟨bn, on + i * 3, none⟩ = some (.int .i64 x.id) ∧ V.cell? ⟨y15, 0, none⟩ = some (.int .i64 ba) ∧ V.cell? ⟨y15, 1, none⟩ = some (.int .i64 bb))) (by kernel_rfl) ?hs27 (fun hHeld => ?go27)
                case hs27 => (exact MK.out _ (by with_reducible repeat (first | exact Ext.refl _ | assumption | refine Ext.drew ?_ | refine Ext.drewN ?_ _ | refine Ext.alloc ?_ _)))
                refine wpAnyH_take (i := 0) (oi := ⟨(some 84), (.move (.tmp 9)), 22, "law.go:91", #[], none⟩) (v := ?v28) rfl (by kernel_rfl) (by kernel_rfl) (by kernel_rfl) (fun _ _ _ h => h) (Or.inl ⟨rfl, ?hy28⟩) hHeld ?rest28
                case hy28 => (intro w _; go_simp <;> rfl)
                (try simp only [PU])
                refine wpAnyH_take (i := 1) (oi := ⟨(some 85), (.move (.tmp 17)), 3, "law.go:91", #[], none⟩) (v := ?v29) rfl (by kernel_rfl) (by kernel_rfl) (by kernel_rfl) (fun _ _ _ h => h) (Or.inl ⟨rfl, ?hy29⟩) hHeld ?rest29
                case hy29 => (intro w _; go_simp <;> rfl)
                (try simp only [PU])
                refine wpAnyH_take (i := 2) (oi := ⟨(some 86), (.indexAddr 22 (.tmp 84) (.tmp 85)), 0, "law.go:91", #[⟨0, .data⟩, ⟨1, .data⟩], none⟩) (v := ?v30) rfl (by kernel_rfl) (by kernel_rfl) (by kernel_rfl) (fun _ _ _ h => h) (Or.inl ⟨rfl, ?hy30⟩) hHeld ?rest30
                case hy30 => (intro w _; go_simp <;> first | with_reducible rfl | rw [if_neg (by omega)] | rw [if_pos (by omega)])
                (try simp only [PU])
                refine wpAnyH_take (i := 3) (oi := ⟨(some 87), (.fieldAddr 42 (.tmp 86) 0), 0, "law.go:91", #[⟨2, .data⟩], none⟩) (v := ?v31) rfl (by kernel_rfl) (by kernel_rfl) (by kernel_rfl) (fun _ _ _ h => h) (Or.inl ⟨rfl, ?hy31⟩) hHeld ?rest31
                case hy31 => (intro w _; go_simp <;> rfl)
                (try simp only [PU])
                refine wpAnyH_take (i := 4) (oi := ⟨(some 88), (.load 3 (.tmp 87)), 3, "law.go:91", #[⟨3, .data⟩], none⟩) (v := ?v32) rfl (by kernel_rfl) (by kernel_rfl) (by kernel_rfl) (fun _ _ _ h => h) (Or.inl ⟨rfl, ?hy32⟩) hHeld ?rest32
                case hy32 => (intro w hSw; (try dsimp only at hSw); go_simp <;> first | with_reducible rfl | rw [if_neg (by omega)] | rw [if_pos (by omega)])
                (try simp only [PU])
                refine wpAnyH_take (i := 5) (oi := ⟨(some 89), (.fieldAddr 34 (.tmp 4) 0), 0, "law.go:91", #[], none⟩) (v := ?v33) rfl (by kernel_rfl) (by kernel_rfl) (by kernel_rfl) (fun _ _ _ h => h) (Or.inl ⟨rfl, ?hy33⟩) hHeld ?rest33
                case hy33 => (intro w _; go_simp <;> rfl)
                (try simp only [PU])
                refine wpAnyH_take (i := 6) (oi := ⟨(some 90), (.load 31 (.tmp 89)), 31, "law.go:91", #[⟨5, .data⟩], none⟩) (v := ?v34) rfl (by kernel_rfl) (by kernel_rfl) (by kernel_rfl) (fun _ _ _ h => h) (Or.inl ⟨rfl, ?hy34⟩) hHeld ?rest34
                case hy34 => (intro w hSw; (try dsimp only at hSw); go_simp <;> first | with_reducible rfl | rw [if_neg (by omega)] | rw [if_pos (by omega)])
                (try simp only [PU])
                refine wpAnyH_take (i := 7) (oi := ⟨(some 91), (.move (.tmp 17)), 3, "law.go:91", #[], none⟩) (v := ?v35) rfl (by kernel_rfl) (by kernel_rfl) (by kernel_rfl) (fun _ _ _ h => h) (Or.inl ⟨rfl, ?hy35⟩) hHeld ?rest35
                case hy35 => (intro w _; go_simp <;> rfl)
                (try simp only [PU])
                refine wpAnyH_take (i := 8) (oi := ⟨(some 92), (.indexAddr 31 (.tmp 90) (.tmp 91)), 0, "law.go:91", #[⟨6, .data⟩, ⟨7, .data⟩], none⟩) (v := ?v36) rfl (by kernel_rfl) (by kernel_rfl) (by kernel_rfl) (fun _ _ _ h => h) (Or.inl ⟨rfl, ?hy36⟩) hHeld ?rest36
                case hy36 => (intro w _; go_simp <;> first | with_reducible rfl | rw [if_neg (by omega)] | rw [if_pos (by omega)])
                (try simp only [PU])
                refine wpAnyH_take (i := 9) (oi := ⟨(some 93), (.fieldAddr 45 (.tmp 92) 0), 0, "law.go:91", #[⟨8, .data⟩], none⟩) (v := ?v37) rfl (by kernel_rfl) (by kernel_rfl) (by kernel_rfl) (fun _ _ _ h => h) (Or.inl ⟨rfl, ?hy37⟩) hHeld ?rest37
                case hy37 => (intro w _; go_simp <;> rfl)
                (try simp only [PU])
                refine wpAnyH_take (i := 10) (oi := ⟨(some 94), (.load 3 (.tmp 93)), 3, "law.go:91", #[⟨9, .data⟩], none⟩) (v := ?v38) rfl (by kernel_rfl) (by kernel_rfl) (by kernel_rfl) (fun _ _ _ h => h) (Or.inl ⟨rfl, ?hy38⟩) hHeld ?rest38
                case hy38 => (intro w hSw; (try dsimp only at hSw); go_simp <;> first | with_reducible rfl | rw [if_neg (by omega)] | rw [if_pos (by omega)])
                (try simp only [PU])
                refine wpAnyH_take (i := 11) (oi := ⟨(some 95), (.binOp .neq 3 (.tmp 88) (.tmp 94) 3), 4, "law.go:91", #[⟨4, .data⟩, ⟨10, .data⟩], none⟩) (v := ?v39) rfl (by kernel_rfl) (by kernel_rfl) (by kernel_rfl) (fun _ _ _ h => h) (Or.inl ⟨rfl, ?hy39⟩) hHeld ?rest39
                case hy39 => (intro w _; go_simp <;> first | with_reducible rfl | rw [if_neg (by omega)] | rw [if_pos (by omega)])
                (try simp only [PU])
                refine wpAnyH_take (i := 12) (oi := ⟨(some 96), (.move (.tmp 95)), 4, "law.go:91", #[⟨11, .data⟩], none⟩) (v := ?v40) rfl (by kernel_rfl) (by kernel_rfl) (by kernel_rfl) (fun _ _ _ h => h) (Or.inl ⟨rfl, ?hy40⟩) hHeld ?rest40
                case hy40 => (intro w _; go_simp <;> rfl)
                (try simp only [PU])
                refine wpAnyH_take (i := 13) (oi := ⟨(some 97), (.move (.tmp 16)), 4, "law.go:91", #[⟨12, .guard⟩], (some (12, false))⟩) (v := ?v41) rfl (by kernel_rfl) (by kernel_rfl) (by kernel_rfl) (fun _ _ _ h => h) (Or.inl ⟨rfl, ?hy41⟩) hHeld ?rest41
                case hy41 => (intro w _; go_simp <;> rfl)
                (try simp only [PU])
                refine wpAnyH_take (i := 14) (oi := ⟨(some 98), (.move (.tmp 97)), 4, "law.go:91", #[⟨13, .data⟩, ⟨12, .chain⟩, ⟨12, .guard⟩], (some (12, false))⟩) (v := ?v42) rfl (by kernel_rfl) (by kernel_rfl) (by kernel_rfl) (fun _ _ _ h => h) (Or.inl ⟨rfl, ?hy42⟩) hHeld ?rest42
                case hy42 => (intro w _; go_simp <;> rfl)
                (try simp only [PU])
                refine wpAnyH_take (i := 15) (oi := ⟨(some 99), (.move (.tmp 9)), 22, "law.go:91", #[⟨14, .guard⟩], (some (14, true))⟩) (v := ?v43) rfl (by kernel_rfl) (by kernel_rfl) (by kernel_rfl) (fun _ _ _ h => h) (Or.inl ⟨rfl, ?hy43⟩) hHeld ?rest43
                case hy43 => (intro w _; go_simp <;> rfl)
                (try simp only [PU])
                refine wpAnyH_take (i := 16) (oi := ⟨(some 100), (.move (.tmp 17)), 3, "law.go:91", #[⟨14, .guard⟩], (some (14, true))⟩) (v := ?v44) rfl (by kernel_rfl) (by kernel_rfl) (by kernel_rfl) (fun _ _ _ h => h) (Or.inl ⟨rfl, ?hy44⟩) hHeld ?rest44
                case hy44 => (intro w _; go_simp <;> rfl)
                (try simp only [PU])
                refine wpAnyH_take (i := 17) (oi := ⟨(some 101), (.indexAddr 22 (.tmp 99) (.tmp 100)), 0, "law.go:91", #[⟨15, .data⟩, ⟨16, .data⟩, ⟨14, .guard⟩], (some (14, true))⟩) (v := ?v45) rfl (by kernel_rfl) (by kernel_rfl) (by kernel_rfl) (fun _ _ _ h => h) (Or.inl ⟨rfl, ?hy45⟩) hHeld ?rest45
                case hy45 => (intro w _; go_simp <;> first | with_reducible rfl | rw [if_neg (by omega)] | rw [if_pos (by omega)])
                (try simp only [PU])
                refine wpAnyH_take (i := 18) (oi := ⟨(some 102), (.fieldAddr 42 (.tmp 101) 1), 0, "law.go:91", #[⟨17, .data⟩, ⟨14, .guard⟩], (some (14, true))⟩) (v := ?v46) rfl (by kernel_rfl) (by kernel_rfl) (by kernel_rfl) (fun _ _ _ h => h) (Or.inl ⟨rfl, ?hy46⟩) hHeld ?rest46
                case hy46 => (intro w _; go_simp <;> rfl)
                (try simp only [PU])
                refine wpAnyH_take (i := 19) (oi := ⟨(some 103), (.load 25 (.tmp 102)), 25, "law.go:91", #[⟨18, .data⟩, ⟨14, .guard⟩], (some (14, true))⟩) (v := ?v47) rfl (by kernel_rfl) (by kernel_rfl) (by kernel_rfl) (fun _ _ _ h => h) (Or.inl ⟨rfl, ?hy47⟩) hHeld ?rest47
                case hy47 => (intro w hSw; (try dsimp only at hSw); go_simp <;> first | with_reducible rfl | rw [if_neg (by omega)] | rw [if_pos (by omega)])
                (try simp only [PU])
                refine wpAnyH_take (i := 20) (oi := ⟨(some 104), (.load 25 (.tmp 15)), 25, "law.go:91", #[⟨14, .guard⟩], (some (14, true))⟩) (v := ?v48) rfl (by kernel_rfl) (by kernel_rfl) (by kernel_rfl) (fun _ _ _ h => h) (Or.inl ⟨rfl, ?hy48⟩) hHeld ?rest48
                case hy48 => (intro w hSw; (try dsimp only at hSw); go_simp <;> first | with_reducible rfl | rw [if_neg (by omega)] | rw [if_pos (by omega)])
                (try simp only [PU])
                refine wpAnyH_ready (rs := [21]) (by kernel_rfl) (by simp) ?_
                refine AllReadyH.cons (o := ⟨(some 105), (.call { callee := (.value (.func 16)), args := #[(.tmp 103), (.tmp 104)], argTypes := #[25, 25] }), 3, "law.go:91", #[⟨19, .data⟩, ⟨20, .data⟩, ⟨14, .chain⟩, ⟨14, .guard⟩], (some (14, true))⟩) rfl (fun K hK => ?step49x0) ?more49x0
                case more49x0 => exact AllReadyH.nil
                go_simp
                (refine (HCM.out _).mono ?_; rintro e w13 ⟨rfl, hb13⟩; have hx13 : Ext wr w13 := Ext.trans (by with_reducible repeat (first | exact Ext.refl _ | assumption | refine Ext.drew ?_ | refine Ext.drewN ?_ _ | refine Ext.alloc ?_ _)) (of_below hb13))
                refine hK.out _ _ ?hS49x0 (fun hHeld49 => ?rest49x0)
                case hS49x0 => first | (exact MK.out _ (by with_reducible repeat (first | exact Ext.refl _ | assumption | refine Ext.drew ?_ | refine Ext.drewN ?_ _ | refine Ext.alloc ?_ _))) | ((try dsimp only); (exact MK.out _ (by with_reducible repeat (first | exact Ext.refl _ | assumption | refine Ext.drew ?_ | refine Ext.drewN ?_ _ | refine Ext.alloc ?_ _))))
                clear hK K
                clear hHeld
                (try simp only [PU])
                refine wpAnyH_take (i := 22) (oi := ⟨(some 106), (.binOp .lss 3 (.tmp 105) (.const (.int .i64 0)) 3), 4, "law.go:91", #[⟨21, .data⟩, ⟨14, .guard⟩], (some (14, true))⟩) (v := ?v50) rfl (by kernel_rfl) (by kernel_rfl) (by kernel_rfl) (fun _ _ _ h => h) (Or.inl ⟨rfl, ?hy50⟩) hHeld49 ?rest50
                case hy50 => (intro w _; go_simp <;> first | with_reducible rfl | rw [if_neg (by omega)] | rw [if_pos (by omega)])
                (try simp only [PU])
                refine wpAnyH_take (i := 23) (oi := ⟨(some 107), (.pick (.tmp 98) (.tmp 106) (.const (.bool false))), 4, "law.go:91", #[⟨14, .data⟩, ⟨22, .data⟩, ⟨12, .guard⟩], (some (12, false))⟩) (v := ?v51) rfl (by kernel_rfl) (by kernel_rfl) (by kernel_rfl) (fun _ _ _ h => h) (Or.inl ⟨rfl, ?hy51⟩) hHeld49 ?rest51
                case hy51 => (intro w _; go_simp <;> rfl)
                (try simp only [PU])
                refine wpAnyH_take (i := 24) (oi := ⟨(some 108), (.pick (.tmp 96) (.const (.bool true)) (.tmp 107)), 4, "law.go:91", #[⟨12, .data⟩, ⟨23, .data⟩], none⟩) (v := ?v52) rfl (by kernel_rfl) (by kernel_rfl) (by kernel_rfl) (fun _ _ _ h => h) (Or.inl ⟨rfl, ?hy52⟩) hHeld49 ?rest52
                case hy52 => (intro w _; go_simp <;> rfl)
                (try simp only [PU])
                refine wpAnyH_done (by kernel_rfl) ?_ _
                clear hHeld49
                go_wp2_with fail
                go_roundw
                case rel => exact ⟨i + 1, by go_num, by omega, hEr.trans hx13⟩
                case measure => simp [intOf]; omega
              · go_wp2_with (go_at_call 7; ((with_reducible refine (HAL.out _ (hE12.trans hEr)).mono ?_); rintro e w14 ⟨rfl, hx14⟩; skip))
                go_ret
                exact ⟨rfl, hE12.trans (hEr.trans hx14)⟩
        · go_upto_region 10 with ((go_at_call 14; ((with_reducible refine (HSU.out w7).mono ?_); rintro e w8 ⟨rfl, hx8⟩; replace k0 := hx8.cell k0; replace k1 := hx8.cell k1; replace k2 := hx8.cell k2; replace k3 := hx8.cell k3; replace p0 := hx8.cell p0; replace p1 := hx8.cell p1)))
          obtain ⟨y13, w9, hy13, hw9, m0, m1, -, -, hx9⟩ := box_frac w8 sb.1 sb.2 25
          rw [← hw9, ← hy13]
          replace k0 := hx9.cell k0
          replace k1 := hx9.cell k1
          replace k2 := hx9.cell k2
          replace k3 := hx9.cell k3
          replace p0 := hx9.cell p0
          replace p1 := hx9.cell p1
          have hE10 := hE7.trans (hx8.trans hx9)
          have HL9 := Lib.hid (HL7.out.ext (hx8.trans hx9))
          clear hy13 hw9 hx9 hx8 HSU HL7 t0 t1
          go_upto_region 11 with ((go_at_call 15; ((with_reducible refine (HDV.out w9).mono ?_); rintro e w11 ⟨⟨ba, bb, rfl, hvv⟩, hx11⟩; skip)))
          have HVV := Lib.hid hvv
          clear hvv HDV
          cases hvo : divO sb ((M.length : Int), 1) with
          | none =>
            clear HVV HBV
            (try rw [hvo])
            clear hvo
            simp only [Option.isSome_none]
            obtain ⟨y15, w12, hy15, hw12, b0, b1, -, -, hz12⟩ := box_frac w11 ba bb 25
            rw [← hw12, ← hy15]
            have hE12 := hE10.trans (hx11.trans hz12)
            replace k0 := (hx11.trans hz12).cell k0
            have HLS := Lib.hid (HL9.out.ext (hx11.trans hz12))
            have HND := Lib.hid (HN0.out w12 (hE12))
            clear hy15 hw12 hz12 hx11 m0 m1 p0 p1 k1 k2 k3
            go_wp2_with fail
            go_loopw [17] (fun u W => ∃ i : Nat, u = .int .i64 i ∧ i ≤ M.length ∧ Ext w12 W) (fun u _ => M.length - (intOf u).toNat)
            case atStart => exact ⟨0, rfl, Nat.zero_le _, Ext.refl _⟩
            case round =>
              obtain ⟨i, rfl, hi, hEr⟩ := hrel
              by_cases hlt : i < M.length
              · obtain ⟨bL, oL, rfl, hcL⟩ := (HLS.out.ext hEr).at_ hlt
                obtain ⟨bn, on, rfl, hcn⟩ := (HND.out.ext hEr).at_ (show i < g.nodes.length by have := HLN.out; omega)
                obtain ⟨-, a0, a1, a2⟩ := hcL i hlt
                obtain ⟨-, n0, -⟩ := hcn i (by have := HLN.out; omega)
                rw [← HID.out i hlt] at n0
                have hil : (i : Int) < (g.nodes.length : Int) := by have := HLN.out; omega
                clear hcL hcn
                generalize M[i]! = x at *
                replace b0 := hEr.cell b0
                replace b1 := hEr.cell b1
                replace k0 := hEr.cell k0
                have MK := Lib.hid (fun V (e : Ext wr V) => (⟨e.cell a0, e.cell a1, e.cell a2, e.cell k0, e.cell n0, e.cell b0, e.cell b1⟩ : V.cell? ⟨bL, oL + i * 3, none⟩ = some (.int .i64 x.id) ∧ V.cell? ⟨bL, oL + i * 3 + 1, none⟩ = some (.int .i64 x.n) ∧ V.cell? ⟨bL, oL + i * 3 + 2, none⟩ = some (.int .i64 x.d) ∧ V.cell? ⟨q, 0, none⟩ = some (.slice (some ⟨bn, on, none⟩) g.nodes.length c) ∧ V.cell? ⟨bn, on + i * 3, none⟩ = some (.int .i64 x.id) ∧ V.cell? ⟨y15, 0, none⟩ = some (.int .i64 ba) ∧ V.cell? ⟨y15, 1, none⟩ = some (.int .i64 bb)))
                go_upto_region 14 with (fail)
                refine wp_region_held_drew (S := (fun V => V.cell? ⟨bL, oL + i * 3, none⟩ = some (.int .i64 x.id) ∧ V.cell? ⟨bL, oL + i * 3 + 1, none⟩ = some (.int .i64 x.n) ∧ V.cell? ⟨bL, oL + i * 3 + 2, none⟩ = some (.int .i64 x.d) ∧ V.cell? ⟨q, 0, none⟩ = some (.slice (some ⟨bn, on, none⟩) g.nodes.length c) ∧ V.cell? ⟨bn, on + i * 3, none⟩ = some (.int .i64 x.id) ∧ V.cell? ⟨y15, 0, none⟩ = some (.int .i64 ba) ∧ V.cell? ⟨y15, 1, none⟩ = some (.int .i64 bb))) (by kernel_rfl) ?hs53 (fun hHeld => ?go53)
                case hs53 => (exact MK.out _ (by with_reducible repeat (first | exact Ext.refl _ | assumption | refine Ext.drew ?_ | refine Ext.drewN ?_ _ | refine Ext.alloc ?_ _)))
                refine wpAnyH_take (i := 0) (oi := ⟨(some 84), (.move (.tmp 9)), 22, "law.go:91", #[], none⟩) (v := ?v54) rfl (by kernel_rfl) (by kernel_rfl) (by kernel_rfl) (fun _ _ _ h => h) (Or.inl ⟨rfl, ?hy54⟩) hHeld ?rest54
                case hy54 => (intro w _; go_simp <;> rfl)
                (try simp only [PU])
                refine wpAnyH_take (i := 1) (oi := ⟨(some 85), (.move (.tmp 17)), 3, "law.go:91", #[], none⟩) (v := ?v55) rfl (by kernel_rfl) (by kernel_rfl) (by kernel_rfl) (fun _ _ _ h => h) (Or.inl ⟨rfl, ?hy55⟩) hHeld ?rest55
                case hy55 => (intro w _; go_simp <;> rfl)
                (try simp only [PU])
                refine wpAnyH_take (i := 2) (oi := ⟨(some 86), (.indexAddr 22 (.tmp 84) (.tmp 85)), 0, "law.go:91", #[⟨0, .data⟩, ⟨1, .data⟩], none⟩) (v := ?v56) rfl (by kernel_rfl) (by kernel_rfl) (by kernel_rfl) (fun _ _ _ h => h) (Or.inl ⟨rfl, ?hy56⟩) hHeld ?rest56
                case hy56 => (intro w _; go_simp <;> first | with_reducible rfl | rw [if_neg (by omega)] | rw [if_pos (by omega)])
                (try simp only [PU])
                refine wpAnyH_take (i := 3) (oi := ⟨(some 87), (.fieldAddr 42 (.tmp 86) 0), 0, "law.go:91", #[⟨2, .data⟩], none⟩) (v := ?v57) rfl (by kernel_rfl) (by kernel_rfl) (by kernel_rfl) (fun _ _ _ h => h) (Or.inl ⟨rfl, ?hy57⟩) hHeld ?rest57
                case hy57 => (intro w _; go_simp <;> rfl)
                (try simp only [PU])
                refine wpAnyH_take (i := 4) (oi := ⟨(some 88), (.load 3 (.tmp 87)), 3, "law.go:91", #[⟨3, .data⟩], none⟩) (v := ?v58) rfl (by kernel_rfl) (by kernel_rfl) (by kernel_rfl) (fun _ _ _ h => h) (Or.inl ⟨rfl, ?hy58⟩) hHeld ?rest58
                case hy58 => (intro w hSw; (try dsimp only at hSw); go_simp <;> first | with_reducible rfl | rw [if_neg (by omega)] | rw [if_pos (by omega)])
                (try simp only [PU])
                refine wpAnyH_take (i := 5) (oi := ⟨(some 89), (.fieldAddr 34 (.tmp 4) 0), 0, "law.go:91", #[], none⟩) (v := ?v59) rfl (by kernel_rfl) (by kernel_rfl) (by kernel_rfl) (fun _ _ _ h => h) (Or.inl ⟨rfl, ?hy59⟩) hHeld ?rest59
                case hy59 => (intro w _; go_simp <;> rfl)
                (try simp only [PU])
                refine wpAnyH_take (i := 6) (oi := ⟨(some 90), (.load 31 (.tmp 89)), 31, "law.go:91", #[⟨5, .data⟩], none⟩) (v := ?v60) rfl (by kernel_rfl) (by kernel_rfl) (by kernel_rfl) (fun _ _ _ h => h) (Or.inl ⟨rfl, ?hy60⟩) hHeld ?rest60
                case hy60 => (intro w hSw; (try dsimp only at hSw); go_simp <;> first | with_reducible rfl | rw [if_neg (by omega)] | rw [if_pos (by omega)])
                (try simp only [PU])
                refine wpAnyH_take (i := 7) (oi := ⟨(some 91), (.move (.tmp 17)), 3, "law.go:91", #[], none⟩) (v := ?v61) rfl (by kernel_rfl) (by kernel_rfl) (by kernel_rfl) (fun _ _ _ h => h) (Or.inl ⟨rfl, ?hy61⟩) hHeld ?rest61
                case hy61 => (intro w _; go_simp <;> rfl)
                (try simp only [PU])
                refine wpAnyH_take (i := 8) (oi := ⟨(some 92), (.indexAddr 31 (.tmp 90) (.tmp 91)), 0, "law.go:91", #[⟨6, .data⟩, ⟨7, .data⟩], none⟩) (v := ?v62) rfl (by kernel_rfl) (by kernel_rfl) (by kernel_rfl) (fun _ _ _ h => h) (Or.inl ⟨rfl, ?hy62⟩) hHeld ?rest62
                case hy62 => (intro w _; go_simp <;> first | with_reducible rfl | rw [if_neg (by omega)] | rw [if_pos (by omega)])
                (try simp only [PU])
                refine wpAnyH_take (i := 9) (oi := ⟨(some 93), (.fieldAddr 45 (.tmp 92) 0), 0, "law.go:91", #[⟨8, .data⟩], none⟩) (v := ?v63) rfl (by kernel_rfl) (by kernel_rfl) (by kernel_rfl) (fun _ _ _ h => h) (Or.inl ⟨rfl, ?hy63⟩) hHeld ?rest63
                case hy63 => (intro w _; go_simp <;> rfl)
                (try simp only [PU])
                refine wpAnyH_take (i := 10) (oi := ⟨(some 94), (.load 3 (.tmp 93)), 3, "law.go:91", #[⟨9, .data⟩], none⟩) (v := ?v64) rfl (by kernel_rfl) (by kernel_rfl) (by kernel_rfl) (fun _ _ _ h => h) (Or.inl ⟨rfl, ?hy64⟩) hHeld ?rest64
                case hy64 => (intro w hSw; (try dsimp only at hSw); go_simp <;> first | with_reducible rfl | rw [if_neg (by omega)] | rw [if_pos (by omega)])
                (try simp only [PU])
                refine wpAnyH_take (i := 11) (oi := ⟨(some 95), (.binOp .neq 3 (.tmp 88) (.tmp 94) 3), 4, "law.go:91", #[⟨4, .data⟩, ⟨10, .data⟩], none⟩) (v := ?v65) rfl (by kernel_rfl) (by kernel_rfl) (by kernel_rfl) (fun _ _ _ h => h) (Or.inl ⟨rfl, ?hy65⟩) hHeld ?rest65
                case hy65 => (intro w _; go_simp <;> first | with_reducible rfl | rw [if_neg (by omega)] | rw [if_pos (by omega)])
                (try simp only [PU])
                refine wpAnyH_take (i := 12) (oi := ⟨(some 96), (.move (.tmp 95)), 4, "law.go:91", #[⟨11, .data⟩], none⟩) (v := ?v66) rfl (by kernel_rfl) (by kernel_rfl) (by kernel_rfl) (fun _ _ _ h => h) (Or.inl ⟨rfl, ?hy66⟩) hHeld ?rest66
                case hy66 => (intro w _; go_simp <;> rfl)
                (try simp only [PU])
                refine wpAnyH_take (i := 13) (oi := ⟨(some 97), (.move (.tmp 16)), 4, "law.go:91", #[⟨12, .guard⟩], (some (12, false))⟩) (v := ?v67) rfl (by kernel_rfl) (by kernel_rfl) (by kernel_rfl) (fun _ _ _ h => h) (Or.inl ⟨rfl, ?hy67⟩) hHeld ?rest67
                case hy67 => (intro w _; go_simp <;> rfl)
                (try simp only [PU])
                refine wpAnyH_take (i := 14) (oi := ⟨(some 98), (.move (.tmp 97)), 4, "law.go:91", #[⟨13, .data⟩, ⟨12, .chain⟩, ⟨12, .guard⟩], (some (12, false))⟩) (v := ?v68) rfl (by kernel_rfl) (by kernel_rfl) (by kernel_rfl) (fun _ _ _ h => h) (Or.inl ⟨rfl, ?hy68⟩) hHeld ?rest68
                case hy68 => (intro w _; go_simp <;> rfl)
                (try simp only [PU])
                refine wpAnyH_take (i := 15) (oi := ⟨(some 99), (.move (.tmp 9)), 22, "law.go:91", #[⟨14, .guard⟩], (some (14, true))⟩) (v := undef) rfl (by kernel_rfl) (by kernel_rfl) (by kernel_rfl) (fun _ _ _ h => h) (Or.inr ⟨rfl, rfl⟩) hHeld ?rest69
                (try simp only [PU])
                refine wpAnyH_take (i := 16) (oi := ⟨(some 100), (.move (.tmp 17)), 3, "law.go:91", #[⟨14, .guard⟩], (some (14, true))⟩) (v := undef) rfl (by kernel_rfl) (by kernel_rfl) (by kernel_rfl) (fun _ _ _ h => h) (Or.inr ⟨rfl, rfl⟩) hHeld ?rest70
                (try simp only [PU])
                refine wpAnyH_take (i := 17) (oi := ⟨(some 101), (.indexAddr 22 (.tmp 99) (.tmp 100)), 0, "law.go:91", #[⟨15, .data⟩, ⟨16, .data⟩, ⟨14, .guard⟩], (some (14, true))⟩) (v := undef) rfl (by kernel_rfl) (by kernel_rfl) (by kernel_rfl) (fun _ _ _ h => h) (Or.inr ⟨rfl, rfl⟩) hHeld ?rest71
                (try simp only [PU])
                refine wpAnyH_take (i := 18) (oi := ⟨(some 102), (.fieldAddr 42 (.tmp 101) 1), 0, "law.go:91", #[⟨17, .data⟩, ⟨14, .guard⟩], (some (14, true))⟩) (v := undef) rfl (by kernel_rfl) (by kernel_rfl) (by kernel_rfl) (fun _ _ _ h => h) (Or.inr ⟨rfl, rfl⟩) hHeld ?rest72
                (try simp only [PU])
                refine wpAnyH_take (i := 19) (oi := ⟨(some 103), (.load 25 (.tmp 102)), 25, "law.go:91", #[⟨18, .data⟩, ⟨14, .guard⟩], (some (14, true))⟩) (v := undef) rfl (by kernel_rfl) (by kernel_rfl) (by kernel_rfl) (fun _ _ _ h => h) (Or.inr ⟨rfl, rfl⟩) hHeld ?rest73
                (try simp only [PU])
                refine wpAnyH_take (i := 20) (oi := ⟨(some 104), (.load 25 (.tmp 15)), 25, "law.go:91", #[⟨14, .guard⟩], (some (14, true))⟩) (v := undef) rfl (by kernel_rfl) (by kernel_rfl) (by kernel_rfl) (fun _ _ _ h => h) (Or.inr ⟨rfl, rfl⟩) hHeld ?rest74
                (try simp only [PU])
                refine wpAnyH_take (i := 21) (oi := ⟨(some 105), (.call { callee := (.value (.func 16)), args := #[(.tmp 103), (.tmp 104)], argTypes := #[25, 25] }), 3, "law.go:91", #[⟨19, .data⟩, ⟨20, .data⟩, ⟨14, .chain⟩, ⟨14, .guard⟩], (some (14, true))⟩) (v := undef) rfl (by kernel_rfl) (by kernel_rfl) (by kernel_rfl) (fun _ _ _ h => h) (Or.inr ⟨rfl, rfl⟩) hHeld ?rest75
                (try simp only [PU])
                refine wpAnyH_take (i := 22) (oi := ⟨(some 106), (.binOp .lss 3 (.tmp 105) (.const (.int .i64 0)) 3), 4, "law.go:91", #[⟨21, .data⟩, ⟨14, .guard⟩], (some (14, true))⟩) (v := undef) rfl (by kernel_rfl) (by kernel_rfl) (by kernel_rfl) (fun _ _ _ h => h) (Or.inr ⟨rfl, rfl⟩) hHeld ?rest76
                (try simp only [PU])
                refine wpAnyH_take (i := 23) (oi := ⟨(some 107), (.pick (.tmp 98) (.tmp 106) (.const (.bool false))), 4, "law.go:91", #[⟨14, .data⟩, ⟨22, .data⟩, ⟨12, .guard⟩], (some (12, false))⟩) (v := ?v77) rfl (by kernel_rfl) (by kernel_rfl) (by kernel_rfl) (fun _ _ _ h => h) (Or.inl ⟨rfl, ?hy77⟩) hHeld ?rest77
                case hy77 => (intro w _; go_simp <;> rfl)
                (try simp only [PU])
                refine wpAnyH_take (i := 24) (oi := ⟨(some 108), (.pick (.tmp 96) (.const (.bool true)) (.tmp 107)), 4, "law.go:91", #[⟨12, .data⟩, ⟨23, .data⟩], none⟩) (v := ?v78) rfl (by kernel_rfl) (by kernel_rfl) (by kernel_rfl) (fun _ _ _ h => h) (Or.inl ⟨rfl, ?hy78⟩) hHeld ?rest78
                case hy78 => (intro w _; go_simp <;> rfl)
                (try simp only [PU])
                refine wpAnyH_done (by kernel_rfl) ?_ _
                clear hHeld
                go_wp2_with fail
                go_roundw
                case rel => exact ⟨i + 1, by go_num, by omega, hEr.trans (by with_reducible repeat (first | exact Ext.refl _ | assumption | refine Ext.drew ?_ | refine Ext.drewN ?_ _ | refine Ext.alloc ?_ _))⟩
                case measure => simp [intOf]; omega
              · go_wp2_with (go_at_call 7; ((with_reducible refine (HAL.out _ (hE12.trans hEr)).mono ?_); rintro e w14 ⟨rfl, hx14⟩; skip))
                go_ret
                exact ⟨rfl, hE12.trans (hEr.trans hx14)⟩
          | some bf =>
            obtain rfl := HVV.out bf hvo
            have HBASE := Lib.hid (fun i h => HBV.out (ba, bb) i hvo h)
            clear HVV HBV
            (try rw [hvo])
            clear hvo
            simp only [Option.isSome_some]
            obtain ⟨y15, w12, hy15, hw12, b0, b1, -, -, hz12⟩ := box_frac w11 ba bb 25
            rw [← hw12, ← hy15]
            have hE12 := hE10.trans (hx11.trans hz12)
            replace k0 := (hx11.trans hz12).cell k0
            have HLS := Lib.hid (HL9.out.ext (hx11.trans hz12))
            have HND := Lib.hid (HN0.out w12 (hE12))
            clear hy15 hw12 hz12 hx11 m0 m1 p0 p1 k1 k2 k3
            go_wp2_with fail
            go_loopw [17] (fun u W => ∃ i : Nat, u = .int .i64 i ∧ i ≤ M.length ∧ Ext w12 W) (fun u _ => M.length - (intOf u).toNat)
            case atStart => exact ⟨0, rfl, Nat.zero_le _, Ext.refl _⟩
            case round =>
              obtain ⟨i, rfl, hi, hEr⟩ := hrel
              by_cases hlt : i < M.length
              · obtain ⟨bL, oL, rfl, hcL⟩ := (HLS.out.ext hEr).at_ hlt
                obtain ⟨bn, on, rfl, hcn⟩ := (HND.out.ext hEr).at_ (show i < g.nodes.length by have := HLN.out; omega)
                obtain ⟨-, a0, a1, a2⟩ := hcL i hlt
                obtain ⟨-, n0, -⟩ := hcn i (by have := HLN.out; omega)
                rw [← HID.out i hlt] at n0
                have hil : (i : Int) < (g.nodes.length : Int) := by have := HLN.out; omega
                have HBS := Lib.hid (HBASE.out i hlt)
                have HCM := Lib.hid (fun W => r3_Cmp M[i]!.n M[i]!.d ba bb W)
                generalize cmpS M[i]!.n M[i]!.d ba bb = z at *
                have hzc : decide (z < 0) = false := decide_eq_false (Int.not_lt.2 HBS.out)
                clear hcL hcn
                generalize M[i]! = x at *
                replace b0 := hEr.cell b0
                replace b1 := hEr.cell b1
                replace k0 := hEr.cell k0
                have MK := Lib.hid (fun V (e : Ext wr V) => (⟨e.cell a0, e.cell a1, e.cell a2, e.cell k0, e.cell n0, e.cell b0, e.cell b1⟩ : V.cell? ⟨bL, oL + i * 3, none⟩ = some (.int .i64 x.id) ∧ V.cell? ⟨bL, oL + i * 3 + 1, none⟩ = some (.int .i64 x.n) ∧ V.cell? ⟨bL, oL + i * 3 + 2, none⟩ = some (.int .i64 x.d) ∧ V.cell? ⟨q, 0, none⟩ = some (.slice (some ⟨bn, on, none⟩) g.nodes.length c) ∧ V.cell? ⟨bn, on + i * 3, none⟩ = some (.int .i64 x.id) ∧ V.cell? ⟨y15, 0, none⟩ = some (.int .i64 ba) ∧ V.cell? ⟨y15, 1, none⟩ = some (.int .i64 bb)))
                go_upto_region 14 with (fail)
                refine wp_region_held_drew (S := (fun V => V.cell? ⟨bL, oL + i * 3, none⟩ = some (.int .i64 x.id) ∧ V.cell? ⟨bL, oL + i * 3 + 1, none⟩ = some (.int .i64 x.n) ∧ V.cell? ⟨bL, oL + i * 3 + 2, none⟩ = some (.int .i64 x.d) ∧ V.cell? ⟨q, 0, none⟩ = some (.slice (some ⟨bn, on, none⟩) g.nodes.length c) ∧ V.cell? ⟨bn, on + i * 3, none⟩ = some (.int .i64 x.id) ∧ V.cell? ⟨y15, 0, none⟩ = some (.int .i64 ba) ∧ V.cell? ⟨y15, 1, none⟩ = some (.int .i64 bb))) (by kernel_rfl) ?hs79 (fun hHeld => ?go79)
                case hs79 => (exact MK.out _ (by with_reducible repeat (first | exact Ext.refl _ | assumption | refine Ext.drew ?_ | refine Ext.drewN ?_ _ | refine Ext.alloc ?_ _)))
                refine wpAnyH_take (i := 0) (oi := ⟨(some 84), (.move (.tmp 9)), 22, "law.go:91", #[], none⟩) (v := ?v80) rfl (by kernel_rfl) (by kernel_rfl) (by kernel_rfl) (fun _ _ _ h => h) (Or.inl ⟨rfl, ?hy80⟩) hHeld ?rest80
                case hy80 => (intro w _; go_simp <;> rfl)
                (try simp only [PU])
                refine wpAnyH_take (i := 1) (oi := ⟨(some 85), (.move (.tmp 17)), 3, "law.go:91", #[], none⟩) (v := ?v81) rfl (by kernel_rfl) (by kernel_rfl) (by kernel_rfl) (fun _ _ _ h => h) (Or.inl ⟨rfl, ?hy81⟩) hHeld ?rest81
                case hy81 => (intro w _; go_simp <;> rfl)
                (try simp only [PU])
                refine wpAnyH_take (i := 2) (oi := ⟨(some 86), (.indexAddr 22 (.tmp 84) (.tmp 85)), 0, "law.go:91", #[⟨0, .data⟩, ⟨1, .data⟩], none⟩) (v := ?v82) rfl (by kernel_rfl) (by kernel_rfl) (by kernel_rfl) (fun _ _ _ h => h) (Or.inl ⟨rfl, ?hy82⟩) hHeld ?rest82
                case hy82 => (intro w _; go_simp <;> first | with_reducible rfl | rw [if_neg (by omega)] | rw [if_pos (by omega)])
                (try simp only [PU])
                refine wpAnyH_take (i := 3) (oi := ⟨(some 87), (.fieldAddr 42 (.tmp 86) 0), 0, "law.go:91", #[⟨2, .data⟩], none⟩) (v := ?v83) rfl (by kernel_rfl) (by kernel_rfl) (by kernel_rfl) (fun _ _ _ h => h) (Or.inl ⟨rfl, ?hy83⟩) hHeld ?rest83
                case hy83 => (intro w _; go_simp <;> rfl)
                (try simp only [PU])
                refine wpAnyH_take (i := 4) (oi := ⟨(some 88), (.load 3 (.tmp 87)), 3, "law.go:91", #[⟨3, .data⟩], none⟩) (v := ?v84) rfl (by kernel_rfl) (by kernel_rfl) (by kernel_rfl) (fun _ _ _ h => h) (Or.inl ⟨rfl, ?hy84⟩) hHeld ?rest84
                case hy84 => (intro w hSw; (try dsimp only at hSw); go_simp <;> first | with_reducible rfl | rw [if_neg (by omega)] | rw [if_pos (by omega)])
                (try simp only [PU])
                refine wpAnyH_take (i := 5) (oi := ⟨(some 89), (.fieldAddr 34 (.tmp 4) 0), 0, "law.go:91", #[], none⟩) (v := ?v85) rfl (by kernel_rfl) (by kernel_rfl) (by kernel_rfl) (fun _ _ _ h => h) (Or.inl ⟨rfl, ?hy85⟩) hHeld ?rest85
                case hy85 => (intro w _; go_simp <;> rfl)
                (try simp only [PU])
                refine wpAnyH_take (i := 6) (oi := ⟨(some 90), (.load 31 (.tmp 89)), 31, "law.go:91", #[⟨5, .data⟩], none⟩) (v := ?v86) rfl (by kernel_rfl) (by kernel_rfl) (by kernel_rfl) (fun _ _ _ h => h) (Or.inl ⟨rfl, ?hy86⟩) hHeld ?rest86
                case hy86 => (intro w hSw; (try dsimp only at hSw); go_simp <;> first | with_reducible rfl | rw [if_neg (by omega)] | rw [if_pos (by omega)])
                (try simp only [PU])
                refine wpAnyH_take (i := 7) (oi := ⟨(some 91), (.move (.tmp 17)), 3, "law.go:91", #[], none⟩) (v := ?v87) rfl (by kernel_rfl) (by kernel_rfl) (by kernel_rfl) (fun _ _ _ h => h) (Or.inl ⟨rfl, ?hy87⟩) hHeld ?rest87
                case hy87 => (intro w _; go_simp <;> rfl)
                (try simp only [PU])
                refine wpAnyH_take (i := 8) (oi := ⟨(some 92), (.indexAddr 31 (.tmp 90) (.tmp 91)), 0, "law.go:91", #[⟨6, .data⟩, ⟨7, .data⟩], none⟩) (v := ?v88) rfl (by kernel_rfl) (by kernel_rfl) (by kernel_rfl) (fun _ _ _ h => h) (Or.inl ⟨rfl, ?hy88⟩) hHeld ?rest88
                case hy88 => (intro w _; go_simp <;> first | with_reducible rfl | rw [if_neg (by omega)] | rw [if_pos (by omega)])
                (try simp only [PU])
                refine wpAnyH_take (i := 9) (oi := ⟨(some 93), (.fieldAddr 45 (.tmp 92) 0), 0, "law.go:91", #[⟨8, .data⟩], none⟩) (v := ?v89) rfl (by kernel_rfl) (by kernel_rfl) (by kernel_rfl) (fun _ _ _ h => h) (Or.inl ⟨rfl, ?hy89⟩) hHeld ?rest89
                case hy89 => (intro w _; go_simp <;> rfl)
                (try simp only [PU])
                refine wpAnyH_take (i := 10) (oi := ⟨(some 94), (.load 3 (.tmp 93)), 3, "law.go:91", #[⟨9, .data⟩], none⟩) (v := ?v90) rfl (by kernel_rfl) (by kernel_rfl) (by kernel_rfl) (fun _ _ _ h => h) (Or.inl ⟨rfl, ?hy90⟩) hHeld ?rest90
                case hy90 => (intro w hSw; (try dsimp only at hSw); go_simp <;> first | with_reducible rfl | rw [if_neg (by omega)] | rw [if_pos (by omega)])
                (try simp only [PU])
                refine wpAnyH_take (i := 11) (oi := ⟨(some 95), (.binOp .neq 3 (.tmp 88) (.tmp 94) 3), 4, "law.go:91", #[⟨4, .data⟩, ⟨10, .data⟩], none⟩) (v := ?v91) rfl (by kernel_rfl) (by kernel_rfl) (by kernel_rfl) (fun _ _ _ h => h) (Or.inl ⟨rfl, ?hy91⟩) hHeld ?rest91
                case hy91 => (intro w _; go_simp <;> first | with_reducible rfl | rw [if_neg (by omega)] | rw [if_pos (by omega)])
                (try simp only [PU])
                refine wpAnyH_take (i := 12) (oi := ⟨(some 96), (.move (.tmp 95)), 4, "law.go:91", #[⟨11, .data⟩], none⟩) (v := ?v92) rfl (by kernel_rfl) (by kernel_rfl) (by kernel_rfl) (fun _ _ _ h => h) (Or.inl ⟨rfl, ?hy92⟩) hHeld ?rest92
                case hy92 => (intro w _; go_simp <;> rfl)
                (try simp only [PU])
                refine wpAnyH_take (i := 13) (oi := ⟨(some 97), (.move (.tmp 16)), 4, "law.go:91", #[⟨12, .guard⟩], (some (12, false))⟩) (v := ?v93) rfl (by kernel_rfl) (by kernel_rfl) (by kernel_rfl) (fun _ _ _ h => h) (Or.inl ⟨rfl, ?hy93⟩) hHeld ?rest93
                case hy93 => (intro w _; go_simp <;> rfl)
                (try simp only [PU])
                refine wpAnyH_take (i := 14) (oi := ⟨(some 98), (.move (.tmp 97)), 4, "law.go:91", #[⟨13, .data⟩, ⟨12, .chain⟩, ⟨12, .guard⟩], (some (12, false))⟩) (v := ?v94) rfl (by kernel_rfl) (by kernel_rfl) (by kernel_rfl) (fun _ _ _ h => h) (Or.inl ⟨rfl, ?hy94⟩) hHeld ?rest94
                case hy94 => (intro w _; go_simp <;> rfl)
                (try simp only [PU])
                refine wpAnyH_take (i := 15) (oi := ⟨(some 99), (.move (.tmp 9)), 22, "law.go:91", #[⟨14, .guard⟩], (some (14, true))⟩) (v := ?v95) rfl (by kernel_rfl) (by kernel_rfl) (by kernel_rfl) (fun _ _ _ h => h) (Or.inl ⟨rfl, ?hy95⟩) hHeld ?rest95
                case hy95 => (intro w _; go_simp <;> rfl)
                (try simp only [PU])
                refine wpAnyH_take (i := 16) (oi := ⟨(some 100), (.move (.tmp 17)), 3, "law.go:91", #[⟨14, .guard⟩], (some (14, true))⟩) (v := ?v96) rfl (by kernel_rfl) (by kernel_rfl) (by kernel_rfl) (fun _ _ _ h => h) (Or.inl ⟨rfl, ?hy96⟩) hHeld ?rest96
                case hy96 => (intro w _; go_simp <;> rfl)
                (try simp only [PU])
                refine wpAnyH_take (i := 17) (oi := ⟨(some 101), (.indexAddr 22 (.tmp 99) (.tmp 100)), 0, "law.go:91", #[⟨15, .data⟩, ⟨16, .data⟩, ⟨14, .guard⟩], (some (14, true))⟩) (v := ?v97) rfl (by kernel_rfl) (by kernel_rfl) (by kernel_rfl) (fun _ _ _ h => h) (Or.inl ⟨rfl, ?hy97⟩) hHeld ?rest97
                case hy97 => (intro w _; go_simp <;> first | with_reducible rfl | rw [if_neg (by omega)] | rw [if_pos (by omega)])
                (try simp only [PU])
                refine wpAnyH_take (i := 18) (oi := ⟨(some 102), (.fieldAddr 42 (.tmp 101) 1), 0, "law.go:91", #[⟨17, .data⟩, ⟨14, .guard⟩], (some (14, true))⟩) (v := ?v98) rfl (by kernel_rfl) (by kernel_rfl) (by kernel_rfl) (fun _ _ _ h => h) (Or.inl ⟨rfl, ?hy98⟩) hHeld ?rest98
                case hy98 => (intro w _; go_simp <;> rfl)
                (try simp only [PU])
                refine wpAnyH_take (i := 19) (oi := ⟨(some 103), (.load 25 (.tmp 102)), 25, "law.go:91", #[⟨18, .data⟩, ⟨14, .guard⟩], (some (14, true))⟩) (v := ?v99) rfl (by kernel_rfl) (by kernel_rfl) (by kernel_rfl) (fun _ _ _ h => h) (Or.inl ⟨rfl, ?hy99⟩) hHeld ?rest99
                case hy99 => (intro w hSw; (try dsimp only at hSw); go_simp <;> first | with_reducible rfl | rw [if_neg (by omega)] | rw [if_pos (by omega)])
                (try simp only [PU])
                refine wpAnyH_take (i := 20) (oi := ⟨(some 104), (.load 25 (.tmp 15)), 25, "law.go:91", #[⟨14, .guard⟩], (some (14, true))⟩) (v := ?v100) rfl (by kernel_rfl) (by kernel_rfl) (by kernel_rfl) (fun _ _ _ h => h) (Or.inl ⟨rfl, ?hy100⟩) hHeld ?rest100
                case hy100 => (intro w hSw; (try dsimp only at hSw); go_simp <;> first | with_reducible rfl | rw [if_neg (by omega)] | rw [if_pos (by omega)])
                (try simp only [PU])
                refine wpAnyH_ready (rs := [21]) (by kernel_rfl) (by simp) ?_
                refine AllReadyH.cons (o := ⟨(some 105), (.call { callee := (.value (.func 16)), args := #[(.tmp 103), (.tmp 104)], argTypes := #[25, 25] }), 3, "law.go:91", #[⟨19, .data⟩, ⟨20, .data⟩, ⟨14, .chain⟩, ⟨14, .guard⟩], (some (14, true))⟩) rfl (fun K hK => ?step101x0) ?more101x0
                case more101x0 => exact AllReadyH.nil
                go_simp
                (refine (HCM.out _).mono ?_; rintro e w13 ⟨rfl, hb13⟩; have hx13 : Ext wr w13 := Ext.trans (by with_reducible repeat (first | exact Ext.refl _ | assumption | refine Ext.drew ?_ | refine Ext.drewN ?_ _ | refine Ext.alloc ?_ _)) (of_below hb13))
                refine hK.out _ _ ?hS101x0 (fun hHeld101 => ?rest101x0)
                case hS101x0 => first | (exact MK.out _ (by with_reducible repeat (first | exact Ext.refl _ | assumption | refine Ext.drew ?_ | refine Ext.drewN ?_ _ | refine Ext.alloc ?_ _))) | ((try dsimp only); (exact MK.out _ (by with_reducible repeat (first | exact Ext.refl _ | assumption | refine Ext.drew ?_ | refine Ext.drewN ?_ _ | refine Ext.alloc ?_ _))))
                clear hK K
                clear hHeld
                (try simp only [PU])
                refine wpAnyH_take (i := 22) (oi := ⟨(some 106), (.binOp .lss 3 (.tmp 105) (.const (.int .i64 0)) 3), 4, "law.go:91", #[⟨21, .data⟩, ⟨14, .guard⟩], (some (14, true))⟩) (v := ?v102) rfl (by kernel_rfl) (by kernel_rfl) (by kernel_rfl) (fun _ _ _ h => h) (Or.inl ⟨rfl, ?hy102⟩) hHeld101 ?rest102
                case hy102 => (intro w _; go_simp <;> first | with_reducible rfl | rw [if_neg (by omega)] | rw [if_pos (by omega)])
                (try simp only [PU])
                refine wpAnyH_take (i := 23) (oi := ⟨(some 107), (.pick (.tmp 98) (.tmp 106) (.const (.bool false))), 4, "law.go:91", #[⟨14, .data⟩, ⟨22, .data⟩, ⟨12, .guard⟩], (some (12, false))⟩) (v := ?v103) rfl (by kernel_rfl) (by kernel_rfl) (by kernel_rfl) (fun _ _ _ h => h) (Or.inl ⟨rfl, ?hy103⟩) hHeld101 ?rest103
                case hy103 => (intro w _; go_simp <;> rfl)
                (try simp only [PU])
                refine wpAnyH_take (i := 24) (oi := ⟨(some 108), (.pick (.tmp 96) (.const (.bool true)) (.tmp 107)), 4, "law.go:91", #[⟨12, .data⟩, ⟨23, .data⟩], none⟩) (v := ?v104) rfl (by kernel_rfl) (by kernel_rfl) (by kernel_rfl) (fun _ _ _ h => h) (Or.inl ⟨rfl, ?hy104⟩) hHeld101 ?rest104
                case hy104 => (intro w _; go_simp <;> rfl)
                (try simp only [PU])
                refine wpAnyH_done (by kernel_rfl) ?_ _
                clear hHeld101
                go_wp2_with fail
                go_roundw
                case rel => exact ⟨i + 1, by go_num, by omega, hEr.trans hx13⟩
                case measure => simp [intOf]; omega
              · go_wp2_with (go_at_call 7; ((with_reducible refine (HAL.out _ (hE12.trans hEr)).mono ?_); rintro e w14 ⟨rfl, hx14⟩; skip))
                go_ret
                exact ⟨rfl, hE12.trans (hEr.trans hx14)⟩
      · have hM := HBD.out hze
        dsimp only at hM
        subst hM
        have hzz : (z != 0) = true := bne_iff_ne.2 hze
        clear HGD HBD hze HN0 hz
        go_enter Tryd.func4, Tryd.ntmps4
        go_upto_region 1 with (fail)
        rw [← HW.out, ← HG.out]
        clear HW HG
        go_wp2_with (first | (go_at_call 12; ((with_reducible refine (HFW.out _).mono ?_); rintro e w3 ⟨rfl, hx3⟩; have k0 := hx3.cell g0; have k1 := hx3.cell g1; have k2 := hx3.cell g2; have k3 := hx3.cell g3; have p0 := hx3.cell d0; have p1 := hx3.cell d1)) | (go_at_call 13; ((with_reducible refine (HRP.out _ (hx2.trans hx3)).mono ?_); rintro e w5 ⟨⟨A5, c5, rfl, hc5, hS5⟩, hx5⟩; skip)) | (go_at_call 7; ((with_reducible refine (HAL.out _ (hx2.trans (hx3.trans hx5))).mono ?_); rintro e w6 ⟨rfl, hx6⟩; skip)))
        go_ret
        exact ⟨rfl, hx2.trans (hx3.trans (hx5.trans hx6))⟩
end Go.Proofs.YtlkpmbkmmfoakaaDoor

/- A GRAPH'S BOX whose edges are being gathered: an own row of edges (five cells each). -/
namespace Go.Proofs.YtlkpmbkmmfoakaaDoor
open Go.RowKit
theorem El_edge : ElT Tryd.prog 32 55 5 64 := ⟨Tryd.underlying32, ⟨.agg #[.int .i64 0, .int .i64 0, .int .i64 0, .string ByteArray.empty, .slice none 0 0], by kernel_rfl, rfl⟩, by decide⟩
/-- an edge, and where its properties lie -/
structure EH where
  e : EdgeG
  B : Option Addr
  d : Nat
def EH.cells (x : EH) : List Value := [.int .i64 x.e.id, .int .i64 x.e.frm, .int .i64 x.e.to_, .string x.e.typ, .slice x.B x.e.props.length x.d]
structure LessW (wB : World) (q : Nat) (A : Option Addr) (c : Nat) (g : GraphG) (H : List EH) (v : Value) (W : World) : Prop where
  ext : Ext wB W
  c0 : W.cell? ⟨q, 0, none⟩ = some (.slice A g.nodes.length c)
  c1 : W.cell? ⟨q, 1, none⟩ = some v
  c2 : W.cell? ⟨q, 2, none⟩ = some (.int .i64 g.nn)
  c3 : W.cell? ⟨q, 3, none⟩ = some (.int .i64 g.ne)
  fz : W.frozen? ⟨q, 1, none⟩ = false
  hq : wB.heap.size ≤ q
  own : W.ownsRow (q + 1) 55 5 v H.length (H.flatMap EH.cells)
  lies : ∀ x ∈ H, x.e.props.length ≤ x.d ∧ Props wB (fun _ => True) x.B x.e.props
section
variable {wB w1 W W' : World} {q c : Nat} {A : Option Addr} {g : GraphG} {H : List EH} {v v' : Value}
theorem LessW.to (h : LessW wB q A c g H v W) (e : Ext W W') : LessW wB q A c g H v W' :=
  ⟨h.ext.trans e, e.cell h.c0, e.cell h.c1, e.cell h.c2, e.cell h.c3, (frozen_heap (a := W) (e.block _ (block_lt_of_cell h.c1))).trans h.fz, h.hq, own_ext h.own e, h.lies⟩
theorem LessW.push (h : LessW wB q A c g H v W) (hg : W.grownBy W' v.ownBlock) (x : EH) (hx : x.e.props.length ≤ x.d ∧ Props wB (fun _ => True) x.B x.e.props) (hO : W'.ownsRow (q + 1) 55 5 v' (H.length + 1) (H.flatMap EH.cells ++ x.cells)) : LessW wB q A c g (H ++ [x]) v' (W'.setCell ⟨q, 1, none⟩ v') := by
  have hn : v.ownBlock ≠ some q := fun e => by have := (World.ownsRow.lt h.own _ e).1; omega
  have hn' : v'.ownBlock ≠ some q := fun e => by have := (World.ownsRow.lt hO _ e).1; omega
  have e0 : Ext wB W' := Ext.grown h.ext hg (fun k hk => by have := (World.ownsRow.lt h.own _ hk).1; have := h.hq; omega)
  have f : ∀ {j : Nat} {u : Value}, j ≠ 1 → W.cell? ⟨q, j, none⟩ = some u → (W'.setCell ⟨q, 1, none⟩ v').cell? ⟨q, j, none⟩ = some u := fun hj hc => by
    rw [World.cell?_setCell_other _ _ _ _ (fun e => by injection e with _ e2; exact hj e2.symm)]
    exact hg.cell hc (fun e => hn e.symm)
  have c := hg.cell h.c1 (fun e => hn e.symm)
  refine ⟨e0.setCell h.hq _, f (by decide) h.c0, World.cell?_setCell_same' _ _ _ (by rw [c]; rfl), f (by decide) h.c2, f (by decide) h.c3, ?_, h.hq, ?_, ?_⟩
  · rw [World.frozen?_setCell]; exact frozen_grown hg h.c1 h.fz (fun e => hn e.symm)
  · rw [List.length_append, List.flatMap_append, List.flatMap_singleton]
    exact ownsRow_setCell_other hO hn' _
  · intro y hy
    rcases List.mem_append.1 hy with h1 | h1
    · exact h.lies y h1
    · rw [List.mem_singleton.1 h1]; exact hx
theorem LessW.graph (h : LessW wB q A c g H v W) (hn : Nodes wB (fun _ => True) A g.nodes) {E : List EdgeG} (hm : H.map EH.e = E) (hl : E.length ≤ 140737488355328) : ∃ B d, v = .slice B E.length d ∧ E.length ≤ d ∧ GraphAt W (fun _ => True) A B { g with edges := E } := by
  subst hm
  have hlen : (H.map EH.e).length = H.length := List.length_map _
  obtain ⟨B, d, hv, hd, hs⟩ := own_sliceR (w := W) (cs := H.map EH.cells) (l := H.map EH.e) (R := EdgeC W (fun _ => True)) (by rw [← List.flatMap_def]; exact h.own) hlen.symm (by rw [List.length_map, hlen]) (fun x hx => by
    obtain ⟨y, -, rfl⟩ := List.mem_map.1 hx
    rfl) hl (fun b _ _ k hk hk' hu => by
    rw [hlen] at hk
    rw [List.getElem_map] at hu ⊢
    have hl := h.lies _ (List.getElem_mem hk)
    generalize H[k] = x at *
    exact ⟨trivial, by have := hu 0 (.int .i64 x.e.id) rfl; simpa using this, hu 1 _ rfl, hu 2 _ rfl, hu 3 _ rfl, x.B, x.d, hu 4 _ rfl, hl.1, hl.2.ext h.ext⟩)
  exact ⟨B, d, hv, hd, SliceR.mono hn (fun _ _ _ _ hx => NodeC.ext hx h.ext), hs⟩
theorem LessW.start (h0 : w1.cell? ⟨q, 0, none⟩ = some (.slice A g.nodes.length c)) (h1 : w1.cell? ⟨q, 1, none⟩ = some (.slice none 0 0)) (h2 : w1.cell? ⟨q, 2, none⟩ = some (.int .i64 g.nn)) (h3 : w1.cell? ⟨q, 3, none⟩ = some (.int .i64 g.ne)) (fz : w1.frozen? ⟨q, 1, none⟩ = false) (hx : Ext wB w1) (hq : wB.heap.size ≤ q) : LessW wB q A c g [] (.slice none 0 0) w1 :=
  ⟨hx, h0, h1, h2, h3, fz, hq, World.ownsRow_nil _ _ _ _, fun x hx => absurd hx (by simp)⟩
end
theorem take_less {E : List EdgeG} {p : EdgeG → Bool} {i : Nat} (hi : i < E.length) : (E.take (i + 1)).filter p = (E.take i).filter p ++ (if p E[i]! then [E[i]!] else []) := by
  rw [List.take_succ_eq_append_getElem hi, List.filter_append, getElem!_pos E i hi]
  congr 1
  rw [List.filter_cons, List.filter_nil]
/-- a copy of a graph without edges -/
theorem box_less (w : World) (A : Option Addr) (c : Nat) (g : GraphG) (t : TypeId) : ∃ (q : Nat) (w1 : World), q = w.heap.size ∧ w1 = w.alloc (.cells #[.slice A g.nodes.length c, .slice none 0 0, .int .i64 g.nn, .int .i64 g.ne] t) ∧ w1.cell? ⟨q, 0, none⟩ = some (.slice A g.nodes.length c) ∧ w1.cell? ⟨q, 1, none⟩ = some (.slice none 0 0) ∧ w1.cell? ⟨q, 2, none⟩ = some (.int .i64 g.nn) ∧ w1.cell? ⟨q, 3, none⟩ = some (.int .i64 g.ne) ∧ w1.frozen? ⟨q, 1, none⟩ = false ∧ Ext w w1 ∧ w.heap.size ≤ q :=
  ⟨_, _, rfl, rfl, by go_simp, by go_simp, by go_simp, by go_simp, by go_simp, (Ext.refl _).alloc _, Nat.le_refl _⟩
/-- one string in a block of its own -/
theorem strs_one (w : World) (s : ByteArray) (t : TypeId) : Strs (w.alloc (.cells #[.string s] t)) (fun _ => True) (some ⟨w.heap.size, 0, none⟩) [s] :=
  ⟨by simp, fun _ => ⟨_, _, rfl, fun k hk => by
    have : k = 0 := by simp at hk; exact hk
    subst this
    exact ⟨trivial, by go_simp⟩⟩⟩
end Go.Proofs.YtlkpmbkmmfoakaaDoor
