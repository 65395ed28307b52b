/- PARTS OF THE WALKS, joined: RkH. -/
import Derived.Test.YtlkpmbkmmfoakaaDoorU11
/- WHAT THE PROGRAM'S STEP KEEPS, plain: three maps, a sum, a flag; what they tell of the reference's step. -/
namespace Go.Proofs.YtlkpmbkmmfoakaaDoor
open Go.RowKit
def frV (f : Fr) : Value := .agg #[.int .i64 f.1, .int .i64 f.2]
abbrev lk (i : Int) : Lit := .int .i64 i
theorem lk_ne {i j : Int} (h : i ≠ j) : lk i ≠ lk j := fun e => h (by unfold lk at e; injection e)
def Dist (l : List Sh) : Prop := ∀ i j, i < j → j < l.length → l[i]!.id < l[j]!.id
theorem Dist.ne {l : List Sh} (h : Dist l) {i j : Nat} (hi : i < l.length) (hj : j < l.length) (hne : i ≠ j) : l[i]!.id ≠ l[j]!.id := by
  rcases Nat.lt_or_gt_of_ne hne with h1 | h1
  · have := h i j h1 hj; omega
  · have := h j i h1 hi; omega
theorem Dist.share {l : List Sh} (h : Dist l) {k : Nat} (hk : k < l.length) : shareOf l l[k]!.id = (l[k]!.n, l[k]!.d) :=
  shareOf_at k hk (fun j hj => h.ne (by omega) hk (by omega)) rfl
theorem hasN_ex {l : List NodeG} {i : Int} (h : hasN l i = true) : ∃ j < l.length, l[j]!.id = i := by
  unfold hasN at h
  rw [List.any_eq_true] at h
  obtain ⟨x, hx, he⟩ := h
  obtain ⟨j, hj, rfl⟩ := List.getElem_of_mem hx
  exact ⟨j, hj, by rw [getElem!_pos l j hj]; exact of_decide_eq_true he⟩
theorem chkG_parts {g : GraphG} (h : chkG g = 0) : nodesE g = 0 ∧ edgesE g = 0 := by
  unfold chkG at h
  split at h
  · split at h
    · rename_i h2; exact ⟨h2, h⟩
    · rename_i h2; exact absurd h h2
  · rename_i h1; exact absurd h h1
theorem chkG_nn {g : GraphG} (h : chkG g = 0) : g.nn ≤ 1000001 := by
  unfold chkG at h
  split at h
  · rename_i h1
    unfold headE at h1
    split at h1
    · cases h1
    · split at h1
      · cases h1
      · omega
  · rename_i h1; exact absurd h h1
theorem edge_ends {g : GraphG} (h : chkG g = 0) {k : Nat} (hk : k < g.edges.length) : hasN g.nodes g.edges[k]!.frm = true ∧ hasN g.nodes g.edges[k]!.to_ = true := by
  have h1 := firstE_all (chkG_parts h).2 k hk
  unfold edgeE at h1
  split at h1
  · cases h1
  · split at h1
    · cases h1
    · split at h1
      · rename_i h3; rwa [Bool.and_eq_true] at h3
      · cases h1
theorem dist_of {g : GraphG} {l : List Sh} (h : chkG g = 0) (hf : fitsB g l = true) : Dist l := by
  obtain ⟨h1, h2⟩ := fitsB_iff.1 hf
  intro i j hij hj
  rw [(h2 i (by omega)).1, (h2 j hj).1]
  exact nodes_lt (chkG_parts h).1 hij (by omega)
theorem id_rng {g : GraphG} {l : List Sh} (h : chkG g = 0) (hf : fitsB g l = true) {k : Nat} (hk : k < l.length) : 1 ≤ l[k]!.id ∧ l[k]!.id ≤ 1000001 := by
  obtain ⟨h1, h2⟩ := fitsB_iff.1 hf
  have h3 := nodes_rise (chkG_parts h).1 (i := k) (by omega)
  have h4 := chkG_nn h
  rw [(h2 k hk).1]; omega
theorem ends_of {g : GraphG} {l : List Sh} (h : chkG g = 0) (hf : fitsB g l = true) {k : Nat} (hk : k < g.edges.length) : (∃ j < l.length, l[j]!.id = g.edges[k]!.frm) ∧ (∃ j < l.length, l[j]!.id = g.edges[k]!.to_) := by
  obtain ⟨h1, h2⟩ := fitsB_iff.1 hf
  obtain ⟨h3, h4⟩ := edge_ends h hk
  obtain ⟨j, hj, e⟩ := hasN_ex h3
  obtain ⟨j', hj', e'⟩ := hasN_ex h4
  exact ⟨⟨j, by omega, by rw [(h2 j (by omega)).1]; exact e⟩, ⟨j', by omega, by rw [(h2 j' (by omega)).1]; exact e'⟩⟩
section
variable (types : List ByteArray) (E : List EdgeG) (damp : Fr) (l : List Sh)
abbrev degE : Int → Nat := fun i => degN types E i
abbrev baseO : Option Fr := (subO (1, 1) damp).bind (fun x => divO x ((l.length : Int), 1))
abbrev stepN : Option (List Sh) := stepR types E damp l (l.length : Int)
variable {types E damp l}
theorem stepN_rest (h : restV (degE types E) l (l.length : Int) = none) : stepN types E damp l = none := by unfold stepN stepR; rw [show restV (fun i => degN types E i) l (l.length : Int) = none from h]; rfl
theorem stepN_base (h : baseO damp l = none) : stepN types E damp l = none := by
  unfold stepN stepR
  cases restV (fun i => degN types E i) l (l.length : Int) with
  | none => rfl
  | some r => rw [Option.bind_some, show (subO (1, 1) damp).bind (fun x => divO x ((l.length : Int), 1)) = none from h]; rfl
theorem stepN_on {r b : Fr} (h1 : restV (degE types E) l (l.length : Int) = some r) (h2 : baseO damp l = some b) : stepN types E damp l = outsO (outFn types E l r b damp) l := by
  unfold stepN stepR
  rw [show restV (fun i => degN types E i) l (l.length : Int) = some r from h1, Option.bind_some, show (subO (1, 1) damp).bind (fun x => divO x ((l.length : Int), 1)) = some b from h2, Option.bind_some]; rfl
theorem outs_fail {f : Sh → Option Sh} {k : Nat} (hk : k < l.length) (h : f l[k]! = none) : outsO f l = none := by
  refine outsO_none (k := k + 1) ?_
  rw [outsO_snoc _ _ _ hk]; unfold outsStep
  cases outsO f (l.take k) with
  | none => rfl
  | some O => rw [Option.bind_some, h]; rfl
theorem stepN_in {k : Nat} (hk : k < l.length) (h : inO types (degE types E) l E l[k]!.id = none) : stepN types E damp l = none := by
  cases h1 : restV (degE types E) l (l.length : Int) with
  | none => exact stepN_rest h1
  | some r =>
    cases h2 : baseO damp l with
    | none => exact stepN_base h2
    | some b =>
      rw [stepN_on h1 h2]
      refine outs_fail hk ?_
      unfold outFn outF; rw [show inO types (fun i => degN types E i) l E l[k]!.id = none from h]; rfl
/-- the first loop: shares and noughts -/
def Rel0 (l : List Sh) (k : Nat) (gs gi : Lit → Option Value) : Prop := ∀ j < k, gs (lk l[j]!.id) = some (frV (l[j]!.n, l[j]!.d)) ∧ gi (lk l[j]!.id) = some (frV (0, 1))
theorem Rel0.next {gs gi : Lit → Option Value} {k : Nat} (hd : Dist l) (hk : k < l.length) (h : Rel0 l k gs gi) : Rel0 l (k + 1) (putM gs (lk l[k]!.id) (frV (l[k]!.n, l[k]!.d))) (putM gi (lk l[k]!.id) (frV (0, 1))) := by
  intro j hj
  by_cases e : j = k
  · subst e; exact ⟨putM_same _ _ _, putM_same _ _ _⟩
  · have hne := lk_ne (hd.ne (by omega) hk e)
    rw [putM_other _ _ hne, putM_other _ _ hne]; exact h j (by omega)
/-- the second loop: degrees -/
def Rel2 (types : List ByteArray) (E : List EdgeG) (k : Nat) (gd : Lit → Option Value) : Prop := ∀ i, (gd (lk i)).getD (.int .i64 0) = .int .i64 (degN types (E.take k) i : Int)
theorem Rel2.zero : Rel2 types E 0 (fun _ => none) := fun _ => rfl
theorem Rel2.skip {gd : Lit → Option Value} {k : Nat} (hk : k < E.length) (h : Rel2 types E k gd) (ht : typB types E[k]!.typ = false) : Rel2 types E (k + 1) gd := by
  intro i; rw [degN_snoc _ _ _ _ hk, ht, Bool.and_false]; simpa using h i
theorem Rel2.next {gd : Lit → Option Value} {k : Nat} (hk : k < E.length) (h : Rel2 types E k gd) (ht : typB types E[k]!.typ = true) : Rel2 types E (k + 1) (putM gd (lk E[k]!.frm) (.int .i64 ((degN types (E.take k) E[k]!.frm : Int) + 1))) := by
  intro i
  rw [degN_snoc _ _ _ _ hk, ht, Bool.and_true]
  by_cases e : i = E[k]!.frm
  · subst e; rw [putM_same]; simp
  · rw [putM_other _ _ (lk_ne e), h i, decide_eq_false (fun h => e h.symm)]; simp
/-- the third loop: the rest -/
def Rel4 (types : List ByteArray) (E : List EdgeG) (damp : Fr) (l : List Sh) (k : Nat) (r : Fr) (ov : Bool) : Prop := (ov = true → stepN types E damp l = none) ∧ (ov = false → restO (degE types E) (l.take k) = some r)
theorem Rel4.zero : Rel4 types E damp l 0 (0, 1) false := ⟨fun h => Bool.noConfusion h, fun _ => rfl⟩
theorem restO_fail {k : Nat} (h : restO (degE types E) (l.take k) = none) : stepN types E damp l = none := stepN_rest (by unfold restV; rw [restO_none h]; rfl)
theorem Rel4.skip {k : Nat} {r : Fr} {ov : Bool} (hk : k < l.length) (h : Rel4 types E damp l k r ov) (hz : degN types E l[k]!.id ≠ 0) : Rel4 types E damp l (k + 1) r ov :=
  ⟨h.1, fun e => by rw [restO_snoc _ _ _ hk, h.2 e]; unfold restStep; rw [if_neg hz]⟩
theorem Rel4.next {k : Nat} {r : Fr} {ov : Bool} (hk : k < l.length) (h : Rel4 types E damp l k r ov) (hz : degN types E l[k]!.id = 0) : Rel4 types E damp l (k + 1) (orZ (addO r (l[k]!.n, l[k]!.d))) (ov || (addO r (l[k]!.n, l[k]!.d)).isNone) := by
  cases ov with
  | true => exact ⟨fun _ => h.1 rfl, fun e => by simp at e⟩
  | false =>
    have h1 := h.2 rfl
    have h2 : restO (degE types E) (l.take (k + 1)) = addO r (l[k]!.n, l[k]!.d) := by rw [restO_snoc _ _ _ hk, h1]; unfold restStep; rw [if_pos hz, Option.bind_some]
    cases h3 : addO r (l[k]!.n, l[k]!.d) with
    | none => exact ⟨fun _ => restO_fail (h2.trans h3), fun e => by simp at e⟩
    | some f => exact ⟨fun e => by simp at e, fun _ => by rw [h2, h3]; rfl⟩
def Rel5 (types : List ByteArray) (E : List EdgeG) (damp : Fr) (l : List Sh) (r : Fr) (ov : Bool) : Prop := (ov = true → stepN types E damp l = none) ∧ (ov = false → restV (degE types E) l (l.length : Int) = some r)
theorem Rel4.div {k : Nat} {r : Fr} {ov : Bool} (hk : ¬ k < l.length) (h : Rel4 types E damp l k r ov) : Rel5 types E damp l (orZ (divO r ((l.length : Int), 1))) (ov || (divO r ((l.length : Int), 1)).isNone) := by
  cases ov with
  | true => exact ⟨fun _ => h.1 rfl, fun e => by simp at e⟩
  | false =>
    have h1 := h.2 rfl
    rw [List.take_of_length_le (by omega)] at h1
    have h2 : restV (degE types E) l (l.length : Int) = divO r ((l.length : Int), 1) := by unfold restV; rw [h1, Option.bind_some]
    cases h3 : divO r ((l.length : Int), 1) with
    | none => exact ⟨fun _ => stepN_rest (h2.trans h3), fun e => by simp at e⟩
    | some f => exact ⟨fun e => by simp at e, fun _ => by rw [h2, h3]; rfl⟩
/-- the fourth loop: what comes in -/
def Rel6 (types : List ByteArray) (E : List EdgeG) (damp : Fr) (l : List Sh) (r : Fr) (k : Nat) (gi : Lit → Option Value) (ov : Bool) : Prop :=
  Rel5 types E damp l r ov ∧ ∀ j < l.length, ∃ f : Fr, gi (lk l[j]!.id) = some (frV f) ∧ (ov = false → inO types (degE types E) l (E.take k) l[j]!.id = some f)
theorem Rel6.zero {r : Fr} {ov : Bool} {gs gi : Lit → Option Value} {n : Nat} (hn : ¬ n < l.length) (h : Rel5 types E damp l r ov) (h0 : Rel0 l n gs gi) : Rel6 types E damp l r 0 gi ov :=
  ⟨h, fun j hj => ⟨(0, 1), (h0 j (by omega)).2, fun _ => rfl⟩⟩
theorem Rel6.skip {r : Fr} {ov : Bool} {gi : Lit → Option Value} {k : Nat} (hk : k < E.length) (h : Rel6 types E damp l r k gi ov) (ht : typB types E[k]!.typ = false) : Rel6 types E damp l r (k + 1) gi ov :=
  ⟨h.1, fun j hj => by
    obtain ⟨f, h1, h2⟩ := h.2 j hj
    exact ⟨f, h1, fun e => by rw [inO_snoc _ _ _ _ _ _ hk, h2 e]; unfold inStep; rw [if_neg (fun hh => by rw [ht] at hh; cases hh.2)]⟩⟩
theorem Rel6.get {r : Fr} {ov : Bool} {gi : Lit → Option Value} {k : Nat} {i : Int} (h : Rel6 types E damp l r k gi ov) (hi : ∃ j < l.length, l[j]!.id = i) : ∃ f : Fr, gi (lk i) = some (frV f) := by
  obtain ⟨j, hj, rfl⟩ := hi
  obtain ⟨f, h1, -⟩ := h.2 j hj
  exact ⟨f, h1⟩
theorem Rel6.next {r a : Fr} {ov : Bool} {gi : Lit → Option Value} {k : Nat} (hk : k < E.length) (h : Rel6 types E damp l r k gi ov) (ht : typB types E[k]!.typ = true) (hto : ∃ j < l.length, l[j]!.id = E[k]!.to_) (ha : gi (lk E[k]!.to_) = some (frV a)) {q : Option Fr} (hq : q = divO (shareOf l E[k]!.frm) ((degN types E E[k]!.frm : Int), 1)) :
    Rel6 types E damp l r (k + 1) (putM gi (lk E[k]!.to_) (frV (orZ (addO a (orZ q))))) ((ov || q.isNone) || (addO a (orZ q)).isNone) := by
  obtain ⟨j0, hj0, e0⟩ := hto
  obtain ⟨f0, h1, h2⟩ := h.2 j0 hj0
  rw [e0] at h1 h2
  rw [ha] at h1
  obtain rfl : a = f0 := by
    injection h1 with h1
    unfold frV at h1
    simp only [Value.agg.injEq, Array.mk.injEq, List.cons.injEq, Value.int.injEq, true_and, and_true] at h1
    exact Prod.ext h1.1 h1.2
  have hin : ∀ j < l.length, l[j]!.id ≠ E[k]!.to_ → inO types (degE types E) l (E.take (k + 1)) l[j]!.id = inO types (degE types E) l (E.take k) l[j]!.id := by
    intro j hj hne
    rw [inO_snoc _ _ _ _ _ _ hk]; unfold inStep
    rw [if_neg (fun hh => hne hh.1.symm)]
  have hin0 : ov = false → inO types (degE types E) l (E.take (k + 1)) E[k]!.to_ = q.bind (fun x => addO a x) := by
    intro e
    rw [inO_snoc _ _ _ _ _ _ hk, h2 e]; unfold inStep
    rw [if_pos ⟨rfl, ht⟩, hq]; rfl
  have hbad : inO types (degE types E) l (E.take (k + 1)) E[k]!.to_ = none → stepN types E damp l = none := fun e => stepN_in hj0 (by rw [e0]; exact inO_none e)
  refine ⟨⟨fun e => ?_, fun e => ?_⟩, fun j hj => ?_⟩
  · cases ov with
    | true => exact h.1.1 rfl
    | false =>
      refine hbad ?_
      rw [hin0 rfl]
      cases q with
      | none => rfl
      | some x => rw [Option.bind_some]; cases h3 : addO a x with
        | none => rfl
        | some y => rw [orZ_some, h3] at e; simp at e
  · cases ov with
    | true => simp at e
    | false => exact h.1.2 rfl
  · by_cases hne : l[j]!.id = E[k]!.to_
    · rw [hne]
      refine ⟨_, putM_same _ _ _, fun e => ?_⟩
      cases ov with
      | true => simp at e
      | false =>
        rw [hin0 rfl]
        cases q with
        | none => simp at e
        | some x =>
          rw [Option.bind_some, orZ_some]
          rw [orZ_some] at e
          cases h3 : addO a x with
          | none => rw [h3] at e; simp at e
          | some y => rfl
    · obtain ⟨f, h3, h4⟩ := h.2 j hj
      refine ⟨f, (putM_other _ _ (lk_ne hne)).trans h3, fun e => ?_⟩
      rw [hin j hj hne]
      cases ov with
      | true => simp at e
      | false => exact h4 rfl
/-- with the base -/
def Rel7 (types : List ByteArray) (E : List EdgeG) (damp : Fr) (l : List Sh) (r b : Fr) (gi : Lit → Option Value) (ov : Bool) : Prop :=
  (ov = true → stepN types E damp l = none) ∧ (ov = false → stepN types E damp l = outsO (outFn types E l r b damp) l) ∧ ∀ j < l.length, ∃ f : Fr, gi (lk l[j]!.id) = some (frV f) ∧ (ov = false → inO types (degE types E) l E l[j]!.id = some f)
theorem Rel6.base {r : Fr} {ov : Bool} {gi : Lit → Option Value} {k : Nat} (hk : ¬ k < E.length) (h : Rel6 types E damp l r k gi ov) {v : Option Fr} (hv : v = subO (1, 1) damp) :
    Rel7 types E damp l r (orZ (divO (orZ v) ((l.length : Int), 1))) gi ((ov || v.isNone) || (divO (orZ v) ((l.length : Int), 1)).isNone) := by
  have h1 := h.1
  have h2 := h.2
  rw [List.take_of_length_le (by omega)] at h2
  have hb : baseO damp l = v.bind (fun x => divO x ((l.length : Int), 1)) := by rw [hv]
  refine ⟨fun e => ?_, fun e => ?_, fun j hj => ?_⟩
  · cases ov with
    | true => exact h1.1 rfl
    | false =>
      refine stepN_base ?_
      rw [hb]
      cases v with
      | none => rfl
      | some x =>
        rw [Option.bind_some]
        cases h3 : divO x ((l.length : Int), 1) with
        | none => rfl
        | some y => rw [orZ_some, h3] at e; simp at e
  · cases ov with
    | true => simp at e
    | false =>
      refine stepN_on (h1.2 rfl) ?_
      rw [hb]
      cases v with
      | none => simp at e
      | some x =>
        rw [Option.bind_some, orZ_some]
        rw [orZ_some] at e
        cases h3 : divO x ((l.length : Int), 1) with
        | none => rw [h3] at e; simp at e
        | some y => rfl
  · obtain ⟨f, h3, h4⟩ := h2 j hj
    refine ⟨f, h3, fun e => h4 ?_⟩
    cases ov with
    | true => simp at e
    | false => rfl
/-- the last loop -/
def Rel8 (types : List ByteArray) (E : List EdgeG) (damp : Fr) (l : List Sh) (r b : Fr) (k : Nat) (gi : Lit → Option Value) (O : List Sh) (ov : Bool) : Prop :=
  Rel7 types E damp l r b gi ov ∧ O.length = k ∧ (ov = false → outsO (outFn types E l r b damp) (l.take k) = some O)
theorem Rel8.zero {r b : Fr} {ov : Bool} {gi : Lit → Option Value} (h : Rel7 types E damp l r b gi ov) : Rel8 types E damp l r b 0 gi [] ov := ⟨h, rfl, fun _ => rfl⟩
theorem Rel8.get {r b : Fr} {ov : Bool} {gi : Lit → Option Value} {O : List Sh} {k : Nat} (h : Rel8 types E damp l r b k gi O ov) (hk : k < l.length) : ∃ f : Fr, gi (lk l[k]!.id) = some (frV f) := by
  obtain ⟨f, h1, -⟩ := h.1.2.2 k hk
  exact ⟨f, h1⟩
theorem Rel8.next {r b a : Fr} {ov : Bool} {gi : Lit → Option Value} {O : List Sh} {k : Nat} (h : Rel8 types E damp l r b k gi O ov) (hk : k < l.length) (ha : gi (lk l[k]!.id) = some (frV a)) {y z f : Option Fr} (hy : y = addO a r) (hz : z = mulO damp (orZ y)) (hf : f = addO b (orZ z)) :
    Rel8 types E damp l r b (k + 1) gi (O ++ [⟨l[k]!.id, (orZ f).1, (orZ f).2⟩]) (((ov || y.isNone) || z.isNone) || f.isNone) := by
  obtain ⟨f0, h1, h2⟩ := h.1.2.2 k hk
  rw [ha] at h1
  obtain rfl : a = f0 := by
    injection h1 with h1
    unfold frV at h1
    simp only [Value.agg.injEq, Array.mk.injEq, List.cons.injEq, Value.int.injEq, true_and, and_true] at h1
    exact Prod.ext h1.1 h1.2
  have hof : ov = false → outF (inO types (degE types E) l E l[k]!.id) r b damp = y.bind (fun y => (mulO damp y).bind (fun z => addO b z)) := by
    intro e; unfold outF; rw [h2 e, Option.bind_some, hy]
  have hnone : ov = false → outF (inO types (degE types E) l E l[k]!.id) r b damp = none → stepN types E damp l = none := by
    intro e e2
    rw [h.1.2.1 e]
    exact outs_fail hk (by unfold outFn; rw [show outF (inO types (fun i => degN types E i) l E l[k]!.id) r b damp = none from e2]; rfl)
  have hsome : ∀ x, ov = false → outF (inO types (degE types E) l E l[k]!.id) r b damp = some x → outsO (outFn types E l r b damp) (l.take (k + 1)) = some (O ++ [⟨l[k]!.id, x.1, x.2⟩]) := fun x e e2 => outs_next (h.2.2 e) hk e2
  refine ⟨⟨fun e => ?_, fun e => ?_, fun j hj => ?_⟩, by rw [List.length_append, h.2.1]; rfl, fun e => ?_⟩
  · cases ov with
    | true => exact h.1.1 rfl
    | false =>
      refine hnone rfl ?_
      rw [hof rfl]
      cases y with
      | none => rfl
      | some y =>
        rw [Option.bind_some]
        rw [orZ_some] at hz
        rw [← hz]
        cases z with
        | none => rfl
        | some z =>
          rw [Option.bind_some]
          rw [orZ_some] at hf
          rw [← hf]
          cases f with
          | none => rfl
          | some f => simp at e
  · cases ov with
    | true => simp at e
    | false => exact h.1.2.1 rfl
  · obtain ⟨f', h3, h4⟩ := h.1.2.2 j hj
    refine ⟨f', h3, fun e => h4 ?_⟩
    cases ov with
    | true => simp at e
    | false => rfl
  · cases ov with
    | true => simp at e
    | false =>
      refine hsome _ rfl ?_
      rw [hof rfl]
      cases y with
      | none => simp at e
      | some y =>
        rw [Option.bind_some]
        rw [orZ_some] at hz
        rw [← hz]
        cases z with
        | none => simp at e
        | some z =>
          rw [Option.bind_some]
          rw [orZ_some] at hf
          rw [← hf]
          cases f with
          | none => simp at e
          | some f => rfl
theorem Rel8.done {r b : Fr} {ov : Bool} {gi : Lit → Option Value} {O : List Sh} {k : Nat} (h : Rel8 types E damp l r b k gi O ov) (hk : ¬ k < l.length) : (ov = true → stepN types E damp l = none) ∧ (ov = false → stepN types E damp l = some O) :=
  ⟨h.1.1, fun e => by have := h.2.2 e; rw [List.take_of_length_le (by omega)] at this; rw [h.1.2.1 e]; exact this⟩
end
end Go.Proofs.YtlkpmbkmmfoakaaDoor
