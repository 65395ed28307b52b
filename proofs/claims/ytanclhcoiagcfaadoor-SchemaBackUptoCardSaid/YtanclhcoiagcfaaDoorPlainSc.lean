/- PLAIN: sorted lists of rules: a place by halves, a rule put in, a rule taken out. No program in sight. -/
import Derived.Test.YtanclhcoiagcfaaDoorPlainSb
namespace Go.Proofs.YtanclhcoiagcfaaDoor

theorem ord_irr (a : RuleP) : ordR a a = 0 := (TotC.rule.zero _ _).2 rfl
theorem ord_trans {a b c : RuleP} (h1 : ordR a b < 0) (h2 : ordR b c < 0) : ordR a c < 0 := by
  have h := TotC.rule.trans a b c (by omega) (by omega)
  rcases Int.lt_or_eq_of_le h with h | h
  · exact h
  · have e := (TotC.rule.zero _ _).1 h; subst e
    have := TotC.rule.anti a b; omega
theorem ord_swap {a b : RuleP} : ordR b a = - ordR a b := TotC.rule.anti a b
theorem ord_ne {a b : RuleP} (h : ordR a b < 0) : a ≠ b := fun e => by subst e; rw [ord_irr] at h; omega
theorem ord_gt {a b : RuleP} (h : ¬ ordR a b < 0) (hn : a ≠ b) : ordR b a < 0 := by
  have h0 : ordR a b ≠ 0 := fun e => hn ((TotC.rule.zero _ _).1 e)
  rw [ord_swap]; omega

instance : Inhabited RuleP := ⟨zeroR⟩

def SortR (s : List RuleP) : Prop := s.Pairwise (fun a b => ordR a b < 0)
/-- the test at one place -/
def stepB (s : List RuleP) (i : Nat) : Bool := decide (chkR s[i]! = 0) && (decide (i = 0) || decide (ordR s[i - 1]! s[i]! < 0))
def validB (s : List RuleP) : Bool := decide (s.length ≤ 40) && (List.range s.length).all (stepB s)

theorem getB {s : List RuleP} {i : Nat} (h : i < s.length) : s[i]! = s[i] := by rw [getElem!_pos s i h]

theorem validB_iff {s : List RuleP} : validB s = true ↔ s.length ≤ 40 ∧ (∀ r ∈ s, chkR r = 0) ∧ SortR s := by
  unfold validB
  rw [Bool.and_eq_true, decide_eq_true_iff, List.all_eq_true]
  constructor
  · rintro ⟨h1, h2⟩
    have hs : ∀ i, i < s.length → chkR s[i]! = 0 ∧ (i = 0 ∨ ordR s[i - 1]! s[i]! < 0) := fun i hi => by
      have h := h2 i (List.mem_range.2 hi)
      unfold stepB at h
      simpa using h
    refine ⟨h1, fun r hr => ?_, ?_⟩
    · obtain ⟨i, hi, rfl⟩ := List.getElem_of_mem hr
      have h := (hs i hi).1
      rwa [getB hi] at h
    · unfold SortR
      rw [List.pairwise_iff_getElem]
      intro i j hi hj hij
      induction j with
      | zero => omega
      | succ j ih =>
        have h := (hs (j + 1) hj).2
        rcases h with h | h
        · omega
        · rw [show j + 1 - 1 = j from rfl, getB hj, getB (show j < s.length by omega)] at h
          by_cases e : i = j
          · subst e; exact h
          · exact ord_trans (ih (by omega) (by omega)) h
  · rintro ⟨h1, h2, h3⟩
    refine ⟨h1, fun i hi => ?_⟩
    have hi := List.mem_range.1 hi
    unfold stepB
    rw [getB hi, Bool.and_eq_true, decide_eq_true_iff, Bool.or_eq_true, decide_eq_true_iff, decide_eq_true_iff]
    refine ⟨h2 _ (List.getElem_mem _), ?_⟩
    by_cases h0 : i = 0
    · exact .inl h0
    · refine .inr ?_
      rw [getB (show i - 1 < s.length by omega)]
      unfold SortR at h3
      rw [List.pairwise_iff_getElem] at h3
      exact h3 (i - 1) i (by omega) hi (by omega)

/-- how many stand below a rule -/
def lowN : List RuleP → RuleP → Nat
  | [], _ => 0
  | a :: t, r => if ordR a r < 0 then lowN t r + 1 else 0

theorem low_le (s : List RuleP) (r : RuleP) : lowN s r ≤ s.length := by
  induction s with
  | nil => exact Nat.le_refl _
  | cons a t ih => unfold lowN; split <;> simp only [List.length_cons] <;> omega

theorem low_lt (s : List RuleP) (r : RuleP) : ∀ {i : Nat} (_ : i < lowN s r) (h : i < s.length), ordR s[i] r < 0 := by
  induction s with
  | nil => intro i _ h; simp at h
  | cons a t ih =>
    intro i hi h
    unfold lowN at hi
    split at hi
    · rename_i ha
      cases i with
      | zero => exact ha
      | succ i => exact ih (by omega) (by simpa using h)
    · omega

theorem low_ge {s : List RuleP} (hs : SortR s) (r : RuleP) : ∀ {i : Nat} (_ : lowN s r ≤ i) (h : i < s.length), ¬ ordR s[i] r < 0 := by
  induction s with
  | nil => intro i _ h; simp at h
  | cons a t ih =>
    intro i hi h
    unfold SortR at hs
    rw [List.pairwise_cons] at hs
    unfold lowN at hi
    split at hi
    · cases i with
      | zero => omega
      | succ i => exact ih hs.2 (by omega) (by simpa using h)
    · rename_i ha
      cases i with
      | zero => exact ha
      | succ i =>
        intro hc
        have hl : i < t.length := by simpa using h
        have hm := hs.1 t[i] (List.getElem_mem _)
        exact ha (ord_trans hm hc)

theorem low_iff {s : List RuleP} (hs : SortR s) (r : RuleP) {i : Nat} (h : i < s.length) : ordR s[i] r < 0 ↔ i < lowN s r :=
  ⟨fun h1 => Nat.lt_of_not_le (fun h2 => low_ge hs r h2 h h1), fun h1 => low_lt s r h1 h⟩

theorem low_found {s : List RuleP} (hs : SortR s) (r : RuleP) : r ∈ s ↔ lowN s r < s.length ∧ ordR s[lowN s r]! r = 0 := by
  constructor
  · intro hr
    obtain ⟨i, hi, rfl⟩ := List.getElem_of_mem hr
    have h1 : ¬ i < lowN s s[i] := fun h => by have := low_lt s s[i] h hi; rw [ord_irr] at this; omega
    have h2 : ¬ lowN s s[i] < i := fun h => by
      have hl := low_ge hs s[i] (Nat.le_refl _) (show lowN s s[i] < s.length by omega)
      unfold SortR at hs
      rw [List.pairwise_iff_getElem] at hs
      exact hl (hs _ _ (by omega) hi h)
    have e : lowN s s[i] = i := by omega
    exact ⟨by omega, by rw [e, getB hi, ord_irr]⟩
  · rintro ⟨h1, h2⟩
    rw [getB h1] at h2
    have e := (TotC.rule.zero _ _).1 h2
    rw [← e]; exact List.getElem_mem _

def insR (s : List RuleP) (r : RuleP) : List RuleP := s.take (lowN s r) ++ r :: s.drop (lowN s r)
def delR (s : List RuleP) (r : RuleP) : List RuleP := s.take (lowN s r) ++ s.drop (lowN s r + 1)

theorem insR_cons (a : RuleP) (t : List RuleP) (r : RuleP) : insR (a :: t) r = if ordR a r < 0 then a :: insR t r else r :: a :: t := by
  have e : lowN (a :: t) r = if ordR a r < 0 then lowN t r + 1 else 0 := rfl
  unfold insR; rw [e]; split <;> simp
theorem delR_cons (a : RuleP) (t : List RuleP) (r : RuleP) : delR (a :: t) r = if ordR a r < 0 then a :: delR t r else t := by
  have e : lowN (a :: t) r = if ordR a r < 0 then lowN t r + 1 else 0 := rfl
  unfold delR; rw [e]; split <;> simp

theorem mem_insR {s : List RuleP} {r x : RuleP} : x ∈ insR s r ↔ x = r ∨ x ∈ s := by
  induction s with
  | nil => simp [insR]
  | cons a t ih =>
    rw [insR_cons]; split
    · rw [List.mem_cons, ih, List.mem_cons]
      constructor
      · rintro (h | h | h)
        · exact .inr (.inl h)
        · exact .inl h
        · exact .inr (.inr h)
      · rintro (h | h | h)
        · exact .inr (.inl h)
        · exact .inl h
        · exact .inr (.inr h)
    · simp

theorem mem_delR {s : List RuleP} {r x : RuleP} (h : x ∈ delR s r) : x ∈ s := by
  unfold delR at h
  rcases List.mem_append.1 h with h | h
  · exact List.mem_of_mem_take h
  · exact List.mem_of_mem_drop h

theorem insR_len (s : List RuleP) (r : RuleP) : (insR s r).length = s.length + 1 := by
  have := low_le s r
  simp [insR]; omega

theorem insR_sort {s : List RuleP} {r : RuleP} (hs : SortR s) (hr : r ∉ s) : SortR (insR s r) := by
  induction s with
  | nil => exact List.pairwise_singleton _ _
  | cons a t ih =>
    have hs' := hs
    unfold SortR at hs; rw [List.pairwise_cons] at hs
    rw [List.mem_cons, not_or] at hr
    rw [insR_cons]; split
    · rename_i ha
      refine List.pairwise_cons.2 ⟨fun x hx => ?_, ih hs.2 hr.2⟩
      rcases mem_insR.1 hx with rfl | hx
      · exact ha
      · exact hs.1 x hx
    · rename_i ha
      have hra := ord_gt ha (fun e => hr.1 e.symm)
      refine List.pairwise_cons.2 ⟨fun x hx => ?_, hs'⟩
      rcases List.mem_cons.1 hx with rfl | hx
      · exact hra
      · exact ord_trans hra (hs.1 x hx)

theorem del_ins {s : List RuleP} {r : RuleP} : delR (insR s r) r = s := by
  induction s with
  | nil => simp [insR, lowN, delR, ord_irr]
  | cons a t ih =>
    rw [insR_cons]; split
    · rename_i ha; rw [delR_cons, if_pos ha, ih]
    · rw [delR_cons, if_neg (by rw [ord_irr]; omega)]

theorem delR_sort {s : List RuleP} (r : RuleP) (hs : SortR s) : SortR (delR s r) := by
  induction s with
  | nil => exact List.Pairwise.nil
  | cons a t ih =>
    unfold SortR at hs; rw [List.pairwise_cons] at hs
    rw [delR_cons]; split
    · exact List.pairwise_cons.2 ⟨fun x hx => hs.1 x (mem_delR hx), ih hs.2⟩
    · exact hs.2

theorem delR_len {s : List RuleP} {r : RuleP} (hs : SortR s) (hr : r ∈ s) : (delR s r).length + 1 = s.length := by
  have h := ((low_found hs r).1 hr).1
  simp [delR]; omega

theorem delR_filter {s : List RuleP} {r : RuleP} (hs : SortR s) (hr : r ∈ s) : s.filter (fun x => decide (ordR x r ≠ 0)) = delR s r := by
  induction s with
  | nil => cases hr
  | cons a t ih =>
    unfold SortR at hs; rw [List.pairwise_cons] at hs
    rw [delR_cons]
    by_cases ha : ordR a r < 0
    · rw [if_pos ha, List.filter_cons, if_pos (by simp; omega)]
      have hm : r ∈ t := by
        rcases List.mem_cons.1 hr with rfl | h
        · rw [ord_irr] at ha; omega
        · exact h
      rw [ih hs.2 hm]
    · rw [if_neg ha]
      have e : a = r := by
        rcases List.mem_cons.1 hr with h | h
        · exact h.symm
        · exact absurd (hs.1 r h) ha
      subst e
      rw [List.filter_cons, if_neg (by simp [ord_irr]), List.filter_eq_self]
      intro x hx
      have h1 := hs.1 x hx
      have h2 : ordR x a = - ordR a x := ord_swap
      simp; omega

theorem not_mem_delR {s : List RuleP} {r : RuleP} (hs : SortR s) (hr : r ∈ s) : r ∉ delR s r := by
  rw [← delR_filter hs hr]
  intro h
  have := (List.mem_filter.1 h).2
  simp [ord_irr] at this

theorem ins_del {s : List RuleP} {r : RuleP} (hs : SortR s) (hr : r ∈ s) : insR (delR s r) r = s := by
  induction s with
  | nil => cases hr
  | cons a t ih =>
    unfold SortR at hs; rw [List.pairwise_cons] at hs
    rw [delR_cons]
    by_cases ha : ordR a r < 0
    · have hm : r ∈ t := by
        rcases List.mem_cons.1 hr with rfl | h
        · rw [ord_irr] at ha; omega
        · exact h
      rw [if_pos ha, insR_cons, if_pos ha, ih hs.2 hm]
    · rw [if_neg ha]
      have e : a = r := by
        rcases List.mem_cons.1 hr with h | h
        · exact h.symm
        · exact absurd (hs.1 r h) ha
      subst e
      cases t with
      | nil => simp [insR, lowN]
      | cons b u =>
        have h1 := hs.1 b (List.mem_cons_self ..)
        have h2 : ordR b a = - ordR a b := ord_swap
        rw [insR_cons, if_neg (by omega)]

/-- what Add and Drop answer -/
def addR (s : List RuleP) (r : RuleP) : List RuleP × Int :=
  if validB s = false then ([], 19) else if chkR r ≠ 0 then ([], chkR r) else if r ∈ s then ([], 7) else if s.length = 40 then ([], 20) else (insR s r, 0)
def dropR (s : List RuleP) (r : RuleP) : List RuleP × Int :=
  if validB s = false then ([], 19) else if chkR r ≠ 0 then ([], chkR r) else if r ∈ s then (delR s r, 0) else ([], 23)

theorem add_ok {s : List RuleP} {r : RuleP} (h : (addR s r).2 = 0) : validB s = true ∧ chkR r = 0 ∧ r ∉ s ∧ s.length < 40 ∧ (addR s r).1 = insR s r := by
  unfold addR at h ⊢
  split at h
  · cases h
  · split at h
    · rename_i h1 h2; exact absurd h h2
    · split at h
      · cases h
      · split at h
        · cases h
        · rename_i h1 h2 h3 h4
          have hv : validB s = true := by simpa using h1
          have hl := (validB_iff.1 hv).1
          rw [if_neg h1, if_neg h2, if_neg h3, if_neg h4]
          exact ⟨hv, by omega, h3, by omega, rfl⟩

theorem drop_ok {s : List RuleP} {r : RuleP} (h : (dropR s r).2 = 0) : validB s = true ∧ chkR r = 0 ∧ r ∈ s ∧ (dropR s r).1 = delR s r := by
  unfold dropR at h ⊢
  split at h
  · cases h
  · split at h
    · rename_i h1 h2; exact absurd h h2
    · split at h
      · rename_i h1 h2 h3
        have hv : validB s = true := by simpa using h1
        rw [if_neg h1, if_neg h2, if_pos h3]
        exact ⟨hv, by omega, h3, rfl⟩
      · cases h

theorem drop_eq {s : List RuleP} {r : RuleP} (h1 : validB s = true) (h2 : chkR r = 0) (h3 : r ∈ s) : dropR s r = (delR s r, 0) := by
  unfold dropR; rw [if_neg (by rw [h1]; simp), if_neg (by omega), if_pos h3]
theorem add_eq {s : List RuleP} {r : RuleP} (h1 : validB s = true) (h2 : chkR r = 0) (h3 : r ∉ s) (h4 : s.length < 40) : addR s r = (insR s r, 0) := by
  unfold addR; rw [if_neg (by rw [h1]; simp), if_neg (by omega), if_neg h3, if_neg (by omega)]

/-- SchemaUndo, plainly -/
theorem undo_add {s : List RuleP} {r : RuleP} (h : (addR s r).2 = 0) : validB (addR s r).1 = true ∧ (addR s r).1.length = s.length + 1 ∧ dropR (addR s r).1 r = (s, 0) := by
  obtain ⟨h1, h2, h3, h4, h5⟩ := add_ok h
  obtain ⟨a1, a2, a3⟩ := validB_iff.1 h1
  rw [h5]
  have hv : validB (insR s r) = true := validB_iff.2 ⟨by rw [insR_len]; omega, fun x hx => by rcases mem_insR.1 hx with rfl | hx; exact h2; exact a2 x hx, insR_sort a3 h3⟩
  exact ⟨hv, insR_len s r, by rw [drop_eq hv h2 (mem_insR.2 (.inl rfl)), del_ins]⟩

theorem undo_drop {s : List RuleP} {r : RuleP} (h : (dropR s r).2 = 0) : validB (dropR s r).1 = true ∧ (dropR s r).1.length + 1 = s.length ∧ addR (dropR s r).1 r = (s, 0) := by
  obtain ⟨h1, h2, h3, h5⟩ := drop_ok h
  obtain ⟨a1, a2, a3⟩ := validB_iff.1 h1
  have hl := delR_len a3 h3
  rw [h5]
  have hv : validB (delR s r) = true := validB_iff.2 ⟨by omega, fun x hx => a2 x (mem_delR hx), delR_sort r a3⟩
  exact ⟨hv, hl, by rw [add_eq hv h2 (not_mem_delR a3 h3) (by omega), ins_del a3 h3]⟩

end Go.Proofs.YtanclhcoiagcfaaDoor
