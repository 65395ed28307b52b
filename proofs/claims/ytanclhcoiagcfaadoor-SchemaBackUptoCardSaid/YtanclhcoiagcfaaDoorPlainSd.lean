/- PLAIN: one step of the search for the rule of a text; a cut at single spaces. No program in sight. -/
import Derived.Test.YtanclhcoiagcfaaDoorPlainSc
import Derived.Lib.Split
namespace Go.Proofs.YtanclhcoiagcfaaDoor

def preA (a : List UInt8) : List (List UInt8) → List (List UInt8)
  | h :: t => (a ++ h) :: t
  | [] => []
theorem preA_preA (a b : List UInt8) (l : List (List UInt8)) : preA a (preA b l) = preA (a ++ b) l := by
  cases l with
  | nil => rfl
  | cons h t => simp [preA]
theorem cutW_acc : ∀ (l a : List UInt8), cutW a l = preA a (cutW [] l)
  | [], a => by simp [cutW, preA]
  | c :: r, a => by
    unfold cutW
    split
    · simp [preA]
    · rw [cutW_acc r (a ++ [c]), cutW_acc r ([] ++ [c]), preA_preA]; rfl
theorem index_cons (b : UInt8) (l : List UInt8) : Lib.index (b :: l) [32] = if b = 32 then 0 else if Lib.index l [32] = -1 then -1 else Lib.index l [32] + 1 := by
  show (if ([32] : List UInt8).isPrefixOf (b :: l) then _ else _) = _
  by_cases h : b = 32
  · subst h; simp
  · have h2 : ([32] : List UInt8).isPrefixOf (b :: l) = false := by simp [List.isPrefixOf]; exact fun e => h e.symm
    rw [h2, if_neg h]
    simp
theorem splitK_pieces (l : List UInt8) : Lib.splitK [32] 0 (Lib.count l [32]) l = pieces l := by
  unfold pieces
  induction l with
  | nil => rfl
  | cons b r ih =>
    by_cases h : b = 32
    · subst h
      rw [Lib.count_cons_eq, Nat.add_comm]
      show (if Lib.index (32 :: r) [32] == -1 then _ else _) = _
      rw [index_cons, if_pos rfl]
      show ([] :: Lib.splitK [32] 0 _ r) = cutW [] (32 :: r)
      rw [ih]; rfl
    · rw [Lib.count_cons_ne _ _ _ h]
      have hc : cutW [] (b :: r) = cutW [b] r := by show (if b = 32 then _ else _) = _; rw [if_neg h]; rfl
      rw [hc, cutW_acc, ← ih]
      cases hk : Lib.count r [32] with
      | zero => rfl
      | succ k =>
        have hi := index_cons b r
        rw [if_neg h] at hi
        by_cases hm : Lib.index r [32] = -1
        · rw [if_pos hm] at hi
          show (if Lib.index (b :: r) [32] == -1 then _ else _) = preA [b] (if Lib.index r [32] == -1 then _ else _)
          rw [hi, hm]; rfl
        · rw [if_neg hm] at hi
          have hge := Lib.index_ge r [32]
          obtain ⟨i, hi2⟩ := Int.eq_ofNat_of_zero_le (show 0 ≤ Lib.index r [32] by omega)
          show (if Lib.index (b :: r) [32] == -1 then _ else _) = preA [b] (if Lib.index r [32] == -1 then _ else _)
          rw [hi, hi2]
          have e1 : (((i : Int) + 1) == -1) = false := by rw [beq_eq_false_iff_ne]; omega
          have e2 : ((i : Int) == -1) = false := by rw [beq_eq_false_iff_ne]; omega
          have e3 : ((i : Int) + 1).toNat = i + 1 := by omega
          have e4 : ((i : Int)).toNat = i := by omega
          rw [e1, e2, e3, e4]
          simp [preA]

/-- what a rule of kind k with this text means for the cut -/
theorem step_of {r : RuleP} {s : List UInt8} {k : Int} (h : chkR r = 0) (ht : textL r = s) (hk : r.kind = k) :
    Lib.hasPrefix s (headL k ++ [32]) = true ∧ Lib.trimPrefix s (headL k ++ [32]) = joinW (tailW r) := by
  have e : s = (headL k ++ [32]) ++ joinW (tailW r) := by rw [← ht, textL_head h, hk]; simp
  have hp : Lib.hasPrefix s (headL k ++ [32]) = true := by
    unfold Lib.hasPrefix
    rw [List.isPrefixOf_iff_prefix, e]
    exact List.prefix_append _ _
  refine ⟨hp, ?_⟩
  unfold Lib.trimPrefix
  rw [if_pos hp, e, List.drop_left]

/-- ONE STEP: the prefix fails -/
theorem step_no {s : List UInt8} {k : Int} (h : Lib.hasPrefix s (headL k ++ [32]) = false) : ∀ r, chkR r = 0 → textL r = s → r.kind ≠ k := fun r hr ht hk => by
  rw [(step_of hr ht hk).1] at h; cases h
/-- ONE STEP: the words behind the prefix -/
theorem step_words {s : List UInt8} {k : Int} {W : List ByteArray} (hW : W.map (·.data.toList) = pieces (Lib.trimPrefix s (headL k ++ [32]))) {r : RuleP} (h : chkR r = 0) (ht : textL r = s) (hk : r.kind = k) : guessK k W = r ∧ 2 ≤ W.length := by
  rw [(step_of h ht hk).2, pieces_tail h] at hW
  have := guessK_tail h hW
  rwa [hk] at this
theorem step_short {s : List UInt8} {k : Int} {W : List ByteArray} (hW : W.map (·.data.toList) = pieces (Lib.trimPrefix s (headL k ++ [32]))) (hl : W.length < 2) : ∀ r, chkR r = 0 → textL r = s → r.kind ≠ k := fun r hr ht hk => by
  have := (step_words hW hr ht hk).2; omega
theorem step_miss {s : List UInt8} {k : Int} {W : List ByteArray} (hW : W.map (·.data.toList) = pieces (Lib.trimPrefix s (headL k ++ [32]))) (hm : textL (guessK k W) ≠ s) : ∀ r, chkR r = 0 → textL r = s → r.kind ≠ k := fun r hr ht hk => by
  rw [(step_words hW hr ht hk).1] at hm; exact hm ht
theorem step_hit {s : List UInt8} {k : Int} {r : RuleP} (hp : Lib.hasPrefix s (headL k ++ [32]) = true) (hm : textL r = s) : ParsedR s r 0 := by
  refine .inl ⟨rfl, ?_, hm⟩
  by_cases h : chkR r = 0
  · exact h
  · exfalso
    have e : textL r = [] := by unfold textL; rw [if_neg h]
    rw [← hm, e] at hp
    unfold Lib.hasPrefix at hp
    rw [List.isPrefixOf_iff_prefix] at hp
    have := hp.length_le
    simp at this
/-- the search goes on -/
theorem step_on {s : List UInt8} {k : Nat} (h : ∀ r, chkR r = 0 → textL r = s → (k : Int) ≤ r.kind) (hn : ∀ r, chkR r = 0 → textL r = s → r.kind ≠ (k : Int)) : ∀ r, chkR r = 0 → textL r = s → ((k + 1 : Nat) : Int) ≤ r.kind := fun r hr ht => by
  have h1 := h r hr ht
  have h2 := hn r hr ht
  omega
theorem step_end {s : List UInt8} (h : ∀ r, chkR r = 0 → textL r = s → (8 : Int) ≤ r.kind) : ParsedR s zeroR 2 := .inr ⟨rfl, rfl, fun r hr ht => by
  have h1 := h r hr ht
  have h2 := chkR_ok hr
  omega⟩

end Go.Proofs.YtanclhcoiagcfaaDoor
