/- PLAIN: the texts of fractions, and a string cut at a slash. No program. -/
import Derived.Test.YtemmgehaddghfaaDoorPlainF
import Derived.Lib.IndexLaws
import Derived.Lib.IndexMore
namespace Go.Proofs.YtemmgehaddghfaaDoor

/-- the text of a fraction -/
def textS (n d : Int) : List UInt8 := if validB n d then (if d = 1 then Lib.itoa n else Lib.itoa n ++ 47 :: Lib.itoa d) else []

theorem itoa_no_slash (n : Int) : (47 : UInt8) ∉ Lib.itoa n := by
  have hd : ∀ u, (47 : UInt8) ∉ Lib.decDigits u := fun u h => absurd (decDigits_all u 47 h) (by decide)
  unfold Lib.itoa
  split
  · intro h
    rcases List.mem_cons.1 h with h | h
    · exact absurd h (by decide)
    · exact hd _ h
  · exact hd _

theorem itoa_ne_nil (n : Int) : Lib.itoa n ≠ [] := by
  unfold Lib.itoa
  split
  · exact List.cons_ne_nil _ _
  · exact decDigits_ne _

theorem itoa_inj {m n : Int} (h : Lib.itoa m = Lib.itoa n) : m = n := by rw [← numOf_itoa m, h, numOf_itoa]

theorem textS_ne_nil {n d : Int} (h : validB n d = true) : textS n d ≠ [] := by
  unfold textS
  rw [if_pos h]
  split
  · exact itoa_ne_nil _
  · intro e
    exact itoa_ne_nil n (List.append_eq_nil_iff.1 e).1

theorem indexByte_slash (a b : List UInt8) (h : (47 : UInt8) ∉ a) : Lib.indexByte (a ++ 47 :: b) 47 = a.length := by
  induction a with
  | nil => rfl
  | cons x a ih =>
    have hx : (x == 47) = false := beq_eq_false_iff_ne.2 (fun e => h (by rw [e]; exact List.mem_cons_self ..))
    have := ih (fun m => h (List.mem_cons_of_mem _ m))
    simp only [List.cons_append, Lib.indexByte, hx, this]
    rw [if_neg (by decide), if_neg (by rw [beq_iff_eq]; omega)]
    simp

theorem indexByte_no_slash (a : List UInt8) (h : (47 : UInt8) ∉ a) : Lib.indexByte a 47 = -1 := by
  induction a with
  | nil => rfl
  | cons x a ih =>
    have hx : (x == 47) = false := beq_eq_false_iff_ne.2 (fun e => h (by rw [e]; exact List.mem_cons_self ..))
    have := ih (fun m => h (List.mem_cons_of_mem _ m))
    simp only [Lib.indexByte, hx, this]
    rfl

/-- what stands ahead of the first slash, what stands behind it, and whether there is one -/
def cutA (l : List UInt8) : List UInt8 := if 0 ≤ Lib.indexByte l 47 then l.take (Lib.indexByte l 47).toNat else l
def cutB (l : List UInt8) : List UInt8 := if 0 ≤ Lib.indexByte l 47 then l.drop ((Lib.indexByte l 47).toNat + 1) else []
def cutC (l : List UInt8) : Bool := decide (0 ≤ Lib.indexByte l 47)

theorem cut_slash (a b : List UInt8) (h : (47 : UInt8) ∉ a) : cutA (a ++ 47 :: b) = a ∧ cutB (a ++ 47 :: b) = b ∧ cutC (a ++ 47 :: b) = true := by
  unfold cutA cutB cutC
  rw [indexByte_slash a b h, if_pos (by omega), if_pos (by omega)]
  refine ⟨?_, ?_, decide_eq_true (by omega)⟩
  · simp
  · rw [Int.toNat_natCast, List.drop_append]
    simp
theorem cut_no_slash (a : List UInt8) (h : (47 : UInt8) ∉ a) : cutA a = a ∧ cutB a = [] ∧ cutC a = false := by
  unfold cutA cutB cutC
  rw [indexByte_no_slash a h, if_neg (by omega), if_neg (by omega)]
  exact ⟨rfl, rfl, decide_eq_false (by omega)⟩

theorem textS_inj {n d n' d' : Int} (h : validB n d = true) (h' : validB n' d' = true) (e : textS n d = textS n' d') : n = n' ∧ d = d' := by
  have key : ∀ {n d : Int}, validB n d = true → cutA (textS n d) = Lib.itoa n ∧ (if cutC (textS n d) then cutB (textS n d) else Lib.itoa 1) = Lib.itoa d := by
    intro n d h
    unfold textS
    rw [if_pos h]
    split
    · rename_i hd
      have := cut_no_slash (Lib.itoa n) (itoa_no_slash n)
      rw [this.1, this.2.2, hd]; exact ⟨rfl, rfl⟩
    · have := cut_slash (Lib.itoa n) (Lib.itoa d) (itoa_no_slash n)
      rw [this.1, this.2.2, this.2.1]; exact ⟨rfl, rfl⟩
  have k1 := key h
  have k2 := key h'
  rw [e] at k1
  exact ⟨itoa_inj (k1.1.symm.trans k2.1), itoa_inj (k1.2.symm.trans k2.2)⟩

/-- THE FRACTION OF A TEXT -/
def ParseIs (l : List UInt8) (r : Int × Int × Bool) : Prop :=
  (r.2.2 = true ∧ validB r.1 r.2.1 = true ∧ textS r.1 r.2.1 = l) ∨ (r = (0, 0, false) ∧ ∀ n d, validB n d = true → textS n d ≠ l)
theorem ParseIs.unique {l : List UInt8} {r r' : Int × Int × Bool} (h : ParseIs l r) (h' : ParseIs l r') : r = r' := by
  obtain ⟨n, d, b⟩ := r
  obtain ⟨n', d', b'⟩ := r'
  rcases h with ⟨h1, h2, h3⟩ | ⟨h1, h2⟩ <;> rcases h' with ⟨k1, k2, k3⟩ | ⟨k1, k2⟩
  · simp only at h1 k1 h2 k2 h3 k3
    obtain ⟨e1, e2⟩ := textS_inj h2 k2 (h3.trans k3.symm)
    rw [e1, e2, h1, k1]
  · exact absurd h3 (k2 _ _ h2)
  · exact absurd k3 (h2 _ _ k2)
  · rw [h1, k1]
noncomputable def parseS (l : List UInt8) : Int × Int × Bool := @Classical.epsilon _ ⟨(0, 0, false)⟩ (ParseIs l)
theorem parseS_is (l : List UInt8) : ParseIs l (parseS l) := by
  refine Classical.epsilon_spec_aux ⟨(0, 0, false)⟩ _ ?_
  by_cases h : ∃ n d, validB n d = true ∧ textS n d = l
  · obtain ⟨n, d, h1, h2⟩ := h
    exact ⟨(n, d, true), .inl ⟨rfl, h1, h2⟩⟩
  · exact ⟨(0, 0, false), .inr ⟨rfl, fun n d h1 h2 => h ⟨n, d, h1, h2⟩⟩⟩
theorem parseS_eq {l : List UInt8} {r : Int × Int × Bool} (h : ParseIs l r) : parseS l = r := (parseS_is l).unique h
theorem parseS_text {n d : Int} (h : validB n d = true) : parseS (textS n d) = (n, d, true) := parseS_eq (.inl ⟨rfl, h, rfl⟩)

/-- the texts of the two parts -/
theorem parse_parts {l : List UInt8} {n d : Int} (h : validB n d = true) (e : textS n d = l) :
    parseB (cutA l) = true ∧ parseV (cutA l) = n ∧ parseB (if cutC l then cutB l else [49]) = true ∧ parseV (if cutC l then cutB l else [49]) = d := by
  subst e
  obtain ⟨v1, v2, v3, -⟩ := validB_iff.1 h
  have p1 := parse_yes (n := n) (inB_true.2 v3) rfl
  have p2 := parse_yes (n := d) (inB_true.2 ⟨by omega, by omega⟩) rfl
  unfold textS
  rw [if_pos h]
  split
  · rename_i hd
    have := cut_no_slash (Lib.itoa n) (itoa_no_slash n)
    rw [this.1, this.2.2]
    have h1 : Lib.itoa d = [49] := by rw [hd, Lib.itoa, if_neg (by decide), decDigits_rec]; rfl
    rw [h1] at p2
    exact ⟨p1.1, p1.2, p2.1, p2.2⟩
  · have := cut_slash (Lib.itoa n) (Lib.itoa d) (itoa_no_slash n)
    rw [this.1, this.2.2, this.2.1]
    exact ⟨p1.1, p1.2, p2.1, p2.2⟩
theorem parse_no_parts {l : List UInt8} (h : parseB (cutA l) = false ∨ parseB (if cutC l then cutB l else [49]) = false ∨ textS (parseV (cutA l)) (parseV (if cutC l then cutB l else [49])) ≠ l) : parseS l = (0, 0, false) := by
  refine parseS_eq (.inr ⟨rfl, fun n d hv e => ?_⟩)
  obtain ⟨k1, k2, k3, k4⟩ := parse_parts hv e
  rcases h with h | h | h
  · rw [k1] at h; cases h
  · rw [k3] at h; cases h
  · rw [k2, k4] at h; exact h e
theorem parse_empty : parseS [] = (0, 0, false) := parseS_eq (.inr ⟨rfl, fun _ _ hv => textS_ne_nil hv⟩)
theorem parse_yes_parts {l : List UInt8} {n d : Int} (h : textS n d = l) (hl : l ≠ []) : parseS l = (n, d, true) := by
  cases hv : validB n d
  · unfold textS at h; rw [hv] at h; exact absurd h.symm hl
  · exact parseS_eq (.inl ⟨rfl, hv, h⟩)
theorem itoa_len {n : Int} (h1 : -1000000000000000 ≤ n) (h2 : n ≤ 1000000000000000) : (Lib.itoa n).length ≤ 17 := itoa_length (inB_true.2 ⟨h1, h2⟩)
end Go.Proofs.YtemmgehaddghfaaDoor
