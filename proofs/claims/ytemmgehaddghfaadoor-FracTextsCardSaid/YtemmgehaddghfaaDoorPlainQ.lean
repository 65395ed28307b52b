/- PLAIN: how the reference reads a fraction. No program. -/
import Derived.Test.YtemmgehaddghfaaDoorPlainP
namespace Go.Proofs.YtemmgehaddghfaaDoor

/-- the digits read, and how many -/
def numF : Nat → List UInt8 → Nat × Nat
  | n, [] => (n, 0)
  | n, c :: r => if isDig c && decide (n ≤ 1000000000000000) then ((numF (n * 10 + (c.toNat - 48)) r).1, (numF (n * 10 + (c.toNat - 48)) r).2 + 1) else (n, 0)
theorem foldDig_ge (l : List UInt8) (a : Nat) : a ≤ foldDig a l := by
  induction l generalizing a with
  | nil => exact Nat.le_refl _
  | cons c r ih =>
    simp only [foldDig]
    split
    · exact Nat.le_trans (by omega) (ih _)
    · exact ih _
theorem numF_digits (ds rest : List UInt8) (a : Nat) (hd : ∀ c ∈ ds, isDig c = true) (hb : foldDig a ds ≤ 1000000000000000) (hr : ∀ c, rest.head? = some c → isDig c = false) : numF a (ds ++ rest) = (foldDig a ds, ds.length) := by
  induction ds generalizing a with
  | nil =>
    cases rest with
    | nil => rfl
    | cons c r =>
      have := hr c rfl
      simp only [List.nil_append, numF, this, foldDig]; rfl
  | cons c r ih =>
    have hc : isDig c = true := hd c (List.mem_cons_self ..)
    simp only [foldDig, hc, if_true] at hb ⊢
    have h1 := foldDig_ge r (a * 10 + (c.toNat - 48))
    have h2 := ih (a * 10 + (c.toNat - 48)) (fun x hx => hd x (List.mem_cons_of_mem _ hx)) hb
    simp only [List.cons_append, numF, hc, h2]
    rw [decide_eq_true (by omega)]
    simp
theorem numF_len (l : List UInt8) (a : Nat) : (numF a l).2 ≤ l.length := by
  induction l generalizing a with
  | nil => exact Nat.le_refl _
  | cons c r ih =>
    simp only [numF]
    split
    · have := ih (a * 10 + (c.toNat - 48)); simp; omega
    · simp
theorem numF_le (l : List UInt8) (a : Nat) (ha : a ≤ 10000000000000009) : (numF a l).1 ≤ 10000000000000009 := by
  induction l generalizing a with
  | nil => exact ha
  | cons c r ih =>
    simp only [numF]
    split
    · rename_i h
      rw [Bool.and_eq_true, decide_eq_true_iff] at h
      have hc : c.toNat ≤ 57 := by have h2 := h.1; unfold isDig at h2; rw [Bool.and_eq_true, decide_eq_true_iff, decide_eq_true_iff] at h2; exact h2.2
      exact ih _ (by omega)
    · exact ha
def rpAt (l : List UInt8) : Nat := if l.head? = some 45 then 1 else 0
def rpN (l : List UInt8) : Nat := (numF 0 (l.drop (rpAt l))).1
def rpE (l : List UInt8) : Nat := rpAt l + (numF 0 (l.drop (rpAt l))).2
def rpNum (l : List UInt8) : Int := if l.head? = some 45 then -(rpN l : Int) else (rpN l : Int)
def rpDen (l : List UInt8) : Int := if (l.drop (rpE l)).head? = some 47 then ((numF 0 (l.drop (rpE l + 1))).1 : Int) else 1

theorem rp_parts {n : Int} (hn : -1000000000000000 ≤ n ∧ n ≤ 1000000000000000) (rest : List UInt8) (hr : ∀ c, rest.head? = some c → isDig c = false) :
    rpNum (Lib.itoa n ++ rest) = n ∧ (Lib.itoa n ++ rest).drop (rpE (Lib.itoa n ++ rest)) = rest := by
  unfold Lib.itoa
  by_cases h : n < 0
  · rw [if_pos h]
    have hd : numF 0 (Lib.decDigits n.natAbs ++ rest) = (n.natAbs, (Lib.decDigits n.natAbs).length) := by
      have := numF_digits (Lib.decDigits n.natAbs) rest 0 (decDigits_all _) (by rw [foldDig_decDigits]; omega) hr
      rw [foldDig_decDigits] at this; exact this
    have ha : rpAt (45 :: Lib.decDigits n.natAbs ++ rest) = 1 := by unfold rpAt; simp
    refine ⟨?_, ?_⟩
    · unfold rpNum rpN
      rw [ha]
      simp only [List.cons_append, List.head?_cons, if_true, List.drop_succ_cons, List.drop_zero, hd]
      omega
    · unfold rpE
      rw [ha]
      simp only [List.cons_append, List.drop_succ_cons, List.drop_zero, hd]
      rw [Nat.add_comm, List.drop_succ_cons, List.drop_left]
  · rw [if_neg h]
    have hd : numF 0 (Lib.decDigits n.toNat ++ rest) = (n.toNat, (Lib.decDigits n.toNat).length) := by
      have := numF_digits (Lib.decDigits n.toNat) rest 0 (decDigits_all _) (by rw [foldDig_decDigits]; omega) hr
      rw [foldDig_decDigits] at this; exact this
    have hh : (Lib.decDigits n.toNat ++ rest).head? ≠ some 45 := by
      have h1 := decDigits_head n.toNat
      have h2 := decDigits_ne n.toNat
      cases hl : Lib.decDigits n.toNat with
      | nil => exact absurd hl h2
      | cons c r => rw [hl] at h1; exact h1
    have ha : rpAt (Lib.decDigits n.toNat ++ rest) = 0 := by unfold rpAt; rw [if_neg hh]
    refine ⟨?_, ?_⟩
    · unfold rpNum rpN
      rw [if_neg hh, ha, List.drop_zero, hd]; omega
    · unfold rpE
      rw [ha, List.drop_zero, hd, Nat.zero_add, List.drop_left]
theorem rp_text {n d : Int} (h : validB n d = true) : rpNum (textS n d) = n ∧ rpDen (textS n d) = d := by
  obtain ⟨v1, v2, v3, -⟩ := validB_iff.1 h
  unfold textS
  rw [if_pos h]
  split
  · rename_i hd
    have := rp_parts v3 [] (fun c hc => by cases hc)
    rw [List.append_nil] at this
    refine ⟨this.1, ?_⟩
    unfold rpDen
    rw [this.2, hd]; rfl
  · have := rp_parts v3 (47 :: Lib.itoa d) (fun c hc => by cases hc; rfl)
    refine ⟨this.1, ?_⟩
    unfold rpDen
    have hdr : (Lib.itoa n ++ 47 :: Lib.itoa d).drop (rpE (Lib.itoa n ++ 47 :: Lib.itoa d) + 1) = Lib.itoa d := by
      rw [← List.drop_drop, this.2]; rfl
    rw [this.2, hdr]
    simp only [List.head?_cons, if_true]
    have hi : Lib.itoa d = Lib.decDigits d.toNat := by unfold Lib.itoa; rw [if_neg (by omega)]
    have := numF_digits (Lib.decDigits d.toNat) [] 0 (decDigits_all _) (by rw [foldDig_decDigits]; omega) (fun c hc => by cases hc)
    rw [List.append_nil, foldDig_decDigits] at this
    rw [hi, this]; show ((d.toNat : Nat) : Int) = d; omega
theorem rp_yes {l : List UInt8} (h : validB (rpNum l) (rpDen l) = true) (e : textS (rpNum l) (rpDen l) = l) : parseS l = (rpNum l, rpDen l, true) := parseS_eq (.inl ⟨rfl, h, e⟩)
theorem rp_no {l : List UInt8} (h : validB (rpNum l) (rpDen l) = false ∨ textS (rpNum l) (rpDen l) ≠ l) : parseS l = (0, 0, false) := by
  refine parseS_eq (.inr ⟨rfl, fun n d hv e => ?_⟩)
  obtain ⟨e1, e2⟩ := rp_text hv
  rw [e] at e1 e2
  rw [e1, e2] at h
  rcases h with h | h
  · rw [hv] at h; cases h
  · exact h e
/-- the digits of a number, by the last one -/
theorem decDigits_last (n : Nat) : Lib.decDigits n = digs (n / 10) ++ [digB n] := by
  rw [decDigits_rec]
  unfold digs digB
  by_cases h : n < 10
  · rw [if_pos h, if_pos (by omega), Nat.mod_eq_of_lt h]; rfl
  · rw [if_neg h, if_neg (by omega)]
end Go.Proofs.YtemmgehaddghfaaDoor
