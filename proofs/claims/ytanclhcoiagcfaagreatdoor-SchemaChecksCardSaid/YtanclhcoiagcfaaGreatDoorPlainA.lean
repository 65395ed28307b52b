/- PLAIN: decimal numerals and back. No program. -/
import Derived.Lib.ItoaNum
import Derived.Lib.AtoiAll
namespace Go.Proofs.YtanclhcoiagcfaaGreatDoor

/-- in the range of num -/
def inB (n : Int) : Bool := decide (-1000000000000000 ≤ n) && decide (n ≤ 1000000000000000)
theorem inB_true {n : Int} : inB n = true ↔ -1000000000000000 ≤ n ∧ n ≤ 1000000000000000 := by
  unfold inB; rw [Bool.and_eq_true, decide_eq_true_iff, decide_eq_true_iff]
theorem inB_false {n : Int} : inB n = false ↔ n < -1000000000000000 ∨ 1000000000000000 < n := by
  rw [← Bool.not_eq_true, inB_true]; omega
theorem inB_cases (n : Int) : (inB n = true ∧ -1000000000000000 ≤ n ∧ n ≤ 1000000000000000) ∨ (inB n = false ∧ (n < -1000000000000000 ∨ 1000000000000000 < n)) := by
  cases h : inB n
  · right; exact ⟨rfl, inB_false.1 h⟩
  · left; exact ⟨rfl, inB_true.1 h⟩

/-- is a byte a decimal digit -/
def isDig (c : UInt8) : Bool := decide (48 ≤ c.toNat) && decide (c.toNat ≤ 57)
/-- what the digits among the bytes spell, behind a -/
def foldDig : Nat → List UInt8 → Nat
  | a, [] => a
  | a, c :: r => if isDig c then foldDig (a * 10 + (c.toNat - 48)) r else foldDig a r
theorem foldDig_append (a : Nat) (l r : List UInt8) : foldDig a (l ++ r) = foldDig (foldDig a l) r := by
  induction l generalizing a with
  | nil => rfl
  | cons c l ih =>
    simp only [List.cons_append, foldDig]
    split <;> exact ih _
theorem foldDig_snoc (a : Nat) (l : List UInt8) (c : UInt8) : foldDig a (l ++ [c]) = if isDig c then foldDig a l * 10 + (c.toNat - 48) else foldDig a l := by
  rw [foldDig_append]; simp only [foldDig]
/-- the number that a text spells, its sign by the first byte -/
def numOf (l : List UInt8) : Int := if l.head? = some 45 then -(foldDig 0 l : Int) else (foldDig 0 l : Int)

theorem dig_toNat {d : Nat} (h : d < 10) : (UInt8.ofNat (48 + d)).toNat = 48 + d := by
  rw [UInt8.toNat_ofNat']; omega
theorem isDig_dig {d : Nat} (h : d < 10) : isDig (UInt8.ofNat (48 + d)) = true := by
  unfold isDig; rw [dig_toNat h, decide_eq_true (by omega), decide_eq_true (by omega)]; rfl

theorem decDigits_rec (u : Nat) : Lib.decDigits u = if u < 10 then [UInt8.ofNat (48 + u)] else Lib.decDigits (u / 10) ++ [UInt8.ofNat (48 + u % 10)] := by
  rw [Lib.decDigits]
  by_cases h : u < 10
  · rw [dif_pos h, if_pos h]
  · rw [dif_neg h, if_neg h]

theorem decDigits_ne (u : Nat) : Lib.decDigits u ≠ [] := by
  rw [decDigits_rec]; split <;> simp

theorem foldDig_decDigits (u : Nat) : foldDig 0 (Lib.decDigits u) = u := by
  induction u using Nat.strongRecOn with
  | _ u ih =>
    rw [decDigits_rec]
    by_cases h : u < 10
    · rw [if_pos h]
      simp only [foldDig, isDig_dig h, if_pos, dig_toNat h]; omega
    · rw [if_neg h, foldDig_snoc, ih (u / 10) (by omega), isDig_dig (by omega), if_pos rfl, dig_toNat (by omega)]; omega

theorem decDigits_all (u : Nat) : ∀ c ∈ Lib.decDigits u, isDig c = true := by
  induction u using Nat.strongRecOn with
  | _ u ih =>
    rw [decDigits_rec]
    by_cases h : u < 10
    · rw [if_pos h]; intro c hc; rw [List.mem_singleton] at hc; subst hc; exact isDig_dig h
    · rw [if_neg h]; intro c hc
      rcases List.mem_append.1 hc with hc | hc
      · exact ih (u / 10) (by omega) c hc
      · rw [List.mem_singleton] at hc; subst hc; exact isDig_dig (by omega)

theorem decDigits_head (u : Nat) : (Lib.decDigits u).head? ≠ some 45 := by
  intro h
  have hm : (45 : UInt8) ∈ Lib.decDigits u := List.mem_of_mem_head? (by rw [h]; rfl)
  exact absurd (decDigits_all u 45 hm) (by decide)

theorem numOf_itoa (n : Int) : numOf (Lib.itoa n) = n := by
  unfold numOf Lib.itoa
  by_cases h : n < 0
  · rw [if_pos h]
    simp only [List.head?_cons, if_pos]
    have : foldDig 0 (45 :: Lib.decDigits n.natAbs) = n.natAbs := by
      have e : isDig 45 = false := by decide
      simp only [foldDig, e]
      exact foldDig_decDigits _
    rw [this]; omega
  · rw [if_neg h, if_neg (decDigits_head _), foldDig_decDigits]; omega

/-- the numeral has so many digits at the most -/
theorem decDigits_length (k u : Nat) (h : u < 10 ^ (k + 1)) : (Lib.decDigits u).length ≤ k + 1 := by
  induction k generalizing u with
  | zero => rw [decDigits_rec, if_pos (by omega)]; simp
  | succ k ih =>
    rw [decDigits_rec]
    by_cases g : u < 10
    · rw [if_pos g]; simp
    · rw [if_neg g, List.length_append]
      have := ih (u / 10) (by rw [Nat.pow_succ] at h; omega)
      simp; omega
theorem itoa_length {n : Int} (h : inB n = true) : (Lib.itoa n).length ≤ 17 := by
  have ⟨h1, h2⟩ := inB_true.1 h
  unfold Lib.itoa
  split
  · have := decDigits_length 15 n.natAbs (by omega)
    simp; omega
  · have := decDigits_length 15 n.toNat (by omega)
    omega

/-! the library's parse of a numeral -/
theorem parseUint10_digits (l : List UInt8) (a : Nat) (hd : ∀ c ∈ l, isDig c = true) (hb : foldDig a l < 18446744073709551616) : Lib.parseUint10 a l = .ok (foldDig a l) := by
  induction l generalizing a with
  | nil => rfl
  | cons c r ih =>
    have hc : isDig c = true := hd c (List.mem_cons_self ..)
    have hc' : 48 ≤ c.toNat ∧ c.toNat ≤ 57 := by
      unfold isDig at hc; rw [Bool.and_eq_true, decide_eq_true_iff, decide_eq_true_iff] at hc; exact hc
    have grow : ∀ (r : List UInt8) (b : Nat), (∀ c ∈ r, isDig c = true) → b ≤ foldDig b r := by
      intro r
      induction r with
      | nil => intro b _; exact Nat.le_refl _
      | cons d r ih =>
        intro b h
        have := ih (b * 10 + (d.toNat - 48)) (fun x hx => h x (List.mem_cons_of_mem _ hx))
        simp only [foldDig, h d (List.mem_cons_self ..), if_pos]; omega
    have hr : ∀ x ∈ r, isDig x = true := fun x hx => hd x (List.mem_cons_of_mem _ hx)
    simp only [foldDig, hc, if_pos] at hb ⊢
    have := grow r (a * 10 + (c.toNat - 48)) hr
    simp only [Lib.parseUint10]
    rw [if_pos hc', if_neg (by omega), if_neg (by omega)]
    exact ih _ hr hb

theorem parseMag_decDigits (u : Nat) (h : u < 18446744073709551616) : Lib.parseMag (Lib.decDigits u) = .ok u := by
  unfold Lib.parseMag
  rw [if_neg (decDigits_ne u), parseUint10_digits _ _ (decDigits_all u) (by rw [foldDig_decDigits]; exact h), foldDig_decDigits]

theorem atoiAll_itoa (n : Int) (h0 : -9223372036854775808 ≤ n) (h1 : n ≤ 9223372036854775807) : Lib.atoiAll (Lib.itoa n) = .ok n := by
  unfold Lib.itoa
  by_cases h : n < 0
  · rw [if_pos h]
    unfold Lib.atoiAll
    have e : (45 : UInt8).toNat = 45 := by decide
    simp only [e, or_true, if_pos, parseMag_decDigits n.natAbs (by omega)]
    rw [if_neg (fun k => k.1 trivial), if_neg (by omega)]
    congr 1; omega
  · rw [if_neg h]
    cases hl : Lib.decDigits n.toNat with
    | nil => exact absurd hl (decDigits_ne _)
    | cons c r =>
      have hc := decDigits_all n.toNat c (by rw [hl]; exact List.mem_cons_self ..)
      unfold isDig at hc; rw [Bool.and_eq_true, decide_eq_true_iff, decide_eq_true_iff] at hc
      unfold Lib.atoiAll
      rw [← hl]
      have hm := parseMag_decDigits n.toNat (by omega)
      simp only [hl] at hm ⊢
      rw [if_neg (by omega), hm]
      simp only
      rw [if_neg (by omega), if_neg (by omega), if_neg (by omega)]
      congr 1; omega

/-- the last digit of m, as a byte -/
def digB (m : Nat) : UInt8 := UInt8.ofNat (48 + m % 10)
theorem digB_toNat (m : Nat) : (digB m).toNat = 48 + m % 10 := dig_toNat (by omega)
/-- the digits of m, none for 0 -/
def digs (m : Nat) : List UInt8 := if m = 0 then [] else Lib.decDigits m
theorem digs_zero : digs 0 = [] := rfl
theorem digs_pos {m : Nat} (h : m ≠ 0) : digs m = digs (m / 10) ++ [digB m] := by
  unfold digs digB
  rw [if_neg h, decDigits_rec]
  by_cases g : m < 10
  · rw [if_pos g, if_pos (by omega), Nat.mod_eq_of_lt g]; rfl
  · rw [if_neg g, if_neg (by omega)]
theorem digs_step {m n : Nat} {l : List UInt8} (h : m ≠ 0) (hd : digs m ++ l = digs n) : digs (m / 10) ++ (digB m :: l) = digs n := by
  rw [digs_pos h, List.append_assoc] at hd; exact hd
theorem digs_length {n : Nat} (h : n ≤ 9223372036854775808) : (digs n).length ≤ 20 := by
  unfold digs
  split
  · simp
  · have := decDigits_length 18 n (by omega); omega

/-- IS THE TEXT THE NUMERAL OF A NUMBER IN RANGE -/
def parseB (l : List UInt8) : Bool := inB (numOf l) && (Lib.itoa (numOf l) == l)
def parseV (l : List UInt8) : Int := if parseB l then numOf l else 0
theorem parse_yes {n : Int} (h : inB n = true) {l : List UInt8} (e : Lib.itoa n = l) : parseB l = true ∧ parseV l = n := by
  subst e
  have : parseB (Lib.itoa n) = true := by unfold parseB; rw [numOf_itoa, h]; simp
  exact ⟨this, by unfold parseV; rw [if_pos this, numOf_itoa]⟩
theorem parse_no {l : List UInt8} (h : ∀ n, inB n = true → Lib.itoa n ≠ l) : parseB l = false ∧ parseV l = 0 := by
  have : parseB l = false := by
    cases hp : parseB l
    · rfl
    · unfold parseB at hp
      rw [Bool.and_eq_true, beq_iff_eq] at hp
      exact absurd hp.2 (h _ hp.1)
  exact ⟨this, by unfold parseV; rw [this]; rfl⟩
theorem parse_inv {l : List UInt8} (h : parseB l = true) : inB (parseV l) = true ∧ Lib.itoa (parseV l) = l := by
  unfold parseV; rw [if_pos h]
  unfold parseB at h
  rw [Bool.and_eq_true, beq_iff_eq] at h
  exact h
end Go.Proofs.YtanclhcoiagcfaaGreatDoor
