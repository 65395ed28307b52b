/- PLAIN: fractions in lowest terms. No program. -/
import Derived.Test.YtemmgehaddghfaaDoorPlainA
namespace Go.Proofs.YtemmgehaddghfaaDoor

/-- the greatest common divisor of two absolute values -/
def cgcd (a b : Int) : Int := (Nat.gcd a.natAbs b.natAbs : Int)
/-- is n/d a fraction in lowest terms and in range -/
def validB (n d : Int) : Bool := decide (1 ≤ d) && decide (d ≤ 1000000000000000) && inB n && (cgcd n d == 1)
theorem validB_iff {n d : Int} : validB n d = true ↔ 1 ≤ d ∧ d ≤ 1000000000000000 ∧ (-1000000000000000 ≤ n ∧ n ≤ 1000000000000000) ∧ cgcd n d = 1 := by
  unfold validB
  rw [Bool.and_eq_true, Bool.and_eq_true, Bool.and_eq_true, decide_eq_true_iff, decide_eq_true_iff, inB_true, beq_iff_eq]
  constructor
  · rintro ⟨⟨⟨a, b⟩, c⟩, d⟩; exact ⟨a, b, c, d⟩
  · rintro ⟨a, b, c, d⟩; exact ⟨⟨⟨a, b⟩, c⟩, d⟩

/-- lowest terms -/
def Low (n d : Int) : Prop := 1 ≤ d ∧ cgcd n d = 1
theorem low_unique {n d n' d' : Int} (h : Low n d) (h' : Low n' d') (e : n * d' = n' * d) : n = n' ∧ d = d' := by
  obtain ⟨h1, h2⟩ := h
  obtain ⟨g1, g2⟩ := h'
  have c1 : Nat.Coprime n.natAbs d.natAbs := by unfold cgcd at h2; unfold Nat.Coprime; omega
  have c2 : Nat.Coprime n'.natAbs d'.natAbs := by unfold cgcd at g2; unfold Nat.Coprime; omega
  have e' : n.natAbs * d'.natAbs = n'.natAbs * d.natAbs := by rw [← Int.natAbs_mul, ← Int.natAbs_mul, e]
  have d1 : d.natAbs ∣ d'.natAbs := c1.symm.dvd_of_dvd_mul_left ⟨n'.natAbs, by rw [e', Nat.mul_comm]⟩
  have d2 : d'.natAbs ∣ d.natAbs := c2.symm.dvd_of_dvd_mul_left ⟨n.natAbs, by rw [← e', Nat.mul_comm]⟩
  have ed : d.natAbs = d'.natAbs := Nat.dvd_antisymm d1 d2
  have ed' : d = d' := by omega
  subst ed'
  exact ⟨Int.eq_of_mul_eq_mul_right (by omega) e, rfl⟩

theorem cgcd_pos {N D : Int} (hD : 1 ≤ D) : 1 ≤ cgcd N D := by
  unfold cgcd
  have : 0 < Nat.gcd N.natAbs D.natAbs := Nat.gcd_pos_of_pos_right _ (by omega)
  omega
theorem cgcd_left (N D : Int) : cgcd N D ∣ N := Int.ofNat_dvd_left.2 (Nat.gcd_dvd_left _ _)
theorem cgcd_right (N D : Int) : cgcd N D ∣ D := Int.ofNat_dvd_left.2 (Nat.gcd_dvd_right _ _)
theorem cgcd_le {N D : Int} (hD : 1 ≤ D) : cgcd N D ≤ D := Int.le_of_dvd (by omega) (cgcd_right N D)
theorem cgcd_comm (a b : Int) : cgcd a b = cgcd b a := by unfold cgcd; rw [Nat.gcd_comm]
theorem natAbs_div {a b : Int} (h : b ∣ a) : (a / b).natAbs = a.natAbs / b.natAbs := by
  obtain ⟨c, rfl⟩ := h
  by_cases hb : b = 0
  · subst hb; simp
  · rw [Int.mul_ediv_cancel_left _ hb, Int.natAbs_mul, Nat.mul_div_cancel_left _ (by omega)]

/-- N/D reduced -/
theorem low_red {N D : Int} (hD : 1 ≤ D) : Low (N / cgcd N D) (D / cgcd N D) := by
  have hp := cgcd_pos (N := N) hD
  refine ⟨?_, ?_⟩
  · exact Int.le_ediv_of_mul_le (by omega) (by have := cgcd_le (N := N) hD; omega)
  · have e : cgcd (N / cgcd N D) (D / cgcd N D) = (Nat.gcd (N.natAbs / (cgcd N D).natAbs) (D.natAbs / (cgcd N D).natAbs) : Nat) := by
      show ((Nat.gcd (N / cgcd N D).natAbs (D / cgcd N D).natAbs : Nat) : Int) = _
      rw [natAbs_div (cgcd_left N D), natAbs_div (cgcd_right N D)]
    rw [e]
    have e2 : (cgcd N D).natAbs = Nat.gcd N.natAbs D.natAbs := by unfold cgcd; rfl
    rw [e2]
    have := Nat.coprime_div_gcd_div_gcd (m := N.natAbs) (n := D.natAbs) (Nat.gcd_pos_of_pos_right _ (by omega))
    unfold Nat.Coprime at this
    rw [this]; rfl
theorem red_cross (N D : Int) : (N / cgcd N D) * D = N * (D / cgcd N D) := by
  have e1 := Int.ediv_mul_cancel (cgcd_left N D)
  have e2 := Int.ediv_mul_cancel (cgcd_right N D)
  generalize cgcd N D = g at *
  grind

/-- N/D IN LOWEST TERMS, IF IT IS IN RANGE -/
def redS (N D : Int) : Int × Int × Bool := if inB (N / cgcd N D) && inB (D / cgcd N D) then (N / cgcd N D, D / cgcd N D, true) else (0, 0, false)
/-- what is laid by a pair in lowest terms -/
def cutS (n d : Int) : Int × Int × Bool := if inB n && inB d then (n, d, true) else (0, 0, false)
theorem redS_of_low {N D n d : Int} (hD : 1 ≤ D) (h : Low n d) (e : n * D = N * d) : redS N D = cutS n d := by
  have hl := low_red (N := N) hD
  have hc := red_cross N D
  have : N / cgcd N D = n ∧ D / cgcd N D = d := by
    refine low_unique hl h ?_
    have : ((N / cgcd N D) * d) * D = (n * (D / cgcd N D)) * D := by
      generalize N / cgcd N D = x at *
      generalize D / cgcd N D = y at *
      grind
    exact Int.eq_of_mul_eq_mul_right (by omega) this
  unfold redS cutS
  rw [this.1, this.2]
theorem redS_congr {N D N' D' : Int} (hD : 1 ≤ D) (hD' : 1 ≤ D') (e : N * D' = N' * D) : redS N D = redS N' D' := by
  have hl := low_red (N := N') hD'
  have hc := red_cross N' D'
  rw [redS_of_low hD hl]
  · rfl
  · have : ((N' / cgcd N' D') * D) * D' = (N * (D' / cgcd N' D')) * D' := by
      generalize N' / cgcd N' D' = x at *
      generalize D' / cgcd N' D' = y at *
      grind
    exact Int.eq_of_mul_eq_mul_right (by omega) this
theorem redS_ok {N D n d : Int} (hD : 1 ≤ D) (h : redS N D = (n, d, true)) : validB n d = true ∧ n * D = N * d := by
  unfold redS at h
  split at h
  · rename_i hr
    rw [Bool.and_eq_true, inB_true, inB_true] at hr
    obtain ⟨rfl, h2⟩ := Prod.mk.inj h
    obtain ⟨rfl, -⟩ := Prod.mk.inj h2
    have hl := low_red (N := N) hD
    exact ⟨validB_iff.2 ⟨hl.1, hr.2.2, hr.1, hl.2⟩, red_cross N D⟩
  · cases h
theorem redS_bad {N D n d : Int} (h : redS N D = (n, d, false)) : n = 0 ∧ d = 0 := by
  unfold redS at h
  split at h
  · cases h
  · cases h; exact ⟨rfl, rfl⟩
theorem redS_valid {n d : Int} (h : validB n d = true) : redS n d = (n, d, true) := by
  have ⟨h1, h2, h3, h4⟩ := validB_iff.1 h
  rw [redS_of_low h1 ⟨h1, h4⟩ rfl, cutS, inB_true.2 h3, inB_true.2 (by omega)]; rfl

/-! the sum, by the greatest common divisor of the denominators -/
theorem coprime_of {a b : Int} (h : cgcd a b = 1) : Nat.Coprime a.natAbs b.natAbs := by unfold cgcd at h; unfold Nat.Coprime; omega
theorem of_coprime {a b : Int} (h : Nat.Coprime a.natAbs b.natAbs) : cgcd a b = 1 := by unfold cgcd; unfold Nat.Coprime at h; rw [h]; rfl
theorem coprime_natAbs_of_nat {a b : Int} (h : ∀ p : Nat, p ∣ a.natAbs → p ∣ b.natAbs → p = 1) : Nat.Coprime a.natAbs b.natAbs :=
  h _ (Nat.gcd_dvd_left _ _) (Nat.gcd_dvd_right _ _)

theorem dvd_of_mul {x y z : Int} (e : x * y = z) : x.natAbs ∣ z.natAbs := ⟨y.natAbs, by rw [← Int.natAbs_mul, e]⟩
theorem sum_low {an ad bn bd : Int} (ha : Low an ad) (hb : Low bn bd) :
    let g := cgcd ad bd
    let t := an * (bd / g) + bn * (ad / g)
    let h := cgcd t g
    Low (t / h) ((ad / g) * (bd / h)) ∧ (t / h) * (ad * bd) = (an * bd + bn * ad) * ((ad / g) * (bd / h)) := by
  intro g t h
  have hg1 : 1 ≤ g := cgcd_pos hb.1
  have hh1 : 1 ≤ h := cgcd_pos hg1
  have dg1 : g ∣ ad := cgcd_left ad bd
  have dg2 : g ∣ bd := cgcd_right ad bd
  have dh1 : h ∣ t := cgcd_left t g
  have dh2 : h ∣ g := cgcd_right t g
  have ea : ad / g * g = ad := Int.ediv_mul_cancel dg1
  have eb : bd / g * g = bd := Int.ediv_mul_cancel dg2
  have et : t / h * h = t := Int.ediv_mul_cancel dh1
  have eg : g / h * h = g := Int.ediv_mul_cancel dh2
  have ebh : bd / h = (bd / g) * (g / h) := by
    apply Int.ediv_eq_of_eq_mul_left (by omega)
    rw [Int.mul_assoc, eg, eb]
  have ca := coprime_of ha.2
  have cb := coprime_of hb.2
  have cab : Nat.Coprime (ad / g).natAbs (bd / g).natAbs := coprime_of (low_red (N := ad) hb.1).2
  have cth : Nat.Coprime (t / h).natAbs (g / h).natAbs := coprime_of (low_red (N := t) hg1).2
  have ta : Nat.Coprime t.natAbs (ad / g).natAbs := by
    refine coprime_natAbs_of_nat fun p p1 p2 => ?_
    have q1 : (p : Int) ∣ t := Int.ofNat_dvd_left.2 p1
    have q2 : (p : Int) ∣ ad / g := Int.ofNat_dvd_left.2 p2
    have q3 : (p : Int) ∣ an * (bd / g) := by
      have : an * (bd / g) = t - bn * (ad / g) := by show _ = an * (bd / g) + bn * (ad / g) - _; omega
      rw [this]; exact Int.dvd_sub q1 (Int.dvd_trans q2 (Int.dvd_mul_left _ _))
    have p3 : p ∣ an.natAbs * (bd / g).natAbs := by rw [← Int.natAbs_mul]; exact Int.ofNat_dvd_left.1 q3
    have c1 : Nat.Coprime p an.natAbs := (Nat.Coprime.coprime_dvd_left (Nat.dvd_trans p2 (dvd_of_mul ea)) ca.symm)
    have p4 := c1.dvd_of_dvd_mul_left p3
    exact Nat.Coprime.eq_one_of_dvd (Nat.Coprime.coprime_dvd_left p2 cab) p4
  have tb : Nat.Coprime t.natAbs (bd / g).natAbs := by
    refine coprime_natAbs_of_nat fun p p1 p2 => ?_
    have q1 : (p : Int) ∣ t := Int.ofNat_dvd_left.2 p1
    have q2 : (p : Int) ∣ bd / g := Int.ofNat_dvd_left.2 p2
    have q3 : (p : Int) ∣ bn * (ad / g) := by
      have : bn * (ad / g) = t - an * (bd / g) := by show _ = an * (bd / g) + bn * (ad / g) - _; omega
      rw [this]; exact Int.dvd_sub q1 (Int.dvd_trans q2 (Int.dvd_mul_left _ _))
    have p3 : p ∣ bn.natAbs * (ad / g).natAbs := by rw [← Int.natAbs_mul]; exact Int.ofNat_dvd_left.1 q3
    have c1 : Nat.Coprime p bn.natAbs := (Nat.Coprime.coprime_dvd_left (Nat.dvd_trans p2 (dvd_of_mul eb)) cb.symm)
    have p4 := c1.dvd_of_dvd_mul_left p3
    exact Nat.Coprime.eq_one_of_dvd (Nat.Coprime.coprime_dvd_left p2 cab.symm) p4
  have dth : (t / h).natAbs ∣ t.natAbs := dvd_of_mul et
  refine ⟨⟨?_, ?_⟩, ?_⟩
  · rw [ebh]
    have a1 : 1 ≤ ad / g := (low_red (N := bd) ha.1).1 |> fun x => by rw [cgcd_comm] at x; exact x
    have a2 : 1 ≤ bd / g := (low_red (N := ad) hb.1).1
    have a3 : 1 ≤ g / h := (low_red (N := t) hg1).1
    have := Int.mul_pos (show 0 < ad / g by omega) (Int.mul_pos (show 0 < bd / g by omega) (show 0 < g / h by omega))
    omega
  · rw [ebh]
    apply of_coprime
    rw [Int.natAbs_mul, Int.natAbs_mul]
    exact Nat.Coprime.mul_right (Nat.Coprime.coprime_dvd_left dth ta) (Nat.Coprime.mul_right (Nat.Coprime.coprime_dvd_left dth tb) cth)
  · rw [ebh]
    have ht : t = an * (bd / g) + bn * (ad / g) := rfl
    generalize ad / g = A at *
    generalize bd / g = B at *
    generalize g / h = G at *
    generalize t / h = T at *
    have e1 : T * (ad * bd) = T * h * (A * (B * g)) * G := by rw [← ea, ← eb, ← eg]; grind
    rw [e1, et, ht, ← ea, ← eb]
    grind

/-- THE SUM, as both packages reckon it, and its law -/
def addS (an ad bn bd : Int) : Int × Int × Bool :=
  if validB an ad && validB bn bd then redS (an * bd + bn * ad) (ad * bd) else (0, 0, false)
theorem addS_valid {an ad bn bd : Int} (ha : validB an ad = true) (hb : validB bn bd = true) : addS an ad bn bd = redS (an * bd + bn * ad) (ad * bd) := by
  unfold addS; rw [ha, hb]; rfl
theorem low_of_valid {n d : Int} (h : validB n d = true) : Low n d := ⟨(validB_iff.1 h).1, (validB_iff.1 h).2.2.2⟩
theorem pos_mul {a b : Int} (ha : 1 ≤ a) (hb : 1 ≤ b) : 1 ≤ a * b := by
  have := Int.mul_pos (show 0 < a by omega) (show 0 < b by omega); omega
theorem addS_formula {an ad bn bd : Int} (ha : validB an ad = true) (hb : validB bn bd = true) :
    addS an ad bn bd = cutS ((an * (bd / cgcd ad bd) + bn * (ad / cgcd ad bd)) / cgcd (an * (bd / cgcd ad bd) + bn * (ad / cgcd ad bd)) (cgcd ad bd)) ((ad / cgcd ad bd) * (bd / cgcd (an * (bd / cgcd ad bd) + bn * (ad / cgcd ad bd)) (cgcd ad bd))) := by
  have hl := low_of_valid ha
  have hm := low_of_valid hb
  have := sum_low hl hm
  rw [addS_valid ha hb]
  exact redS_of_low (pos_mul hl.1 hm.1) this.1 this.2
theorem addS_zero {an ad bn bd : Int} (ha : validB an ad = true) (hb : validB bn bd = true) (h : an * (bd / cgcd ad bd) + bn * (ad / cgcd ad bd) = 0) : addS an ad bn bd = (0, 1, true) := by
  have hl := low_of_valid ha
  have hm := low_of_valid hb
  have := sum_low hl hm
  rw [addS_valid ha hb, redS_of_low (n := 0) (d := 1) (pos_mul hl.1 hm.1) ⟨by omega, by decide⟩]
  · rfl
  · have e := this.2
    simp only [h, Int.zero_ediv, Int.zero_mul] at e
    have hp := this.1.1
    simp only [h] at hp
    rcases Int.mul_eq_zero.1 e.symm with k | k
    · rw [k]; omega
    · omega

/-! the product, by the greatest common divisors across -/
def mulS (an ad bn bd : Int) : Int × Int × Bool :=
  if validB an ad && validB bn bd then redS (an * bn) (ad * bd) else (0, 0, false)
theorem mulS_valid {an ad bn bd : Int} (ha : validB an ad = true) (hb : validB bn bd = true) : mulS an ad bn bd = redS (an * bn) (ad * bd) := by
  unfold mulS; rw [ha, hb]; rfl
theorem coprime_div_left {a b c : Int} (h : Nat.Coprime a.natAbs b.natAbs) (hc : c ∣ a) : Nat.Coprime (a / c).natAbs b.natAbs :=
  Nat.Coprime.coprime_dvd_left (dvd_of_mul (Int.ediv_mul_cancel hc)) h
theorem prod_low {an ad bn bd : Int} (ha : Low an ad) (hb : Low bn bd) :
    Low ((an / cgcd an bd) * (bn / cgcd bn ad)) ((ad / cgcd bn ad) * (bd / cgcd an bd)) ∧
    ((an / cgcd an bd) * (bn / cgcd bn ad)) * (ad * bd) = (an * bn) * ((ad / cgcd bn ad) * (bd / cgcd an bd)) := by
  have g1 : 1 ≤ cgcd an bd := cgcd_pos hb.1
  have h1 : 1 ≤ cgcd bn ad := cgcd_pos ha.1
  have e1 := Int.ediv_mul_cancel (cgcd_left an bd)
  have e2 := Int.ediv_mul_cancel (cgcd_right an bd)
  have e3 := Int.ediv_mul_cancel (cgcd_left bn ad)
  have e4 := Int.ediv_mul_cancel (cgcd_right bn ad)
  have ca := coprime_of ha.2
  have cb := coprime_of hb.2
  have c1 : Nat.Coprime (an / cgcd an bd).natAbs (bd / cgcd an bd).natAbs := coprime_of (low_red (N := an) hb.1).2
  have c2 : Nat.Coprime (bn / cgcd bn ad).natAbs (ad / cgcd bn ad).natAbs := coprime_of (low_red (N := bn) ha.1).2
  have c3 : Nat.Coprime (an / cgcd an bd).natAbs (ad / cgcd bn ad).natAbs :=
    Nat.Coprime.coprime_dvd_left (dvd_of_mul e1) (Nat.Coprime.coprime_dvd_left (dvd_of_mul e4) ca.symm).symm
  have c4 : Nat.Coprime (bn / cgcd bn ad).natAbs (bd / cgcd an bd).natAbs :=
    Nat.Coprime.coprime_dvd_left (dvd_of_mul e3) (Nat.Coprime.coprime_dvd_left (dvd_of_mul e2) cb.symm).symm
  refine ⟨⟨?_, ?_⟩, ?_⟩
  · exact pos_mul (low_red (N := bn) ha.1).1 (low_red (N := an) hb.1).1
  · apply of_coprime
    rw [Int.natAbs_mul, Int.natAbs_mul]
    exact Nat.Coprime.mul_left (Nat.Coprime.mul_right c3 c1) (Nat.Coprime.mul_right c2 c4)
  · generalize an / cgcd an bd = A at *
    generalize bn / cgcd bn ad = B at *
    generalize ad / cgcd bn ad = C at *
    generalize bd / cgcd an bd = D at *
    generalize cgcd an bd = g at *
    generalize cgcd bn ad = h at *
    rw [← e1, ← e2, ← e3, ← e4]; grind
theorem mulS_formula {an ad bn bd : Int} (ha : validB an ad = true) (hb : validB bn bd = true) :
    mulS an ad bn bd = cutS ((an / cgcd an bd) * (bn / cgcd bn ad)) ((ad / cgcd bn ad) * (bd / cgcd an bd)) := by
  have hl := low_of_valid ha
  have hm := low_of_valid hb
  have := prod_low hl hm
  rw [mulS_valid ha hb]
  exact redS_of_low (pos_mul hl.1 hm.1) this.1 this.2

end Go.Proofs.YtemmgehaddghfaaDoor
