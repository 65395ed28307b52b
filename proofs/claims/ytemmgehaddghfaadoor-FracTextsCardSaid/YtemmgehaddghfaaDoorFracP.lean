/- PLAIN LAWS: the field and the order. -/
import Derived.Test.YtemmgehaddghfaaDoorFracV
namespace Go.Proofs.YtemmgehaddghfaaDoor

theorem addS_comm (an ad bn bd : Int) : addS an ad bn bd = addS bn bd an ad := by
  unfold addS
  rw [Bool.and_comm, Int.add_comm (an * bd), Int.mul_comm ad bd]

theorem mulS_comm (an ad bn bd : Int) : mulS an ad bn bd = mulS bn bd an ad := by
  unfold mulS
  rw [Bool.and_comm, Int.mul_comm an bn, Int.mul_comm ad bd]

theorem addS_ok {an ad bn bd x y : Int} (h : addS an ad bn bd = (x, y, true)) : validB an ad = true ∧ validB bn bd = true ∧ validB x y = true ∧ x * (ad * bd) = (an * bd + bn * ad) * y := by
  cases ha : validB an ad
  · unfold addS at h; rw [ha] at h; cases h
  · cases hb : validB bn bd
    · unfold addS at h; rw [ha, hb] at h; cases h
    · rw [addS_valid ha hb] at h
      have := redS_ok (pos_mul (low_of_valid ha).1 (low_of_valid hb).1) h
      exact ⟨rfl, rfl, this.1, this.2⟩

theorem mulS_ok {an ad bn bd x y : Int} (h : mulS an ad bn bd = (x, y, true)) : validB an ad = true ∧ validB bn bd = true ∧ validB x y = true ∧ x * (ad * bd) = (an * bn) * y := by
  cases ha : validB an ad
  · unfold mulS at h; rw [ha] at h; cases h
  · cases hb : validB bn bd
    · unfold mulS at h; rw [ha, hb] at h; cases h
    · rw [mulS_valid ha hb] at h
      have := redS_ok (pos_mul (low_of_valid ha).1 (low_of_valid hb).1) h
      exact ⟨rfl, rfl, this.1, this.2⟩

theorem cgcd_neg (n d : Int) : cgcd (-n) d = cgcd n d := by unfold cgcd; rw [Int.natAbs_neg]

theorem valid_neg {n d : Int} (h : validB n d = true) : validB (-n) d = true := by
  obtain ⟨h1, h2, h3, h4⟩ := validB_iff.1 h
  exact validB_iff.2 ⟨h1, h2, ⟨by omega, by omega⟩, by rw [cgcd_neg]; exact h4⟩

theorem valid_pos {n d : Int} (h : validB n d = true) : 1 ≤ d := (validB_iff.1 h).1

/-- a + b - b = a -/
theorem sub_add {an ad bn bd x y : Int} (h : addS an ad bn bd = (x, y, true)) : subS x y bn bd = (an, ad, true) := by
  obtain ⟨ha, hb, hx, e⟩ := addS_ok h
  unfold subS
  rw [addS_valid hx (valid_neg hb), ← redS_valid ha]
  refine redS_congr (pos_mul (valid_pos hx) (valid_pos hb)) (valid_pos ha) ?_
  grind

theorem valid_swap {n d : Int} (h : validB n d = true) (h0 : 0 < n) : validB d n = true := by
  obtain ⟨h1, h2, h3, h4⟩ := validB_iff.1 h
  exact validB_iff.2 ⟨by omega, by omega, ⟨by omega, by omega⟩, by rw [cgcd_comm]; exact h4⟩

theorem valid_swap_neg {n d : Int} (h : validB n d = true) (h0 : n < 0) : validB (-d) (-n) = true := by
  obtain ⟨h1, h2, h3, h4⟩ := validB_iff.1 h
  refine validB_iff.2 ⟨by omega, by omega, ⟨by omega, by omega⟩, ?_⟩
  rw [cgcd_neg, cgcd_comm, cgcd_neg]; exact h4

/-- a * b / b = a -/
theorem div_mul {an ad bn bd p q : Int} (h : mulS an ad bn bd = (p, q, true)) (h0 : bn ≠ 0) : divS p q bn bd = (an, ad, true) := by
  obtain ⟨ha, hb, hp, e⟩ := mulS_ok h
  unfold divS
  rw [hb, bne_iff_ne.2 h0]
  simp only [Bool.and_self, if_true]
  by_cases hn : bn < 0
  · rw [if_pos hn, mulS_valid hp (valid_swap_neg hb hn), ← redS_valid ha]
    refine redS_congr (pos_mul (valid_pos hp) (by omega)) (valid_pos ha) ?_
    grind
  · rw [if_neg hn, mulS_valid hp (valid_swap hb (by omega)), ← redS_valid ha]
    refine redS_congr (pos_mul (valid_pos hp) (by omega)) (valid_pos ha) ?_
    grind

/-- (a + b) + c = a + (b + c) -/
theorem add_assoc {an ad bn bd cn cd x y u v : Int} (h : addS an ad bn bd = (x, y, true)) (k : addS bn bd cn cd = (u, v, true)) : addS x y cn cd = addS an ad u v := by
  obtain ⟨ha, hb, hx, e⟩ := addS_ok h
  obtain ⟨-, hc, hu, f⟩ := addS_ok k
  rw [addS_valid hx hc, addS_valid ha hu]
  refine redS_congr (pos_mul (valid_pos hx) (valid_pos hc)) (pos_mul (valid_pos ha) (valid_pos hu)) ?_
  have b0 : bd ≠ 0 := by have := valid_pos hb; omega
  refine Int.eq_of_mul_eq_mul_right b0 ?_
  grind

theorem mul_assoc' {an ad bn bd cn cd x y u v : Int} (h : mulS an ad bn bd = (x, y, true)) (k : mulS bn bd cn cd = (u, v, true)) : mulS x y cn cd = mulS an ad u v := by
  obtain ⟨ha, hb, hx, e⟩ := mulS_ok h
  obtain ⟨-, hc, hu, f⟩ := mulS_ok k
  rw [mulS_valid hx hc, mulS_valid ha hu]
  refine redS_congr (pos_mul (valid_pos hx) (valid_pos hc)) (pos_mul (valid_pos ha) (valid_pos hu)) ?_
  have b0 : bd ≠ 0 := by have := valid_pos hb; omega
  refine Int.eq_of_mul_eq_mul_right b0 ?_
  grind

/-- a * (b + c) = a * b + a * c -/
theorem mul_add' {an ad bn bd cn cd s t p q u v : Int} (h : addS bn bd cn cd = (s, t, true)) (k : mulS an ad bn bd = (p, q, true)) (l : mulS an ad cn cd = (u, v, true)) : mulS an ad s t = addS p q u v := by
  obtain ⟨hb, hc, hs, e⟩ := addS_ok h
  obtain ⟨ha, -, hp, f⟩ := mulS_ok k
  obtain ⟨-, -, hu, g⟩ := mulS_ok l
  rw [mulS_valid ha hs, addS_valid hp hu]
  refine redS_congr (pos_mul (valid_pos ha) (valid_pos hs)) (pos_mul (valid_pos hp) (valid_pos hu)) ?_
  have b0 : bd ≠ 0 := by have := valid_pos hb; omega
  have c0 : cd ≠ 0 := by have := valid_pos hc; omega
  have a0 : ad ≠ 0 := by have := valid_pos ha; omega
  refine Int.eq_of_mul_eq_mul_right a0 ?_
  refine Int.eq_of_mul_eq_mul_right b0 ?_
  refine Int.eq_of_mul_eq_mul_right c0 ?_
  have e1 : an * s * (q * v) * ad * bd * cd = (s * (bd * cd)) * (an * q * v * ad) := by grind
  have e2 : (p * v + u * q) * (ad * t) * ad * bd * cd = (p * (ad * bd)) * (v * t * ad * cd) + (u * (ad * cd)) * (q * t * ad * bd) := by grind
  rw [e1, e2, e, f, g]
  grind

end Go.Proofs.YtemmgehaddghfaaDoor
