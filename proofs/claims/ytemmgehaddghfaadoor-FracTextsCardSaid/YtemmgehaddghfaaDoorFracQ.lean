/- PLAIN LAWS: the order, the floor. -/
import Derived.Test.YtemmgehaddghfaaDoorFracP
namespace Go.Proofs.YtemmgehaddghfaaDoor

theorem sgn_neg (x : Int) : sgn (-x) = -sgn x := by unfold sgn; split <;> split <;> (try split) <;> omega
theorem sgn_le {x : Int} : sgn x ≤ 0 ↔ x ≤ 0 := by unfold sgn; split <;> (try split) <;> omega
theorem sgn_lt {x : Int} : sgn x < 0 ↔ x < 0 := by unfold sgn; split <;> (try split) <;> omega
theorem sgn_gt {x : Int} : 0 < sgn x ↔ 0 < x := by unfold sgn; split <;> (try split) <;> omega
theorem sgn_eq {x : Int} : sgn x = 0 ↔ x = 0 := by unfold sgn; split <;> (try split) <;> omega
theorem sgn_scale {P Q p q : Int} (hp : 0 < p) (hq : 0 < q) (e : P * p = Q * q) : sgn P = sgn Q := by
  rcases Int.lt_trichotomy P 0 with h | h | h
  · have h1 : P * p < 0 := Int.mul_neg_of_neg_of_pos h hp
    have h2 : Q < 0 := by
      rcases (show Q < 0 ∨ 0 ≤ Q by omega) with k | k
      · exact k
      · have := Int.mul_nonneg k (show 0 ≤ q by omega); omega
    unfold sgn; rw [if_pos h, if_pos h2]
  · subst h
    have h2 : Q = 0 := by
      rw [Int.zero_mul] at e
      rcases Int.mul_eq_zero.1 e.symm with k | k <;> omega
    rw [h2]
  · have h1 : 0 < P * p := Int.mul_pos h hp
    have h2 : 0 < Q := by
      rcases (show 0 < Q ∨ Q ≤ 0 by omega) with k | k
      · exact k
      · have := Int.mul_nonneg (show 0 ≤ -Q by omega) (show 0 ≤ q by omega); rw [Int.neg_mul] at this; omega
    unfold sgn; rw [if_neg (by omega), if_pos h, if_neg (by omega), if_pos h2]

theorem fixD_pos (n d : Int) : 1 ≤ fixD n d := by
  unfold fixD
  cases h : validB n d
  · simp
  · exact valid_pos h

theorem cmp_anti (an ad bn bd : Int) : cmpS an ad bn bd = -cmpS bn bd an ad := by
  unfold cmpS; rw [← sgn_neg]; congr 1; omega
theorem cmp_self (an ad : Int) : cmpS an ad an ad = 0 := by unfold cmpS; rw [Int.sub_self]; rfl
theorem cmp_le {an ad bn bd : Int} : cmpS an ad bn bd ≤ 0 ↔ fixN an ad * fixD bn bd ≤ fixN bn bd * fixD an ad := by
  unfold cmpS; rw [sgn_le]; omega
theorem cmp_trans {an ad bn bd cn cd : Int} (h : cmpS an ad bn bd ≤ 0) (k : cmpS bn bd cn cd ≤ 0) : cmpS an ad cn cd ≤ 0 := by
  rw [cmp_le] at *
  have p1 := fixD_pos an ad
  have p2 := fixD_pos bn bd
  have p3 := fixD_pos cn cd
  generalize fixN an ad = A at *
  generalize fixD an ad = B at *
  generalize fixN bn bd = C at *
  generalize fixD bn bd = D at *
  generalize fixN cn cd = E at *
  generalize fixD cn cd = F at *
  have h1 := Int.mul_le_mul_of_nonneg_right h (show 0 ≤ F by omega)
  have h2 := Int.mul_le_mul_of_nonneg_right k (show 0 ≤ B by omega)
  have e1 : C * B * F = C * F * B := by grind
  have h3 : (A * F) * D ≤ (E * B) * D := by
    have e2 : A * F * D = A * D * F := by grind
    have e3 : E * B * D = E * D * B := by grind
    omega
  exact Int.le_of_mul_le_mul_right h3 (by omega)
theorem cmp_valid {an ad bn bd : Int} (ha : validB an ad = true) (hb : validB bn bd = true) : cmpS an ad bn bd = sgn (an * bd - bn * ad) := by
  unfold cmpS
  rw [(fix_yes ha).1, (fix_yes ha).2, (fix_yes hb).1, (fix_yes hb).2]
theorem cmp_zero {an ad bn bd : Int} (ha : validB an ad = true) (hb : validB bn bd = true) : cmpS an ad bn bd = 0 ↔ an = bn ∧ ad = bd := by
  rw [cmp_valid ha hb, sgn_eq]
  constructor
  · intro h
    exact low_unique (low_of_valid ha) (low_of_valid hb) (by omega)
  · rintro ⟨rfl, rfl⟩; omega
theorem pos4 {a b c d : Int} (ha : 1 ≤ a) (hb : 1 ≤ b) (hc : 1 ≤ c) (hd : 1 ≤ d) : 0 < a * b * (c * d) := Int.mul_pos (Int.mul_pos (by omega) (by omega)) (Int.mul_pos (by omega) (by omega))
theorem cmp_add {an ad bn bd cn cd x y u v : Int} (h : addS an ad cn cd = (x, y, true)) (k : addS bn bd cn cd = (u, v, true)) : cmpS x y u v = cmpS an ad bn bd := by
  obtain ⟨ha, hc, hx, e⟩ := addS_ok h
  obtain ⟨hb, -, hu, f⟩ := addS_ok k
  rw [cmp_valid hx hu, cmp_valid ha hb]
  refine sgn_scale (pos4 (valid_pos ha) (valid_pos hc) (valid_pos hb) (valid_pos hc)) (pos4 (valid_pos hx) (valid_pos hu) (valid_pos hc) (valid_pos hc)) ?_
  have e1 : (x * v - u * y) * (ad * cd * (bd * cd)) = (x * (ad * cd)) * (v * (bd * cd)) - (u * (bd * cd)) * (y * (ad * cd)) := by grind
  rw [e1, e, f]; grind
theorem cmp_mul {an ad bn bd cn cd x y u v : Int} (h : mulS an ad cn cd = (x, y, true)) (k : mulS bn bd cn cd = (u, v, true)) (h0 : 0 < cn) : cmpS x y u v = cmpS an ad bn bd := by
  obtain ⟨ha, hc, hx, e⟩ := mulS_ok h
  obtain ⟨hb, -, hu, f⟩ := mulS_ok k
  rw [cmp_valid hx hu, cmp_valid ha hb]
  refine sgn_scale (pos4 (valid_pos ha) (valid_pos hc) (valid_pos hb) (valid_pos hc)) (pos4 (valid_pos hx) (valid_pos hu) (show 1 ≤ cn by omega) (valid_pos hc)) ?_
  have e1 : (x * v - u * y) * (ad * cd * (bd * cd)) = (x * (ad * cd)) * (v * (bd * cd)) - (u * (bd * cd)) * (y * (ad * cd)) := by grind
  rw [e1, e, f]; grind
theorem sub_sgn {an ad bn bd x y : Int} (hb : validB bn bd = true) (h : subS an ad bn bd = (x, y, true)) : sgn x = cmpS an ad bn bd := by
  unfold subS at h
  obtain ⟨ha, -, hx, e⟩ := addS_ok h
  rw [cmp_valid ha hb]
  refine sgn_scale (Int.mul_pos (show 0 < ad from by have := valid_pos ha; omega) (show 0 < bd from by have := valid_pos hb; omega)) (show 0 < y from by have := valid_pos hx; omega) ?_
  rw [e]; grind

/-! the floor -/
theorem floor_bounds {n d : Int} (h : validB n d = true) : -1000000000000000 ≤ floorS n d ∧ floorS n d ≤ 1000000000000000 ∧ floorS n d * d ≤ n ∧ n < (floorS n d + 1) * d := by
  obtain ⟨h1, h2, ⟨h3, h4⟩, -⟩ := validB_iff.1 h
  unfold floorS
  rw [if_pos h]
  have e := Int.mul_ediv_add_emod n d
  have b1 := Int.emod_nonneg n (show d ≠ 0 by omega)
  have b2 := Int.emod_lt_of_pos n (show 0 < d by omega)
  refine ⟨?_, ?_, ?_, ?_⟩
  · refine (Int.le_ediv_iff_mul_le (by omega)).2 ?_
    have := Int.mul_le_mul_of_nonneg_left h1 (show (0 : Int) ≤ 1000000000000000 by omega)
    omega
  · refine Int.ediv_le_of_le_mul (by omega) ?_
    have := Int.mul_le_mul_of_nonneg_left h1 (show (0 : Int) ≤ 1000000000000000 by omega)
    omega
  · rw [Int.mul_comm]; omega
  · rw [Int.add_mul, Int.mul_comm (n / d) d]; omega
theorem valid_one {n : Int} (h : -1000000000000000 ≤ n ∧ n ≤ 1000000000000000) : validB n 1 = true := by
  refine validB_iff.2 ⟨by omega, by omega, h, ?_⟩
  unfold cgcd
  rw [show (1 : Int).natAbs = 1 from rfl, Nat.gcd_one_right]; rfl
theorem of_one {n : Int} (h : -1000000000000000 ≤ n ∧ n ≤ 1000000000000000) : ofS n 1 = (n, 1, true) := by
  have hg : cgcd n 1 = 1 := (validB_iff.1 (valid_one h)).2.2.2
  unfold ofS
  rw [inB_true.2 h, hg]
  simp [show inB 1 = true from by decide]
theorem of_one_no {n : Int} (h : inB n = false) : ofS n 1 = (0, 0, false) := ofS_no (.inl h)
theorem floor_below {n d : Int} (h : validB n d = true) : cmpS (floorS n d) 1 n d ≤ 0 := by
  obtain ⟨h1, h2, h3, h4⟩ := floor_bounds h
  rw [cmp_valid (valid_one ⟨h1, h2⟩) h, sgn_le]; omega
theorem floor_above {n d : Int} (h : validB n d = true) (k : floorS n d + 1 ≤ 1000000000000000) : cmpS n d (floorS n d + 1) 1 < 0 := by
  obtain ⟨h1, h2, h3, h4⟩ := floor_bounds h
  rw [cmp_valid h (valid_one ⟨by omega, k⟩), sgn_lt]; omega
theorem floor_invalid {n d : Int} (h : validB n d = false) : floorS n d = 0 := by unfold floorS; rw [h]; rfl
theorem text_invalid {n d : Int} (h : validB n d = false) : textS n d = [] := by unfold textS; rw [h]; rfl
theorem parse_text_back {l : List UInt8} {n d : Int} (h : parseS l = (n, d, true)) : textS n d = l := by
  rcases parseS_is l with ⟨h1, h2, h3⟩ | ⟨h1, h2⟩
  · rw [h] at h3; exact h3
  · rw [h] at h1; cases h1
end Go.Proofs.YtemmgehaddghfaaDoor
