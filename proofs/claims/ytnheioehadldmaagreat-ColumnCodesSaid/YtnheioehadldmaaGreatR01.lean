/- PARTS OF THE WALKS, joined: Val, VRep, NumA, NumB, NumC, FracA. -/
import Derived.Test.YtnheioehadldmaaGreatR00
import Derived.Test.YtnheioehadldmaaGreatProg
import Derived.WalkKit
import Derived.WalkSpells
import Derived.WalkLawsBesides
import Derived.Lib.Hide
import Derived.Deep.QuietTactic
import Derived.BigQuiet
import Derived.Deep.Cut
/- PLAIN: values, which of them are valid, and their total order. No program in sight. -/
namespace Go.Proofs.YtnheioehadldmaaGreat
inductive Val where
 | mk (kind n d : Int) (s : ByteArray) (l : List Val) : Val
instance : Inhabited Val := ⟨.mk 0 0 0 ByteArray.empty []⟩
def Val.kind : Val → Int | .mk k _ _ _ _ => k
def Val.n : Val → Int | .mk _ n _ _ _ => n
def Val.d : Val → Int | .mk _ _ d _ _ => d
def Val.s : Val → ByteArray | .mk _ _ _ s _ => s
def Val.l : Val → List Val | .mk _ _ _ _ l => l
theorem Val.ext' {a b : Val} (h1 : a.kind = b.kind) (h2 : a.n = b.n) (h3 : a.d = b.d) (h4 : a.s = b.s) (h5 : a.l = b.l) : a = b := by
 cases a; cases b
 simp only [Val.kind, Val.n, Val.d, Val.s, Val.l] at *
 rw [h1, h2, h3, h4, h5]
def strOk (s : ByteArray) : Bool := decide (s.size ≤ 100) && s.data.toList.all (fun c => decide (32 ≤ c.toNat) && decide (c.toNat ≤ 126))
/-- a valid value that is no list and no path -/
def leafB (v : Val) : Bool :=
 if v.kind = 0 then decide (v.n = 0) && decide (v.d = 0) && decide (v.s.size = 0) && decide (v.l.length = 0)
 else if v.kind = 1 then (decide (v.n = 0) || decide (v.n = 1)) && decide (v.d = 0) && decide (v.s.size = 0) && decide (v.l.length = 0)
 else if v.kind = 2 then inB v.n && decide (v.d = 0) && decide (v.s.size = 0) && decide (v.l.length = 0)
 else if v.kind = 3 then decide (2 ≤ v.d) && validB v.n v.d && decide (v.s.size = 0) && decide (v.l.length = 0)
 else if v.kind = 4 then decide (v.n = 0) && decide (v.d = 0) && strOk v.s && decide (v.l.length = 0)
 else if v.kind = 5 ∨ v.kind = 6 then decide (1 ≤ v.n) && decide (v.n ≤ 1000000) && decide (v.d = 0) && decide (v.s.size = 0) && decide (v.l.length = 0)
 else false
def stepK (i : Nat) : Int := if i % 2 = 0 then 5 else 6
def pathB (l : List Val) : Bool := decide (l.length % 2 = 1) && decide (l.length ≤ 25) && (List.range l.length).all (fun i => decide (l[i]!.kind = stepK i) && leafB l[i]!)
def bareL (v : Val) : Bool := decide (v.n = 0) && decide (v.d = 0) && decide (v.s.size = 0)
/-- a valid value inside which so many lists may still be nested -/
def validN : Nat → Val → Bool
 | 0, v => if v.kind = 7 then bareL v && pathB v.l else if v.kind = 8 then false else leafB v
 | k + 1, v => if v.kind = 7 then bareL v && pathB v.l else if v.kind = 8 then bareL v && decide (v.l.length ≤ 64) && v.l.all (validN k) else leafB v
theorem validN_leaf {n : Nat} {v : Val} (h7 : v.kind ≠ 7) (h8 : v.kind ≠ 8) : validN n v = leafB v := by
 cases n <;> unfold validN <;> rw [if_neg h7, if_neg h8]
theorem validN_path {n : Nat} {v : Val} (h7 : v.kind = 7) : validN n v = (bareL v && pathB v.l) := by
 cases n <;> unfold validN <;> rw [if_pos h7]
theorem validN_list0 {v : Val} (h8 : v.kind = 8) : validN 0 v = false := by unfold validN; rw [if_neg (by omega), if_pos h8]
theorem validN_list {n : Nat} {v : Val} (h8 : v.kind = 8) : validN (n + 1) v = (bareL v && decide (v.l.length ≤ 64) && v.l.all (validN n)) := by
 rw [validN, if_neg (by omega), if_pos h8]
theorem leafB_kind {v : Val} (h : leafB v = true) : v.kind ≠ 7 ∧ v.kind ≠ 8 ∧ 0 ≤ v.kind ∧ v.kind ≤ 6 := by
 unfold leafB at h
 repeat' split at h
 all_goals first | (cases h; done) | omega
theorem getV {l : List Val} {i : Nat} (h : i < l.length) : l[i]! = l[i] := by rw [getElem!_pos l i h]
def validV (v : Val) : Bool := validN 8 v
/-- what is known of a valid value by its kind -/
structure VFacts (v : Val) : Prop where
 num : v.kind = 2 ∨ v.kind = 3 → v.s.size = 0 ∧ v.l.length = 0 ∧ validB v.n (if v.kind = 3 then v.d else 1) = true ∧ (v.kind = 2 → v.d = 0) ∧ (v.kind = 3 → 2 ≤ v.d)
 oth : v.kind ≠ 2 → v.kind ≠ 3 → v.d = 0 ∧ (v.kind = 4 → v.n = 0) ∧ (v.kind ≠ 4 → v.s.size = 0)
 rng : 0 ≤ v.kind ∧ v.kind ≤ 8
theorem validB_one {n : Int} (h : inB n = true) : validB n 1 = true := by
 refine validB_iff.2 ⟨by omega, by omega, inB_true.1 h, ?_⟩
 unfold cgcd; rw [show (1 : Int).natAbs = 1 from rfl, Nat.gcd_one_right]; rfl
theorem validV_facts {v : Val} (h : validV v = true) : VFacts v := by
 unfold validV at h
 by_cases h7 : v.kind = 7
 ·rw [validN_path h7] at h
  simp only [bareL, Bool.and_eq_true, decide_eq_true_iff] at h
  exact ⟨fun e => by omega, fun _ _ => ⟨h.1.1.2, fun e => by omega, fun _ => h.1.2⟩, by omega⟩
 ·by_cases h8 : v.kind = 8
  ·rw [validN_list h8] at h
   simp only [bareL, Bool.and_eq_true, decide_eq_true_iff] at h
   exact ⟨fun e => by omega, fun _ _ => ⟨h.1.1.1.2, fun e => by omega, fun _ => h.1.1.2⟩, by omega⟩
  ·rw [validN_leaf h7 h8] at h
   have hr := leafB_kind h
   unfold leafB at h
   split at h
   ·simp only [Bool.and_eq_true, decide_eq_true_iff] at h
    exact ⟨fun e => by omega, fun _ _ => ⟨h.1.1.2, fun e => by omega, fun _ => h.1.2⟩, by omega⟩
   ·split at h
    ·simp only [Bool.and_eq_true, decide_eq_true_iff] at h
     exact ⟨fun e => by omega, fun _ _ => ⟨h.1.1.2, fun e => by omega, fun _ => h.1.2⟩, by omega⟩
    ·split at h
     ·rename_i h2
      simp only [Bool.and_eq_true, decide_eq_true_iff] at h
      refine ⟨fun e => ⟨h.1.2, h.2, ?_, fun _ => h.1.1.2, fun e => by omega⟩, fun e => absurd h2 e, by omega⟩
      rw [if_neg (by omega)]; exact validB_one h.1.1.1
     ·split at h
      ·rename_i h3
       simp only [Bool.and_eq_true, decide_eq_true_iff] at h
       refine ⟨fun e => ⟨h.1.2, h.2, ?_, fun e => by omega, fun _ => h.1.1.1⟩, fun _ e => absurd h3 e, by omega⟩
       rw [if_pos h3]; exact h.1.1.2
      ·split at h
       ·simp only [Bool.and_eq_true, decide_eq_true_iff] at h
        exact ⟨fun e => by omega, fun _ _ => ⟨h.1.1.2, fun _ => h.1.1.1, fun e => by omega⟩, by omega⟩
       ·split at h
        ·simp only [Bool.and_eq_true, decide_eq_true_iff] at h
         exact ⟨fun e => by omega, fun _ _ => ⟨h.1.1.2, fun e => by omega, fun _ => h.1.2⟩, by omega⟩
        ·cases h
/-- the class of a kind -/
def cls (k : Int) : Int := if k = 3 then 2 else if k = 7 then 9 else k
def dnV (k d : Int) : Int := if k = 3 then d else 1
/-- fractions by their cross products -/
def cmpQ (n d n' d' : Int) : Int := Lib.compareInt (n * d') (n' * d)
mutual
def ordV : Val → Val → Int
 | .mk k n d s l, .mk k' n' d' s' l' =>
  if validV (.mk k n d s l) = true then
   if validV (.mk k' n' d' s' l') = true then
    thenC (Lib.compareInt (cls k) (cls k')) (if cls k = 2 then cmpQ n (dnV k d) n' (dnV k' d') else thenC (cmpT s s') (thenC (Lib.compareInt n n') (ordL l l')))
   else -1
  else if validV (.mk k' n' d' s' l') = true then 1
  else thenC (Lib.compareInt k k') (thenC (Lib.compareInt n n') (thenC (Lib.compareInt d d') (thenC (cmpT s s') (ordL l l'))))
def ordL : List Val → List Val → Int
 | [], [] => 0
 | [], _ :: _ => -1
 | _ :: _, [] => 1
 | x :: xs, y :: ys => thenC (ordV x y) (ordL xs ys)
end
/-- two valid values -/
def ordU (a b : Val) : Int := thenC (Lib.compareInt (cls a.kind) (cls b.kind)) (if cls a.kind = 2 then cmpQ a.n (dnV a.kind a.d) b.n (dnV b.kind b.d) else thenC (cmpT a.s b.s) (thenC (Lib.compareInt a.n b.n) (ordL a.l b.l)))
/-- two values that are not valid -/
def ordI (a b : Val) : Int := thenC (Lib.compareInt a.kind b.kind) (thenC (Lib.compareInt a.n b.n) (thenC (Lib.compareInt a.d b.d) (thenC (cmpT a.s b.s) (ordL a.l b.l))))
theorem ordV_eq (a b : Val) : ordV a b = if validV a = true then (if validV b = true then ordU a b else -1) else if validV b = true then 1 else ordI a b := by
 cases a; cases b; rw [ordV]; rfl
theorem cmpQ_rng (n d n' d' : Int) : cmpQ n d n' d' = -1 ∨ cmpQ n d n' d' = 0 ∨ cmpQ n d n' d' = 1 := TotC.int.rng _ _
theorem cmpQ_anti (n d n' d' : Int) : cmpQ n' d' n d = - cmpQ n d n' d' := TotC.int.anti _ _
theorem cmpI_le {x y : Int} : Lib.compareInt x y ≤ 0 ↔ x ≤ y := by
 unfold Lib.compareInt
 repeat' split
 all_goals omega
theorem cmpQ_trans {n d n' d' n2 d2 : Int} (h : 1 ≤ d) (h' : 1 ≤ d') (h2 : 1 ≤ d2) (a : cmpQ n d n' d' ≤ 0) (b : cmpQ n' d' n2 d2 ≤ 0) : cmpQ n d n2 d2 ≤ 0 := by
 unfold cmpQ at *
 rw [cmpI_le] at *
 have e1 : n * d' * d2 ≤ n' * d * d2 := Int.mul_le_mul_of_nonneg_right a (by omega)
 have e2 : n' * d2 * d ≤ n2 * d' * d := Int.mul_le_mul_of_nonneg_right b (by omega)
 have e3 : n * d2 * d' ≤ n2 * d * d' := by
  have f1 : n * d' * d2 = n * d2 * d' := by rw [Int.mul_assoc, Int.mul_comm d', ← Int.mul_assoc]
  have f2 : n' * d * d2 = n' * d2 * d := by rw [Int.mul_assoc, Int.mul_comm d, ← Int.mul_assoc]
  have f3 : n2 * d' * d = n2 * d * d' := by rw [Int.mul_assoc, Int.mul_comm d', ← Int.mul_assoc]
  omega
 exact Int.le_of_mul_le_mul_right e3 (by omega)
theorem cmpQ_zero {n d n' d' : Int} (h : validB n d = true) (h' : validB n' d' = true) : cmpQ n d n' d' = 0 ↔ n = n' ∧ d = d' := by
 unfold cmpQ
 rw [TotC.int.zero]
 exact ⟨fun e => low_unique (low_of_valid h) (low_of_valid h') e, fun e => by rw [e.1, e.2]⟩
theorem cls_inj {k k' : Int} (h : 0 ≤ k ∧ k ≤ 8) (h' : 0 ≤ k' ∧ k' ≤ 8) (e : cls k = cls k') (h2 : cls k ≠ 2) : k = k' := by
 unfold cls at *
 repeat' split at *
 all_goals omega
theorem cls_two {k : Int} : cls k = 2 ↔ k = 2 ∨ k = 3 := by
 unfold cls
 repeat' split
 all_goals omega
theorem size_nil {s : ByteArray} (h : s.size = 0) : s = ByteArray.empty := by
 have : s.data = #[] := Array.eq_empty_of_size_eq_zero h
 exact ByteArray.ext this
theorem dnV_num {v : Val} (h : VFacts v) (hk : cls v.kind = 2) : validB v.n (dnV v.kind v.d) = true := (h.num (cls_two.1 hk)).2.2.1
mutual
theorem ordV_rng : ∀ a b : Val, ordV a b = -1 ∨ ordV a b = 0 ∨ ordV a b = 1
 | .mk k n d s l, b => by
  rw [ordV_eq]
  have hl := ordL_rng l b.l
  repeat' split
  all_goals first | (simp; done) | skip
  ·unfold ordU
   refine thenC_rng (TotC.int.rng _ _) ?_
   split
   ·exact cmpQ_rng _ _ _ _
   ·exact thenC_rng (TotC.str.rng _ _) (thenC_rng (TotC.int.rng _ _) hl)
  ·unfold ordI
   exact thenC_rng (TotC.int.rng _ _) (thenC_rng (TotC.int.rng _ _) (thenC_rng (TotC.int.rng _ _) (thenC_rng (TotC.str.rng _ _) hl)))
theorem ordL_rng : ∀ a b : List Val, ordL a b = -1 ∨ ordL a b = 0 ∨ ordL a b = 1
 | [], [] => by rw [ordL]; simp
 | [], _ :: _ => by rw [ordL]; simp
 | _ :: _, [] => by rw [ordL]; simp
 | x :: xs, y :: ys => by rw [ordL]; exact thenC_rng (ordV_rng x y) (ordL_rng xs ys)
end
mutual
theorem ordV_zero : ∀ a b : Val, ordV a b = 0 ↔ a = b
 | .mk k n d s l, b => by
  rw [ordV_eq]
  have hl := ordL_zero l b.l
  generalize ha : Val.mk k n d s l = a
  have hak : a.kind = k := by rw [← ha]; rfl
  have han : a.n = n := by rw [← ha]; rfl
  have had : a.d = d := by rw [← ha]; rfl
  have has : a.s = s := by rw [← ha]; rfl
  have hal : a.l = l := by rw [← ha]; rfl
  rw [← hal] at hl
  by_cases h1 : validV a = true
  ·by_cases h2 : validV b = true
   ·rw [if_pos h1, if_pos h2]
    have f1 := validV_facts h1
    have f2 := validV_facts h2
    unfold ordU
    rw [thenC_eq0, TotC.int.zero]
    constructor
    ·rintro ⟨e, e2⟩
     by_cases hc : cls a.kind = 2
     ·rw [if_pos hc] at e2
      obtain ⟨q1, q2⟩ := (cmpQ_zero (dnV_num f1 hc) (dnV_num f2 (e ▸ hc))).1 e2
      have g1 := f1.num (cls_two.1 hc)
      have g2 := f2.num (cls_two.1 (e ▸ hc))
      have hk : a.kind = b.kind ∧ a.d = b.d := by
       unfold dnV at q2
       rcases cls_two.1 hc with k1 | k1 <;> rcases cls_two.1 (e ▸ hc : cls b.kind = 2) with k2 | k2 <;> rw [k1, k2] at q2 <;> simp at q2
       ·exact ⟨by omega, by rw [g1.2.2.2.1 k1, g2.2.2.2.1 k2]⟩
       ·have := g2.2.2.2.2 k2; omega
       ·have := g1.2.2.2.2 k1; omega
       ·exact ⟨by omega, q2⟩
      exact Val.ext' hk.1 q1 hk.2 (by rw [size_nil g1.1, size_nil g2.1]) (by rw [List.eq_nil_of_length_eq_zero g1.2.1, List.eq_nil_of_length_eq_zero g2.2.1])
     ·rw [if_neg hc] at e2
      have hk := cls_inj f1.rng f2.rng e hc
      rw [thenC_eq0, thenC_eq0, TotC.str.zero, TotC.int.zero, hl] at e2
      have k2 : a.kind ≠ 2 := fun h => hc (cls_two.2 (.inl h))
      have k3 : a.kind ≠ 3 := fun h => hc (cls_two.2 (.inr h))
      exact Val.ext' hk e2.2.1 (by rw [(f1.oth k2 k3).1, (f2.oth (hk ▸ k2) (hk ▸ k3)).1]) e2.1 e2.2.2
    ·rintro rfl
     refine ⟨rfl, ?_⟩
     split
     ·rename_i hc; exact (cmpQ_zero (dnV_num f1 hc) (dnV_num f1 hc)).2 ⟨rfl, rfl⟩
     ·rw [thenC_eq0, thenC_eq0]; exact ⟨TotC.str.refl _, TotC.int.refl _, hl.2 rfl⟩
   ·rw [if_pos h1, if_neg h2]
    exact ⟨fun h => by omega, fun h => absurd (h ▸ h1) h2⟩
  ·by_cases h2 : validV b = true
   ·rw [if_neg h1, if_pos h2]
    exact ⟨fun h => by omega, fun h => absurd (h ▸ h2) h1⟩
   ·rw [if_neg h1, if_neg h2]
    unfold ordI
    rw [thenC_eq0, thenC_eq0, thenC_eq0, thenC_eq0, TotC.int.zero, TotC.int.zero, TotC.int.zero, TotC.str.zero, hl]
    exact ⟨fun h => Val.ext' h.1 h.2.1 h.2.2.1 h.2.2.2.1 h.2.2.2.2, fun h => by subst h; exact ⟨rfl, rfl, rfl, rfl, rfl⟩⟩
theorem ordL_zero : ∀ a b : List Val, ordL a b = 0 ↔ a = b
 | [], [] => by rw [ordL]; simp
 | [], _ :: _ => by rw [ordL]; simp
 | _ :: _, [] => by rw [ordL]; simp
 | x :: xs, y :: ys => by rw [ordL, thenC_eq0, ordV_zero x y, ordL_zero xs ys]; simp
end
mutual
theorem ordV_anti : ∀ a b : Val, ordV b a = - ordV a b
 | .mk k n d s l, b => by
  rw [ordV_eq, ordV_eq]
  have hl := ordL_anti l b.l
  generalize ha : Val.mk k n d s l = a
  have hal : a.l = l := by rw [← ha]; rfl
  rw [← hal] at hl
  by_cases h1 : validV a = true
  ·by_cases h2 : validV b = true
   ·simp only [if_pos h1, if_pos h2]
    unfold ordU
    rw [TotC.int.anti (cls a.kind)]
    by_cases hc : cls a.kind = cls b.kind
    ·rw [hc]
     by_cases h3 : cls b.kind = 2
     ·rw [if_pos h3, if_pos h3, cmpQ_anti a.n, thenC_neg]
     ·rw [if_neg h3, if_neg h3, TotC.str.anti a.s, TotC.int.anti a.n, hl, thenC_neg, thenC_neg, thenC_neg]
    ·have : Lib.compareInt (cls a.kind) (cls b.kind) ≠ 0 := fun e => hc ((TotC.int.zero _ _).1 e)
     rw [thenC_ne (by omega), thenC_ne this]
   ·simp only [if_pos h1, if_neg h2]; rfl
  ·by_cases h2 : validV b = true
   ·simp only [if_neg h1, if_pos h2]
   ·simp only [if_neg h1, if_neg h2]
    unfold ordI
    rw [TotC.int.anti a.kind, TotC.int.anti a.n, TotC.int.anti a.d, TotC.str.anti a.s, hl, thenC_neg, thenC_neg, thenC_neg, thenC_neg]
theorem ordL_anti : ∀ a b : List Val, ordL b a = - ordL a b
 | [], [] => by rw [ordL]; rfl
 | [], _ :: _ => by rw [ordL, ordL]; rfl
 | _ :: _, [] => by rw [ordL, ordL]
 | x :: xs, y :: ys => by rw [ordL, ordL, ordV_anti x y, ordL_anti xs ys, thenC_neg]
end
mutual
theorem ordV_trans : ∀ a b c : Val, ordV a b ≤ 0 → ordV b c ≤ 0 → ordV a c ≤ 0
 | .mk k n d s l, b, c => by
  rw [ordV_eq, ordV_eq, ordV_eq]
  have hl := ordL_trans l b.l c.l
  generalize ha : Val.mk k n d s l = a
  have hal : a.l = l := by rw [← ha]; rfl
  rw [← hal] at hl
  by_cases h1 : validV a = true
  ·by_cases h2 : validV b = true
   ·by_cases h3 : validV c = true
    ·simp only [if_pos h1, if_pos h2, if_pos h3]
     have f1 := validV_facts h1
     have f2 := validV_facts h2
     have f3 := validV_facts h3
     unfold ordU
     by_cases hab : cls a.kind = cls b.kind
     ·by_cases hbc : cls b.kind = cls c.kind
      ·rw [hab, hbc, TotC.int.refl, thenC_zero, thenC_zero, thenC_zero]
       by_cases hc : cls c.kind = 2
       ·rw [if_pos hc, if_pos hc, if_pos hc]
        have g1 := (validB_iff.1 (dnV_num f1 (by omega))).1
        have g2 := (validB_iff.1 (dnV_num f2 (by omega))).1
        have g3 := (validB_iff.1 (dnV_num f3 hc)).1
        exact cmpQ_trans g1 g2 g3
       ·rw [if_neg hc, if_neg hc, if_neg hc]
        exact thenC_trans TotC.str.zero TotC.str.anti (TotC.str.trans _ _ _) (thenC_trans TotC.int.zero TotC.int.anti (TotC.int.trans _ _ _) hl)
      ·have e : Lib.compareInt (cls b.kind) (cls c.kind) ≠ 0 := fun e => hbc ((TotC.int.zero _ _).1 e)
       rw [hab, TotC.int.refl, thenC_ne e, thenC_ne e]; exact fun _ h => h
     ·have e1 : Lib.compareInt (cls a.kind) (cls b.kind) ≠ 0 := fun e => hab ((TotC.int.zero _ _).1 e)
      rw [thenC_ne e1]
      by_cases hbc : cls b.kind = cls c.kind
      ·rw [← hbc, thenC_ne e1]; exact fun h _ => h
      ·have e2 : Lib.compareInt (cls b.kind) (cls c.kind) ≠ 0 := fun e => hbc ((TotC.int.zero _ _).1 e)
       rw [thenC_ne e2]
       intro p q
       rw [cmpI_le] at p q
       have e3 : Lib.compareInt (cls a.kind) (cls c.kind) ≠ 0 := fun e => by
        have := (TotC.int.zero _ _).1 e
        omega
       rw [thenC_ne e3, cmpI_le]; omega
    ·simp only [if_pos h1, if_pos h2, if_neg h3]; exact fun _ _ => by omega
   ·by_cases h3 : validV c = true
    ·simp only [if_pos h1, if_neg h2, if_pos h3]; exact fun _ h => by omega
    ·simp only [if_pos h1, if_neg h2, if_neg h3]; exact fun _ _ => by omega
  ·by_cases h2 : validV b = true
   ·simp only [if_neg h1, if_pos h2]; exact fun h => by omega
   ·by_cases h3 : validV c = true
    ·simp only [if_neg h1, if_neg h2, if_pos h3]; exact fun _ h => by omega
    ·simp only [if_neg h1, if_neg h2, if_neg h3]
     unfold ordI
     exact thenC_trans TotC.int.zero TotC.int.anti (TotC.int.trans _ _ _) (thenC_trans TotC.int.zero TotC.int.anti (TotC.int.trans _ _ _) (thenC_trans TotC.int.zero TotC.int.anti (TotC.int.trans _ _ _) (thenC_trans TotC.str.zero TotC.str.anti (TotC.str.trans _ _ _) hl)))
theorem ordL_trans : ∀ a b c : List Val, ordL a b ≤ 0 → ordL b c ≤ 0 → ordL a c ≤ 0
 | [], [], _ => fun _ h => h
 | [], _ :: _, [] => fun _ h => by rw [ordL] at h; omega
 | [], _ :: _, _ :: _ => fun _ _ => by rw [ordL]; omega
 | _ :: _, [], _ => fun h => by rw [ordL] at h; omega
 | _ :: _, _ :: _, [] => fun _ h => by rw [ordL] at h; omega
 | x :: xs, y :: ys, z :: zs => by
  rw [ordL, ordL, ordL]
  exact thenC_trans ordV_zero ordV_anti (ordV_trans x y z) (ordL_trans xs ys zs)
end
theorem TotC.val : TotC ordV := ⟨ordV_rng, ordV_zero, ordV_anti, ordV_trans⟩
theorem TotC.row : TotC ordL := ⟨ordL_rng, ordL_zero, ordL_anti, ordL_trans⟩
end Go.Proofs.YtnheioehadldmaaGreat

/- SLICES OF STRUCTURED DATA IN MEMORY; values in memory. -/
namespace Go.Proofs.YtnheioehadldmaaGreat
open Go.RowKit
/-- a slice at A reads as the list l; R b o x: x lies at offset o of block b -/
def SliceR {α : Type} (R : Nat → Nat → α → Prop) (size : Nat) (A : Option Addr) (l : List α) : Prop :=
 l.length ≤ 140737488355328 ∧ (0 < l.length → ∃ b o, A = some ⟨b, o, none⟩ ∧ ∀ k (h : k < l.length), R b (o + k * size) l[k])
theorem SliceR.len {α : Type} {R : Nat → Nat → α → Prop} {size : Nat} {A : Option Addr} {l : List α} (h : SliceR R size A l) : l.length ≤ 140737488355328 := h.1
theorem SliceR.mono {α : Type} {R R' : Nat → Nat → α → Prop} {size : Nat} {A : Option Addr} {l : List α} (h : SliceR R size A l) (hR : ∀ b o x, x ∈ l → R b o x → R' b o x) : SliceR R' size A l :=
 ⟨h.1, fun hp => let ⟨b, o, hA, hc⟩ := h.2 hp; ⟨b, o, hA, fun k hk => hR _ _ _ (List.getElem_mem hk) (hc k hk)⟩⟩
theorem SliceR.nil {α : Type} (R : Nat → Nat → α → Prop) (size : Nat) (A : Option Addr) : SliceR R size A ([] : List α) := ⟨by simp, fun h => absurd h (by simp)⟩
theorem SliceR.take {α : Type} {R : Nat → Nat → α → Prop} {size : Nat} {A : Option Addr} {l : List α} (h : SliceR R size A l) (n : Nat) : SliceR R size A (l.take n) :=
 ⟨by rw [List.length_take]; have := h.1; omega, fun hp => by
  rw [List.length_take] at hp
  obtain ⟨b, o, hA, hc⟩ := h.2 (by omega)
  exact ⟨b, o, hA, fun k hk => by rw [List.length_take] at hk; rw [List.getElem_take]; exact hc k (by omega)⟩⟩
theorem SliceR.drop {α : Type} {R : Nat → Nat → α → Prop} {size b o : Nat} {l : List α} (h : SliceR R size (some ⟨b, o, none⟩) l) (n : Nat) : SliceR R size (some ⟨b, o + n * size, none⟩) (l.drop n) :=
 ⟨by rw [List.length_drop]; have := h.1; omega, fun hp => by
  rw [List.length_drop] at hp
  obtain ⟨b', o', hA, hc⟩ := h.2 (by omega)
  injection hA with hA
  injection hA with h1 h2
  subst h1 h2
  refine ⟨_, _, rfl, fun k hk => ?_⟩
  rw [List.length_drop] at hk
  rw [List.getElem_drop, Nat.add_assoc, ← Nat.add_mul]
  exact hc (n + k) (by omega)⟩
mutual
/-- five cells that are a value; ok: where they may lie -/
def VCells (w : World) (ok : Nat → Prop) : Nat → Nat → Val → Prop
 | b, o, .mk k n d s l => ok b ∧ w.cell? ⟨b, o, none⟩ = some (.int .i64 k) ∧ w.cell? ⟨b, o + 1, none⟩ = some (.int .i64 n) ∧ w.cell? ⟨b, o + 2, none⟩ = some (.int .i64 d) ∧ w.cell? ⟨b, o + 3, none⟩ = some (.string s) ∧
  ∃ A c, w.cell? ⟨b, o + 4, none⟩ = some (.slice A l.length c) ∧ l.length ≤ c ∧ l.length ≤ 140737488355328 ∧ (0 < l.length → ∃ b' o', A = some ⟨b', o', none⟩ ∧ LCells w ok b' o' l)
def LCells (w : World) (ok : Nat → Prop) : Nat → Nat → List Val → Prop
 | _, _, [] => True
 | b, o, v :: vs => VCells w ok b o v ∧ LCells w ok b (o + 5) vs
end
theorem LCells.iff {w : World} {ok : Nat → Prop} : ∀ {l : List Val} {b o : Nat}, LCells w ok b o l ↔ ∀ k (h : k < l.length), VCells w ok b (o + k * 5) l[k]
 | [], b, o => by rw [LCells]; simp
 | v :: vs, b, o => by
  rw [LCells, LCells.iff (l := vs)]
  constructor
  ·rintro ⟨h1, h2⟩ k hk
   cases k with
   | zero => rw [Nat.zero_mul, Nat.add_zero]; exact h1
   | succ k =>
    have := h2 k (by simpa using hk)
    rw [show o + 5 + k * 5 = o + (k + 1) * 5 by omega] at this
    exact this
  ·intro h
   refine ⟨by have h0 := h 0 (by simp); rw [Nat.zero_mul, Nat.add_zero] at h0; exact h0, fun k hk => ?_⟩
   have := h (k + 1) (by simpa using hk)
   rw [show o + (k + 1) * 5 = o + 5 + k * 5 by omega] at this
   exact this
/-- a slice that reads as a list of values -/
def Vals (w : World) (ok : Nat → Prop) (A : Option Addr) (l : List Val) : Prop := SliceR (VCells w ok) 5 A l
/-- the five cells of a value whose list is the slice (A, c) -/
def V5 (w : World) (b o : Nat) (v : Val) (A : Option Addr) (c : Nat) : Prop :=
 w.cell? ⟨b, o, none⟩ = some (.int .i64 v.kind) ∧ w.cell? ⟨b, o + 1, none⟩ = some (.int .i64 v.n) ∧ w.cell? ⟨b, o + 2, none⟩ = some (.int .i64 v.d) ∧ w.cell? ⟨b, o + 3, none⟩ = some (.string v.s) ∧ w.cell? ⟨b, o + 4, none⟩ = some (.slice A v.l.length c)
theorem V5.ext {a w : World} {b o : Nat} {v : Val} {A : Option Addr} {c : Nat} (h : V5 a b o v A c) (e : Ext a w) : V5 w b o v A c := ⟨e.cell h.1, e.cell h.2.1, e.cell h.2.2.1, e.cell h.2.2.2.1, e.cell h.2.2.2.2⟩
theorem VCells.iff {w : World} {ok : Nat → Prop} {b o : Nat} {v : Val} : VCells w ok b o v ↔ ok b ∧ ∃ A c, V5 w b o v A c ∧ v.l.length ≤ c ∧ Vals w ok A v.l := by
 cases v with
 | mk k n d s l =>
  rw [VCells]
  constructor
  ·rintro ⟨h0, h1, h2, h3, h4, A, c, h5, h6, h7, h8⟩
   refine ⟨h0, A, c, ⟨h1, h2, h3, h4, h5⟩, h6, h7, fun hp => ?_⟩
   obtain ⟨b', o', hA, hl⟩ := h8 hp
   exact ⟨b', o', hA, LCells.iff.1 hl⟩
  ·rintro ⟨h0, A, c, ⟨h1, h2, h3, h4, h5⟩, h6, h7, h8⟩
   refine ⟨h0, h1, h2, h3, h4, A, c, h5, h6, h7, fun hp => ?_⟩
   obtain ⟨b', o', hA, hl⟩ := h8 hp
   exact ⟨b', o', hA, LCells.iff.2 hl⟩
mutual
theorem VCells.keep {w w' : World} {ok ok' : Nat → Prop} (hk : ∀ b o x, ok b → w.cell? ⟨b, o, none⟩ = some x → w'.cell? ⟨b, o, none⟩ = some x) (ho : ∀ b, ok b → ok' b) : ∀ (v : Val) (b o : Nat), VCells w ok b o v → VCells w' ok' b o v
 | .mk k n d s l, b, o, h => by
  rw [VCells] at h ⊢
  obtain ⟨h0, h1, h2, h3, h4, A, c, h5, h6, h7, h8⟩ := h
  refine ⟨ho _ h0, hk _ _ _ h0 h1, hk _ _ _ h0 h2, hk _ _ _ h0 h3, hk _ _ _ h0 h4, A, c, hk _ _ _ h0 h5, h6, h7, fun hp => ?_⟩
  obtain ⟨b', o', hA, hl⟩ := h8 hp
  exact ⟨b', o', hA, LCells.keep hk ho l b' o' hl⟩
theorem LCells.keep {w w' : World} {ok ok' : Nat → Prop} (hk : ∀ b o x, ok b → w.cell? ⟨b, o, none⟩ = some x → w'.cell? ⟨b, o, none⟩ = some x) (ho : ∀ b, ok b → ok' b) : ∀ (l : List Val) (b o : Nat), LCells w ok b o l → LCells w' ok' b o l
 | [], _, _, _ => by rw [LCells]; trivial
 | v :: vs, b, o, h => by
  rw [LCells] at h ⊢
  exact ⟨VCells.keep hk ho v b o h.1, LCells.keep hk ho vs b (o + 5) h.2⟩
end
theorem VCells.ext {a w : World} {ok : Nat → Prop} {b o : Nat} {v : Val} (h : VCells a ok b o v) (e : Ext a w) : VCells w ok b o v := VCells.keep (fun _ _ _ _ hc => e.cell hc) (fun _ h => h) v b o h
theorem Vals.keep {w w' : World} {ok ok' : Nat → Prop} {A : Option Addr} {l : List Val} (h : Vals w ok A l) (hk : ∀ b o x, ok b → w.cell? ⟨b, o, none⟩ = some x → w'.cell? ⟨b, o, none⟩ = some x) (ho : ∀ b, ok b → ok' b) : Vals w' ok' A l :=
 SliceR.mono h (fun b o x _ hx => VCells.keep hk ho x b o hx)
theorem Vals.ext {a w : World} {ok : Nat → Prop} {A : Option Addr} {l : List Val} (h : Vals a ok A l) (e : Ext a w) : Vals w ok A l := h.keep (fun _ _ _ _ hc => e.cell hc) (fun _ h => h)
theorem Vals.to {w : World} {ok ok' : Nat → Prop} {A : Option Addr} {l : List Val} (h : Vals w ok A l) (ho : ∀ b, ok b → ok' b) : Vals w ok' A l := h.keep (fun _ _ _ _ hc => hc) ho
/-- the cells and the value of a value -/
def Val.cells (v : Val) (A : Option Addr) (c : Nat) : List Value := [.int .i64 v.kind, .int .i64 v.n, .int .i64 v.d, .string v.s, .slice A v.l.length c]
theorem Val.cells_one (v : Val) (A : Option Addr) (c : Nat) : ∀ u ∈ v.cells A c, u.oneCell' = true := by
 intro u hu
 simp only [Val.cells, List.mem_cons, List.not_mem_nil, or_false] at hu
 rcases hu with rfl | rfl | rfl | rfl | rfl <;> rfl
/-- a value in a box of the call's own -/
theorem box_val (w : World) (v : Val) (A : Option Addr) (c : Nat) (t : TypeId) : ∃ (g : Nat) (w1 : World), g = w.heap.size ∧ w1 = w.alloc (.cells #[.int .i64 v.kind, .int .i64 v.n, .int .i64 v.d, .string v.s, .slice A v.l.length c] t) ∧ V5 w1 g 0 v A c ∧ Ext w w1 ∧ w.heap.size ≤ g :=
 ⟨_, _, rfl, rfl, ⟨by go_simp, by go_simp, by go_simp, by go_simp, by go_simp⟩, (Ext.refl _).alloc _, Nat.le_refl _⟩
/-- strings and numbers in slices -/
def StrC (w : World) (ok : Nat → Prop) (b o : Nat) (s : ByteArray) : Prop := ok b ∧ w.cell? ⟨b, o, none⟩ = some (.string s)
def IntC (w : World) (ok : Nat → Prop) (b o : Nat) (n : Int) : Prop := ok b ∧ w.cell? ⟨b, o, none⟩ = some (.int .i64 n)
def Strs (w : World) (ok : Nat → Prop) (A : Option Addr) (l : List ByteArray) : Prop := SliceR (StrC w ok) 1 A l
def Nums (w : World) (ok : Nat → Prop) (A : Option Addr) (l : List Int) : Prop := SliceR (IntC w ok) 1 A l
theorem Strs.ext {a w : World} {ok : Nat → Prop} {A : Option Addr} {l : List ByteArray} (h : Strs a ok A l) (e : Ext a w) : Strs w ok A l := SliceR.mono h (fun _ _ _ _ hx => ⟨hx.1, e.cell hx.2⟩)
theorem Nums.ext {a w : World} {ok : Nat → Prop} {A : Option Addr} {l : List Int} (h : Nums a ok A l) (e : Ext a w) : Nums w ok A l := SliceR.mono h (fun _ _ _ _ hx => ⟨hx.1, e.cell hx.2⟩)
/-- a row in a cell -/
def RowC (w : World) (ok : Nat → Prop) (b o : Nat) (r : List Val) : Prop := ok b ∧ ∃ A c, w.cell? ⟨b, o, none⟩ = some (.slice A r.length c) ∧ r.length ≤ c ∧ Vals w ok A r
def Rows (w : World) (ok : Nat → Prop) (A : Option Addr) (l : List (List Val)) : Prop := SliceR (RowC w ok) 1 A l
theorem RowC.keep {w w' : World} {ok ok' : Nat → Prop} (hk : ∀ b o x, ok b → w.cell? ⟨b, o, none⟩ = some x → w'.cell? ⟨b, o, none⟩ = some x) (ho : ∀ b, ok b → ok' b) {b o : Nat} {r : List Val} (h : RowC w ok b o r) : RowC w' ok' b o r :=
 let ⟨h0, A, c, h1, h2, h3⟩ := h
 ⟨ho _ h0, A, c, hk _ _ _ h0 h1, h2, h3.keep hk ho⟩
theorem Rows.keep {w w' : World} {ok ok' : Nat → Prop} {A : Option Addr} {l : List (List Val)} (h : Rows w ok A l) (hk : ∀ b o x, ok b → w.cell? ⟨b, o, none⟩ = some x → w'.cell? ⟨b, o, none⟩ = some x) (ho : ∀ b, ok b → ok' b) : Rows w' ok' A l :=
 SliceR.mono h (fun _ _ _ _ hx => hx.keep hk ho)
theorem Rows.ext {a w : World} {ok : Nat → Prop} {A : Option Addr} {l : List (List Val)} (h : Rows a ok A l) (e : Ext a w) : Rows w ok A l := h.keep (fun _ _ _ _ hc => e.cell hc) (fun _ h => h)
theorem RowC.ext {a w : World} {ok : Nat → Prop} {b o : Nat} {r : List Val} (h : RowC a ok b o r) (e : Ext a w) : RowC w ok b o r := h.keep (fun _ _ _ _ hc => e.cell hc) (fun _ h => h)
/-- a row that the call owns, read element by element -/
theorem own_sliceR {α : Type} {w : World} {base e size : Nat} {v : Value} {n : Nat} {cs : List (List Value)} {l : List α} {R : Nat → Nat → α → Prop} (h : w.ownsRow base e size v n cs.flatten) (hn : n = l.length) (hl : cs.length = l.length) (hs : ∀ x ∈ cs, x.length = size) (hm : l.length ≤ 140737488355328)
  (hR : ∀ g, base ≤ g → v.ownBlock = some g → ∀ k (h : k < l.length) (h' : k < cs.length), (∀ j u, (cs[k])[j]? = some u → w.cell? ⟨g, k * size + j, none⟩ = some u) → R g (k * size) l[k]) : ∃ A c, v = .slice A l.length c ∧ l.length ≤ c ∧ SliceR R size A l := by
 subst hn
 rcases h.2 with ⟨hv, h0⟩ | ⟨g, cap, cur, hv, hb, hh, hc, _, _, htk⟩
 ·refine ⟨none, 0, by rw [hv, h0], by omega, hm, fun hp => absurd hp (by omega)⟩
 ·subst hv
  refine ⟨some ⟨g, 0, none⟩, cap, rfl, hc, hm, fun _ => ⟨g, 0, rfl, fun k hk => ?_⟩⟩
  have hk' : k < cs.length := by omega
  rw [Nat.zero_add]
  refine hR g hb rfl k hk hk' (fun j u hu => ?_)
  have hlen : (cs[k]).length = size := hs _ (List.getElem_mem hk')
  have hj : j < size := by rw [← hlen]; exact (List.getElem?_eq_some_iff.1 hu).1
  have hfl : ∀ (cs : List (List Value)), (∀ x ∈ cs, x.length = size) → ∀ k (hk : k < cs.length), cs.flatten[k * size + j]? = (cs[k])[j]? := by
   intro cs
   induction cs with
   | nil => intro _ k hk; exact absurd hk (by simp)
   | cons x cs ih =>
    intro hs k hk
    have hx : x.length = size := hs x (by simp)
    cases k with
    | zero => simp only [List.flatten_cons, List.getElem_cons_zero, Nat.zero_mul, Nat.zero_add]; rw [List.getElem?_append_left (by omega)]
    | succ k =>
     simp only [List.flatten_cons, List.getElem_cons_succ]
     rw [List.getElem?_append_right (by rw [hx, Nat.add_mul]; omega), hx, show (k + 1) * size + j - size = k * size + j by rw [Nat.add_mul]; omega]
     exact ih (fun y hy => hs y (List.mem_cons_of_mem _ hy)) k (by simpa using hk)
  have h1 := hfl cs hs k hk'
  rw [hu] at h1
  rw [cell_of_row w g _ cur e (0, 0) hh]
  rw [← htk, List.getElem?_take] at h1
  split at h1
  ·simpa using h1
  ·cases h1
end Go.Proofs.YtnheioehadldmaaGreat

/- THE WALKS over package num: In, ranged, Add, Sub, abs, Mul, Div, Mod. -/
namespace Go.Proofs.YtnheioehadldmaaGreat
open Go.RowKit
set_option maxHeartbeats 400000 in
theorem num_In (n : Int) (w : World) :
  Calls Tryz.prog 115 #[.int .i64 n] w fun e w' => e = .returned (.bool (inB n)) ∧ w = w' := by
 go_enter Tryz.func115, Tryz.ntmps115
 go_wp2
 all_goals go_ret
 all_goals (unfold inB; simp [*]; try omega)
/-- both in range -/
def bothB (a b : Int) : Bool := inB a && inB b
end Go.Proofs.YtnheioehadldmaaGreat

/- THE WALKS over package num: abs, Mul, Div, Mod, Gcd, and the law's same. -/
namespace Go.Proofs.YtnheioehadldmaaGreat
open Go.RowKit
theorem ret_int {k : IntKind} {a b : Int} (h : a = b) : Ending.returned (.int k a) = .returned (.int k b) := by rw [h]
set_option maxHeartbeats 400000 in
theorem num_abs (n : Int) (w : World) (h1 : -1000000000000000 ≤ n) (h2 : n ≤ 1000000000000000) :
  Calls Tryz.prog 131 #[.int .i64 n] w fun e w' => e = .returned (.int .i64 n.natAbs) ∧ w = w' := by
 by_cases h : n < 0
 all_goals
  go_enter Tryz.func131, Tryz.ntmps131
  go_wp2
  all_goals go_ret
  all_goals (refine ⟨ret_int ?_, rfl⟩; omega)
end Go.Proofs.YtnheioehadldmaaGreat

/- THE WALKS over package num: Gcd, Div, Mod; the law's same. -/
namespace Go.Proofs.YtnheioehadldmaaGreat
open Go.RowKit
/-- the greatest common divisor, 0 out of range -/
def gcdV (a b : Int) : Int := if bothB a b then (Nat.gcd a.natAbs b.natAbs : Int) else 0
theorem gcdV_yes {a b : Int} (ha : inB a = true) (hb : inB b = true) : gcdV a b = (Nat.gcd a.natAbs b.natAbs : Int) := by
 unfold gcdV bothB; rw [ha, hb]; rfl
theorem gcdV_no {a b : Int} (h : bothB a b = false) : gcdV a b = 0 := by unfold gcdV; rw [h]; rfl
theorem gcd_step (x y : Nat) : Nat.gcd y (x % y) = Nat.gcd x y := by
 rw [Nat.gcd_comm x y, Nat.gcd_rec y x, Nat.gcd_comm]
set_option maxHeartbeats 800000 in
theorem num_Gcd (a b : Int) (w : World) :
  Calls Tryz.prog 123 #[.int .i64 a, .int .i64 b] w fun e w' => e = .returned (.int .i64 (gcdV a b)) ∧ ∃ n, w' = w.drewN n := by
 rcases inB_cases a with ⟨ha, ha1, ha2⟩ | ⟨ha, ha1⟩
 ·rcases inB_cases b with ⟨hb, hb1, hb2⟩ | ⟨hb, hb1⟩
  ·have H := Lib.hid (gcdV_yes ha hb)
   go_enter Tryz.func123, Tryz.ntmps123
   go_wp2_with (first | (go_at_call 115; refine (num_In _ _).mono ?_; rintro e w' ⟨rfl, rfl⟩) | (go_at_call 131; refine (num_abs _ _ (by omega) (by omega)).mono ?_; rintro e w' ⟨rfl, rfl⟩))
   go_loopw [0, 1] (fun u v wr => ∃ x y : Nat, u = .int .i64 x ∧ v = .int .i64 y ∧ Hid (Nat.gcd x y = Nat.gcd a.natAbs b.natAbs) ∧ x ≤ 1000000000000000 ∧ y ≤ 1000000000000000 ∧ ∃ n, wr = w.drewN n) (fun _ v _ => (intOf v).toNat)
   case atStart => exact ⟨_, _, rfl, rfl, Lib.hid rfl, by omega, by omega, 0, rfl⟩
   case round =>
    obtain ⟨x, y, rfl, rfl, hg, hx, hy, n, rfl⟩ := hrel
    by_cases h0 : y = 0
    ·subst h0
     go_wp2
     go_ret
     exact ⟨ret_int (by rw [H.out, ← hg.out, Nat.gcd_zero_right]), n, rfl⟩
    ·have hy0 : (0 : Int) < (y : Int) := by omega
     have hne : ((y : Int) != 0) = true := by rw [bne_iff_ne]; omega
     have hne2 : ((y : Int) == 0) = false := by rw [beq_eq_false_iff_ne]; omega
     go_wp2
     go_quiet (fail)
     go_wp2
     have hm := Int.emod_lt_of_pos (x : Int) hy0
     have hm0 := Int.emod_nonneg (x : Int) (show (y : Int) ≠ 0 by omega)
     go_roundw
     case rel => exact ⟨y, x % y, rfl, by go_num, Lib.hid ((gcd_step x y).trans hg.out), by omega, by omega, n + nq, by simp⟩
     case measure => simp [intOf]; omega
  ·have H := Lib.hid (gcdV_no (a := a) (b := b) (by simp [bothB, hb]))
   go_enter Tryz.func123, Tryz.ntmps123
   go_wp2_with (first | (go_at_call 115; refine (num_In _ _).mono ?_; rintro e w' ⟨rfl, rfl⟩) | (go_at_call 131; refine (num_abs _ _ (by omega) (by omega)).mono ?_; rintro e w' ⟨rfl, rfl⟩))
   go_ret
   exact ⟨ret_int H.out.symm, 0, rfl⟩
 ·have H := Lib.hid (gcdV_no (a := a) (b := b) (by simp [bothB, ha]))
  go_enter Tryz.func123, Tryz.ntmps123
  go_wp2_with (first | (go_at_call 115; refine (num_In _ _).mono ?_; rintro e w' ⟨rfl, rfl⟩) | (go_at_call 131; refine (num_abs _ _ (by omega) (by omega)).mono ?_; rintro e w' ⟨rfl, rfl⟩))
  go_ret
  exact ⟨ret_int H.out.symm, 0, rfl⟩
end Go.Proofs.YtnheioehadldmaaGreat

/- THE WALKS over fractions: gcd, size, sign of the reference; Valid of both. -/
namespace Go.Proofs.YtnheioehadldmaaGreat
open Go.RowKit
theorem below_step {w w1 w2 : World} (h : Below w.heap.size w w1) (h2 : Below w1.heap.size w1 w2) : Below w.heap.size w w2 := h.trans (h2.mono h.size)
theorem below_drewN' {B : Nat} {a w : World} (h : Below B a w) (n : Nat) : Below B a (w.drewN n) := h.trans ⟨rfl, rfl, rfl, Nat.le_refl _, fun _ _ => rfl⟩
theorem ret_bool {p q : Bool} (h : p = q) : Ending.returned (.bool p) = .returned (.bool q) := by rw [h]
theorem validB_no1 {n d : Int} (h : d < 1) : validB n d = false := by
 unfold validB; rw [decide_eq_false (by omega)]; rfl
theorem validB_no2 {n d : Int} (h : 1000000000000000 < d) : validB n d = false := by
 unfold validB; rw [decide_eq_false (p := d ≤ 1000000000000000) (by omega), Bool.and_false]; rfl
theorem validB_no3 {n d : Int} (h : inB n = false) : validB n d = false := by
 unfold validB; rw [h, Bool.and_false]; rfl
theorem validB_gcd {n d : Int} (h1 : 1 ≤ d) (h2 : d ≤ 1000000000000000) (h : inB n = true) : (cgcd n d == 1) = validB n d := by
 unfold validB; rw [decide_eq_true h1, decide_eq_true h2, h]; rfl
set_option maxHeartbeats 800000 in
theorem frac_Valid (n d : Int) (w : World) :
  Calls Tryz.prog 116 #[.agg #[.int .i64 n, .int .i64 d]] w fun e w' => e = .returned (.bool (validB n d)) ∧ Below w.heap.size w w' := by
 have hb0 := (Below.refl w.heap.size w).alloc (Nat.le_refl _) (.cells #[.int .i64 n, .int .i64 d] 139)
 by_cases h1 : d < 1
 ·have H := Lib.hid (validB_no1 (n := n) h1)
  go_enter Tryz.func116, Tryz.ntmps116
  go_wp2
  go_ret
  exact ⟨ret_bool H.out.symm, hb0⟩
 ·by_cases h2 : 1000000000000000 < d
  ·have H := Lib.hid (validB_no2 (n := n) h2)
   go_enter Tryz.func116, Tryz.ntmps116
   go_wp2
   go_ret
   exact ⟨ret_bool H.out.symm, hb0⟩
  ·rcases inB_cases n with ⟨hi, hi1, hi2⟩ | ⟨hi, hi1⟩
   ·have H := Lib.hid (validB_gcd (n := n) (d := d) (by omega) (by omega) hi)
    have hg : gcdV n d = cgcd n d := gcdV_yes hi (inB_true.2 (by omega))
    go_enter Tryz.func116, Tryz.ntmps116
    go_wp2_with (go_at_call 115; refine (num_In _ _).mono ?_; rintro e w' ⟨rfl, rfl⟩)
    refine (num_Gcd _ _ _).mono ?_
    rintro e w' ⟨rfl, nn, rfl⟩
    have hb1 := below_drewN' hb0 nn
    go_wp2
    all_goals go_ret
    all_goals exact ⟨ret_bool (by rw [← H.out]), hb1⟩
   ·have H := Lib.hid (validB_no3 (d := d) hi)
    go_enter Tryz.func116, Tryz.ntmps116
    go_wp2_with (go_at_call 115; refine (num_In _ _).mono ?_; rintro e w' ⟨rfl, rfl⟩)
    go_ret
    exact ⟨ret_bool H.out.symm, hb0⟩
end Go.Proofs.YtnheioehadldmaaGreat
