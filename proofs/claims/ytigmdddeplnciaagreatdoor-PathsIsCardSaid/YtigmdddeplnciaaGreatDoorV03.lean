/- PARTS OF THE WALKS, joined: FracD, FracK, FracL, FracM, Vd, Ve. -/
import Derived.Test.YtigmdddeplnciaaGreatDoorV02
import Derived.Lib.BitFns
import Derived.Deep.CutBlock
import Derived.Deep.DeepCutAuto
import Derived.Deep.RegionHeld3
/- PLAIN facts for the long division's shifts. -/
namespace Go.Proofs.YtigmdddeplnciaaGreatDoor
open Go.RowKit
theorem and_low {x : Nat} (h : x < 18446744073709551616) : bits .and .u64 (x : Int) 4294967295 = ((x % 4294967296 : Nat) : Int) := by
  have := u64_and_nat x 4294967295 h (by omega)
  rw [show ((4294967295 : Nat) : Int) = 4294967295 from rfl] at this
  rw [this]
  congr 1
  exact Nat.and_two_pow_sub_one_eq_mod x 32
theorem halves {a b : Nat} (ha : a < 4294967296) (hb : b < 4294967296) : ((a * 4294967296 + b : Nat) : Int) / 4294967296 = (a : Int) ∧ bits .and .u64 ((a * 4294967296 + b : Nat) : Int) 4294967295 = (b : Int) := by
  refine ⟨by omega, ?_⟩
  rw [and_low (by omega)]; congr 1; omega
end Go.Proofs.YtigmdddeplnciaaGreatDoor

/- A wide integer as a signed one: plain. -/
namespace Go.Proofs.YtigmdddeplnciaaGreatDoor
open Go.RowKit
def wval (s : Bool) (m : Nat) : Int := if s then -(m : Int) else (m : Int)
theorem wval_product (a b : Int) : wval (decide (a < 0) != decide (b < 0)) (a.natAbs * b.natAbs) = a * b := by
  unfold wval
  have e : ((a.natAbs * b.natAbs : Nat) : Int) = (a.natAbs : Int) * (b.natAbs : Int) := by simp
  rw [e]
  by_cases ha : a < 0 <;> by_cases hb : b < 0
  · rw [decide_eq_true ha, decide_eq_true hb, show (a.natAbs : Int) = -a from by omega, show (b.natAbs : Int) = -b from by omega]; simp; grind
  · rw [decide_eq_true ha, decide_eq_false hb, show (a.natAbs : Int) = -a from by omega, show (b.natAbs : Int) = b from by omega]; simp; grind
  · rw [decide_eq_false ha, decide_eq_true hb, show (a.natAbs : Int) = a from by omega, show (b.natAbs : Int) = -b from by omega]; simp; grind
  · rw [decide_eq_false ha, decide_eq_false hb, show (a.natAbs : Int) = a from by omega, show (b.natAbs : Int) = b from by omega]; simp
theorem wval_plus (s1 : Bool) (m1 : Nat) (s2 : Bool) (m2 : Nat) : wval (plusW s1 m1 s2 m2).1 (plusW s1 m1 s2 m2).2 = wval s1 m1 + wval s2 m2 := by
  unfold wval plusW
  cases s1 <;> cases s2
  · simp
  · by_cases h : m1 < m2 <;> simp [h] <;> omega
  · by_cases h : m1 < m2 <;> simp [h] <;> omega
  · simp; omega
theorem sgnW_sgn {s : Bool} {m : Nat} : sgnW s m = sgn (wval s m) := by
  unfold sgnW wval sgn
  by_cases h : m = 0
  · subst h; cases s <;> simp
  · rw [if_neg h]; cases s
    · simp; omega
    · simp; omega
end Go.Proofs.YtigmdddeplnciaaGreatDoor

/- THE WALKS over package frac: Add. -/
namespace Go.Proofs.YtigmdddeplnciaaGreatDoor
open Go.RowKit
theorem below_drew' {B : Nat} {a w : World} (h : Below B a w) : Below B a w.drew := below_drewN' h 1
/-- a new box of three cells, still as it was made -/
def BoxAt (H : Nat) (a b c : Value) (V : World) : Prop := V.cell? ⟨H, 0, none⟩ = some a ∧ V.cell? ⟨H, 1, none⟩ = some b ∧ V.cell? ⟨H, 2, none⟩ = some c ∧ V.frozen? ⟨H, 0, none⟩ = false ∧ V.frozen? ⟨H, 1, none⟩ = false ∧ V.frozen? ⟨H, 2, none⟩ = false ∧ H < V.heap.size
/-- where the fraction 0 lies -/
def ZeroAt (w : World) : Prop := w.cell? ⟨0, 0, none⟩ = some (.int .i64 0) ∧ w.cell? ⟨0, 1, none⟩ = some (.int .i64 1) ∧ 0 < w.heap.size
theorem ZeroAt.below {w w' : World} (h : ZeroAt w) (hb : Below w.heap.size w w') : ZeroAt w' := by
  obtain ⟨h0, h1, hs⟩ := h
  obtain ⟨hc, hf⟩ := bcell hb
  have := hb.size
  exact ⟨(hc _ _ hs).trans h0, (hc _ _ hs).trans h1, by omega⟩
/-- what Add's frame holds behind its sum -/
def AddSt (w : World) (H : Nat) (ad bd : Int) (s : Bool) (h l : Int) (V : World) : Prop :=
  Below w.heap.size w V ∧ (w.heap.size + 1 + 1 < H ∧ H < V.heap.size) ∧ V.cell? ⟨w.heap.size, 1, none⟩ = some (.int .i64 ad) ∧ V.cell? ⟨w.heap.size + 1, 1, none⟩ = some (.int .i64 bd) ∧
  (V.cell? ⟨w.heap.size + 1 + 1, 0, none⟩ = some (.int .i64 0) ∧ V.frozen? ⟨w.heap.size + 1 + 1, 0, none⟩ = false) ∧ (V.cell? ⟨w.heap.size + 1 + 1, 1, none⟩ = some (.int .i64 0) ∧ V.frozen? ⟨w.heap.size + 1 + 1, 1, none⟩ = false) ∧
  (V.cell? ⟨H, 0, none⟩ = some (.bool s) ∧ V.cell? ⟨H, 1, none⟩ = some (.int .u64 h) ∧ V.cell? ⟨H, 2, none⟩ = some (.int .u64 l)) ∧
  (V.cell? ⟨0, 0, none⟩ = some (.int .i64 0) ∧ V.cell? ⟨0, 1, none⟩ = some (.int .i64 1) ∧ 0 < w.heap.size)
theorem AddSt.step {w : World} {H : Nat} {ad bd : Int} {s : Bool} {h l : Int} {V V' : World} (q : AddSt w H ad bd s h l V) (hb : Below V.heap.size V V') : AddSt w H ad bd s h l V' := by
  obtain ⟨q0, ⟨q1, q2⟩, q3, q4, ⟨q5, q6⟩, ⟨q7, q8⟩, ⟨q9, q10, q11⟩, q12, q13, q14⟩ := q
  obtain ⟨hc, hf⟩ := bcell hb
  have hs := hb.size
  exact ⟨below_step q0 hb, ⟨q1, by omega⟩, (hc _ _ (by omega)).trans q3, (hc _ _ (by omega)).trans q4, ⟨(hc _ _ (by omega)).trans q5, (hf _ _ (by omega)).trans q6⟩, ⟨(hc _ _ (by omega)).trans q7, (hf _ _ (by omega)).trans q8⟩, ⟨(hc _ _ (by omega)).trans q9, (hc _ _ (by omega)).trans q10, (hc _ _ (by omega)).trans q11⟩, (hc _ _ (by omega)).trans q12, (hc _ _ (by omega)).trans q13, q14⟩
theorem AddSt.start {w W wc : World} {H : Nat} {ad bd : Int} {s : Bool} {h l : Int} (hz : ZeroAt w) (hbB : Below w.heap.size w W) (hbX : Below (w.heap.size + 1 + 1 + 1) W wc)
    (d1 : W.cell? ⟨w.heap.size, 1, none⟩ = some (.int .i64 ad)) (d3 : W.cell? ⟨w.heap.size + 1, 1, none⟩ = some (.int .i64 bd))
    (d4 : W.cell? ⟨w.heap.size + 1 + 1, 0, none⟩ = some (.int .i64 0)) (g4 : W.frozen? ⟨w.heap.size + 1 + 1, 0, none⟩ = false)
    (d5 : W.cell? ⟨w.heap.size + 1 + 1, 1, none⟩ = some (.int .i64 0)) (g5 : W.frozen? ⟨w.heap.size + 1 + 1, 1, none⟩ = false)
    (hH : w.heap.size + 1 + 1 < H) (hbox : BoxAt H (.bool s) (.int .u64 h) (.int .u64 l) wc) : AddSt w H ad bd s h l wc := by
  have hc : ∀ b o, b < w.heap.size + 1 + 1 + 1 → wc.cell? ⟨b, o, none⟩ = W.cell? ⟨b, o, none⟩ := fun b o k => hbX.cell (p := ⟨b, o, none⟩) k
  have hf : ∀ b o, b < w.heap.size + 1 + 1 + 1 → wc.frozen? ⟨b, o, none⟩ = W.frozen? ⟨b, o, none⟩ := fun b o k => hbX.frozen (p := ⟨b, o, none⟩) k
  have hb : Below w.heap.size w wc := hbB.trans (hbX.mono (by omega))
  obtain ⟨x0, x1, x2, -, -, -, yh⟩ := hbox
  obtain ⟨z0, z1, z2⟩ := hz
  obtain ⟨hc0, -⟩ := bcell hb
  exact ⟨hb, ⟨hH, yh⟩, (hc _ _ (by omega)).trans d1, (hc _ _ (by omega)).trans d3, ⟨(hc _ _ (by omega)).trans d4, (hf _ _ (by omega)).trans g4⟩, ⟨(hc _ _ (by omega)).trans d5, (hf _ _ (by omega)).trans g5⟩, ⟨x0, x1, x2⟩, (hc0 _ _ z2).trans z0, (hc0 _ _ z2).trans z1, z2⟩
end Go.Proofs.YtigmdddeplnciaaGreatDoor

/- THE WALKS over package frac: Sub, Cmp, Floor. -/
namespace Go.Proofs.YtigmdddeplnciaaGreatDoor
open Go.RowKit
/-- the order -/
def fixN (n d : Int) : Int := if validB n d then n else 0
def fixD (n d : Int) : Int := if validB n d then d else 1
def cmpS (an ad bn bd : Int) : Int := sgn (fixN an ad * fixD bn bd - fixN bn bd * fixD an ad)
theorem fix_bounds (n d : Int) : (-1000000000000000 ≤ fixN n d ∧ fixN n d ≤ 1000000000000000) ∧ (-1000000000000000 ≤ fixD n d ∧ fixD n d ≤ 1000000000000000) := by
  unfold fixN fixD
  cases h : validB n d
  · simp
  · obtain ⟨h1, h2, h3, h4⟩ := validB_iff.1 h
    simp only [if_true]; omega
/-- what Cmp's frame holds behind its checks -/
def CmpSt (w : World) (A B C D : Int) (V : World) : Prop :=
  Below w.heap.size w V ∧ w.heap.size + 1 < V.heap.size ∧ V.cell? ⟨w.heap.size, 0, none⟩ = some (.int .i64 A) ∧ V.cell? ⟨w.heap.size, 1, none⟩ = some (.int .i64 B) ∧ V.cell? ⟨w.heap.size + 1, 0, none⟩ = some (.int .i64 C) ∧ V.cell? ⟨w.heap.size + 1, 1, none⟩ = some (.int .i64 D)
theorem CmpSt.step {w : World} {A B C D : Int} {V V' : World} (q : CmpSt w A B C D V) (hb : Below V.heap.size V V') : CmpSt w A B C D V' := by
  obtain ⟨q0, q1, q2, q3, q4, q5⟩ := q
  obtain ⟨hc, hf⟩ := bcell hb
  have hs := hb.size
  exact ⟨below_step q0 hb, by omega, (hc _ _ (by omega)).trans q2, (hc _ _ (by omega)).trans q3, (hc _ _ (by omega)).trans q4, (hc _ _ (by omega)).trans q5⟩
theorem CmpSt.conj {w : World} {A B C D : Int} {V : World} (q : CmpSt w A B C D V) : V.cell? ⟨w.heap.size, 0, none⟩ = some (.int .i64 A) ∧ V.cell? ⟨w.heap.size, 1, none⟩ = some (.int .i64 B) ∧ V.cell? ⟨w.heap.size + 1, 0, none⟩ = some (.int .i64 C) ∧ V.cell? ⟨w.heap.size + 1, 1, none⟩ = some (.int .i64 D) ∧ CmpSt w A B C D V :=
  ⟨q.2.2.1, q.2.2.2.1, q.2.2.2.2.1, q.2.2.2.2.2, q⟩
theorem CmpSt.drew {w : World} {A B C D : Int} {V : World} (q : CmpSt w A B C D V) : CmpSt w A B C D V.drew := q.step (below_drew' (Below.refl _ _))
theorem wval_product_neg (C B : Int) : wval (decide (0 < C) != decide (B < 0)) (C.natAbs * B.natAbs) = -C * B := by
  have h := wval_product (-C) B
  rw [Int.natAbs_neg] at h
  rw [show decide (0 < C) = decide (-C < 0) from decide_eq_decide.2 (by omega)]
  exact h
theorem fix_no {n d : Int} (h : validB n d = false) : fixN n d = 0 ∧ fixD n d = 1 := by unfold fixN fixD; rw [h]; exact ⟨rfl, rfl⟩
theorem fix_yes {n d : Int} (h : validB n d = true) : fixN n d = n ∧ fixD n d = d := by unfold fixN fixD; rw [h]; exact ⟨rfl, rfl⟩
set_option maxHeartbeats 3200000 in
theorem frac_Cmp (an ad bn bd : Int) (w : World) (hZ0 : ZeroAt w) :
    Calls Tryz.prog 77 #[.agg #[.int .i64 an, .int .i64 ad], .agg #[.int .i64 bn, .int .i64 bd]] w fun e w' => e = .returned (.int .i64 (cmpS an ad bn bd)) ∧ Below w.heap.size w w' := by
  obtain ⟨⟨x1, x2⟩, x3, x4⟩ := fix_bounds an ad
  obtain ⟨⟨y1, y2⟩, y3, y4⟩ := fix_bounds bn bd
  have HR : Hid (cmpS an ad bn bd = sgn (fixN an ad * fixD bn bd - fixN bn bd * fixD an ad)) := Lib.hid rfl
  generalize cmpS an ad bn bd = R at *
  obtain ⟨z0, z1, z2⟩ := hZ0
  obtain ⟨A, hA⟩ : ∃ A, Hid (fixN an ad = A) := ⟨_, rfl⟩
  obtain ⟨B, hB⟩ : ∃ B, Hid (fixD an ad = B) := ⟨_, rfl⟩
  obtain ⟨C, hC⟩ : ∃ C, Hid (fixN bn bd = C) := ⟨_, rfl⟩
  obtain ⟨D, hD⟩ : ∃ D, Hid (fixD bn bd = D) := ⟨_, rfl⟩
  rw [hA.out, hB.out, hC.out, hD.out] at HR
  rw [hA.out] at x1 x2
  rw [hB.out] at x3 x4
  rw [hC.out] at y1 y2
  rw [hD.out] at y3 y4
  have M1 := mul_lt_wide (a := A) (b := D) ⟨x1, x2⟩ ⟨y3, y4⟩
  have M2 := mul_lt_wide (a := -C) (b := B) ⟨by omega, by omega⟩ ⟨x3, x4⟩
  have hn0 : ¬ w.heap.size = 0 := by omega
  have hm0 : ¬ 0 = w.heap.size := by omega
  cases ha : validB an ad <;> cases hb : validB bn bd
  · have hSt : Hid (∀ V, CmpSt w 0 1 0 1 V → CmpSt w A B C D V) := by
      intro V hV
      rw [← hA.out, ← hB.out, ← hC.out, ← hD.out, (fix_no ha).1, (fix_no ha).2, (fix_no hb).1, (fix_no hb).2]
      exact hV
    go_enter Tryz.func77, Tryz.ntmps77
    go_wp2_with fail
    refine (frac_Valid _ _ _).mono ?_
    rintro e w' ⟨rfl, hbb⟩
    obtain ⟨hc, hf⟩ := bcell hbb
    have c0 : w'.cell? ⟨w.heap.size, 0, none⟩ = some (.int .i64 an) := (hc _ _ (by first | omega | (simp; done) | (simp; omega))).trans (by go_simp); have f0 : w'.frozen? ⟨w.heap.size, 0, none⟩ = false := (hf _ _ (by first | omega | (simp; done) | (simp; omega))).trans (by go_simp); have c1 : w'.cell? ⟨w.heap.size, 1, none⟩ = some (.int .i64 ad) := (hc _ _ (by first | omega | (simp; done) | (simp; omega))).trans (by go_simp); have f1 : w'.frozen? ⟨w.heap.size, 1, none⟩ = false := (hf _ _ (by first | omega | (simp; done) | (simp; omega))).trans (by go_simp); have c2 : w'.cell? ⟨w.heap.size + 1, 0, none⟩ = some (.int .i64 bn) := (hc _ _ (by first | omega | (simp; done) | (simp; omega))).trans (by go_simp); have f2 : w'.frozen? ⟨w.heap.size + 1, 0, none⟩ = false := (hf _ _ (by first | omega | (simp; done) | (simp; omega))).trans (by go_simp); have c3 : w'.cell? ⟨w.heap.size + 1, 1, none⟩ = some (.int .i64 bd) := (hc _ _ (by first | omega | (simp; done) | (simp; omega))).trans (by go_simp); have f3 : w'.frozen? ⟨w.heap.size + 1, 1, none⟩ = false := (hf _ _ (by first | omega | (simp; done) | (simp; omega))).trans (by go_simp); have k0 : w'.cell? ⟨0, 0, none⟩ = some (.int .i64 0) := (hc _ _ (by first | omega | (simp; done) | (simp; omega))).trans (by go_simp); have k1 : w'.cell? ⟨0, 1, none⟩ = some (.int .i64 1) := (hc _ _ (by first | omega | (simp; done) | (simp; omega))).trans (by go_simp); have hz : w.heap.size + 1 < w'.heap.size := (by have hs := hbb.size; first | omega | (simp at hs; done) | (simp at hs; omega)); have hbA : Below w.heap.size w w' := Below.trans (b := _) (by repeat (first | with_reducible exact Below.refl _ _ | with_reducible assumption | with_reducible refine below_drewN' ?_ _ | (with_reducible refine Below.setCell ?_ (by first | (simp; done) | (simp; omega)) _) | (with_reducible refine Below.alloc ?_ (by first | exact Nat.le_refl _ | (simp; done) | (simp; omega)) _))) (hbb.mono (by first | omega | (simp; done) | (simp; omega))); clear hc hf hbb
    go_wp2_with fail
    refine (frac_Valid _ _ _).mono ?_
    rintro e w' ⟨rfl, hbb⟩
    obtain ⟨hc, hf⟩ := bcell hbb
    have c0 : w'.cell? ⟨w.heap.size, 0, none⟩ = some (.int .i64 0) := (hc _ _ (by first | omega | (simp; done) | (simp; omega))).trans (by go_simp); have f0 : w'.frozen? ⟨w.heap.size, 0, none⟩ = false := (hf _ _ (by first | omega | (simp; done) | (simp; omega))).trans (by go_simp); have c1 : w'.cell? ⟨w.heap.size, 1, none⟩ = some (.int .i64 1) := (hc _ _ (by first | omega | (simp; done) | (simp; omega))).trans (by go_simp); have f1 : w'.frozen? ⟨w.heap.size, 1, none⟩ = false := (hf _ _ (by first | omega | (simp; done) | (simp; omega))).trans (by go_simp); have c2 : w'.cell? ⟨w.heap.size + 1, 0, none⟩ = some (.int .i64 bn) := (hc _ _ (by first | omega | (simp; done) | (simp; omega))).trans (by go_simp); have f2 : w'.frozen? ⟨w.heap.size + 1, 0, none⟩ = false := (hf _ _ (by first | omega | (simp; done) | (simp; omega))).trans (by go_simp); have c3 : w'.cell? ⟨w.heap.size + 1, 1, none⟩ = some (.int .i64 bd) := (hc _ _ (by first | omega | (simp; done) | (simp; omega))).trans (by go_simp); have f3 : w'.frozen? ⟨w.heap.size + 1, 1, none⟩ = false := (hf _ _ (by first | omega | (simp; done) | (simp; omega))).trans (by go_simp); have k0 : w'.cell? ⟨0, 0, none⟩ = some (.int .i64 0) := (hc _ _ (by first | omega | (simp; done) | (simp; omega))).trans (by go_simp); have k1 : w'.cell? ⟨0, 1, none⟩ = some (.int .i64 1) := (hc _ _ (by first | omega | (simp; done) | (simp; omega))).trans (by go_simp); have hz : w.heap.size + 1 < w'.heap.size := (by have hs := hbb.size; first | omega | (simp at hs; done) | (simp at hs; omega)); have hbA : Below w.heap.size w w' := Below.trans (b := _) (by repeat (first | with_reducible exact Below.refl _ _ | with_reducible assumption | with_reducible refine below_drewN' ?_ _ | (with_reducible refine Below.setCell ?_ (by first | (simp; done) | (simp; omega)) _) | (with_reducible refine Below.alloc ?_ (by first | exact Nat.le_refl _ | (simp; done) | (simp; omega)) _))) (hbb.mono (by first | omega | (simp; done) | (simp; omega))); clear hc hf hbb
    go_wp2_with fail
    refine forget_world (CmpSt w 0 1 0 1) ⟨(by repeat (first | with_reducible exact Below.refl _ _ | with_reducible assumption | with_reducible refine below_drewN' ?_ _ | (with_reducible refine Below.setCell ?_ (by first | (simp; done) | (simp; omega)) _) | (with_reducible refine Below.alloc ?_ (by first | exact Nat.le_refl _ | (simp; done) | (simp; omega)) _))), by first | (go_simp; done) | (simp; omega), by go_simp, by go_simp, by go_simp, by go_simp⟩ ?_
    clear c0 c1 c2 c3 f0 f1 f2 f3 k0 k1 hz hbA
    intro V hV
    have hV2 := hSt.out V hV
    clear hV hSt hA hB hC hD ha hb
    have J1 : IntKind.i64.wrap (-C) = -C := IntWalk.i64_in _ ⟨by omega, by omega⟩
    go_region_held3 (fun V => V.cell? ⟨w.heap.size, 0, none⟩ = some (.int .i64 A) ∧ V.cell? ⟨w.heap.size, 1, none⟩ = some (.int .i64 B) ∧ V.cell? ⟨w.heap.size + 1, 0, none⟩ = some (.int .i64 C) ∧ V.cell? ⟨w.heap.size + 1, 1, none⟩ = some (.int .i64 D) ∧ CmpSt w A B C D V) (first | exact (CmpSt.drew hV2).conj | exact CmpSt.conj (by assumption)) (first | (go_at_call 117; refine (frac_product _ _ _ ⟨by omega, by omega⟩ ⟨by omega, by omega⟩).mono ?_; rintro e w' ⟨h, l, rfl, HW, hbb⟩; have hst := CmpSt.step (‹_ ∧ _ ∧ _ ∧ _ ∧ CmpSt _ _ _ _ _ _›.2.2.2.2) hbb) | (go_at_call 118; refine Calls.mono (wide_plus (m1 := ?ma) (m2 := ?mb) _ _ _ _ _ _ _ (W1 := ?wa) (W2 := ?wb) ?wc) ?_; (case wa => assumption); (case wb => assumption); (case wc => exact Nat.lt_of_le_of_lt (Nat.add_le_add M1 M2) (by decide)); rintro e w' ⟨h, l, rfl, HP, hbb⟩; have hst := CmpSt.step (‹_ ∧ _ ∧ _ ∧ _ ∧ CmpSt _ _ _ _ _ _›.2.2.2.2) hbb) | (go_at_call 119; refine Calls.mono (wide_sign _ _ _ ?md _ ?wd) ?_; (case wd => assumption); rintro e w' ⟨rfl, hbb⟩; have hst := CmpSt.step (‹_ ∧ _ ∧ _ ∧ _ ∧ CmpSt _ _ _ _ _ _›.2.2.2.2) hbb))
    all_goals go_wp2_with fail
    all_goals go_ret
    all_goals refine ⟨ret_int ?_, (‹_ ∧ _ ∧ _ ∧ _ ∧ CmpSt _ _ _ _ _ _›.2.2.2.2).1⟩
    all_goals rw [HR.out, sgnW_sgn, wval_plus, wval_product, wval_product_neg]
    all_goals (congr 1; rw [Int.neg_mul]; omega)
  · have hSt : Hid (∀ V, CmpSt w 0 1 bn bd V → CmpSt w A B C D V) := by
      intro V hV
      rw [← hA.out, ← hB.out, ← hC.out, ← hD.out, (fix_no ha).1, (fix_no ha).2, (fix_yes hb).1, (fix_yes hb).2]
      exact hV
    go_enter Tryz.func77, Tryz.ntmps77
    go_wp2_with fail
    refine (frac_Valid _ _ _).mono ?_
    rintro e w' ⟨rfl, hbb⟩
    obtain ⟨hc, hf⟩ := bcell hbb
    have c0 : w'.cell? ⟨w.heap.size, 0, none⟩ = some (.int .i64 an) := (hc _ _ (by first | omega | (simp; done) | (simp; omega))).trans (by go_simp); have f0 : w'.frozen? ⟨w.heap.size, 0, none⟩ = false := (hf _ _ (by first | omega | (simp; done) | (simp; omega))).trans (by go_simp); have c1 : w'.cell? ⟨w.heap.size, 1, none⟩ = some (.int .i64 ad) := (hc _ _ (by first | omega | (simp; done) | (simp; omega))).trans (by go_simp); have f1 : w'.frozen? ⟨w.heap.size, 1, none⟩ = false := (hf _ _ (by first | omega | (simp; done) | (simp; omega))).trans (by go_simp); have c2 : w'.cell? ⟨w.heap.size + 1, 0, none⟩ = some (.int .i64 bn) := (hc _ _ (by first | omega | (simp; done) | (simp; omega))).trans (by go_simp); have f2 : w'.frozen? ⟨w.heap.size + 1, 0, none⟩ = false := (hf _ _ (by first | omega | (simp; done) | (simp; omega))).trans (by go_simp); have c3 : w'.cell? ⟨w.heap.size + 1, 1, none⟩ = some (.int .i64 bd) := (hc _ _ (by first | omega | (simp; done) | (simp; omega))).trans (by go_simp); have f3 : w'.frozen? ⟨w.heap.size + 1, 1, none⟩ = false := (hf _ _ (by first | omega | (simp; done) | (simp; omega))).trans (by go_simp); have k0 : w'.cell? ⟨0, 0, none⟩ = some (.int .i64 0) := (hc _ _ (by first | omega | (simp; done) | (simp; omega))).trans (by go_simp); have k1 : w'.cell? ⟨0, 1, none⟩ = some (.int .i64 1) := (hc _ _ (by first | omega | (simp; done) | (simp; omega))).trans (by go_simp); have hz : w.heap.size + 1 < w'.heap.size := (by have hs := hbb.size; first | omega | (simp at hs; done) | (simp at hs; omega)); have hbA : Below w.heap.size w w' := Below.trans (b := _) (by repeat (first | with_reducible exact Below.refl _ _ | with_reducible assumption | with_reducible refine below_drewN' ?_ _ | (with_reducible refine Below.setCell ?_ (by first | (simp; done) | (simp; omega)) _) | (with_reducible refine Below.alloc ?_ (by first | exact Nat.le_refl _ | (simp; done) | (simp; omega)) _))) (hbb.mono (by first | omega | (simp; done) | (simp; omega))); clear hc hf hbb
    go_wp2_with fail
    refine (frac_Valid _ _ _).mono ?_
    rintro e w' ⟨rfl, hbb⟩
    obtain ⟨hc, hf⟩ := bcell hbb
    have c0 : w'.cell? ⟨w.heap.size, 0, none⟩ = some (.int .i64 0) := (hc _ _ (by first | omega | (simp; done) | (simp; omega))).trans (by go_simp); have f0 : w'.frozen? ⟨w.heap.size, 0, none⟩ = false := (hf _ _ (by first | omega | (simp; done) | (simp; omega))).trans (by go_simp); have c1 : w'.cell? ⟨w.heap.size, 1, none⟩ = some (.int .i64 1) := (hc _ _ (by first | omega | (simp; done) | (simp; omega))).trans (by go_simp); have f1 : w'.frozen? ⟨w.heap.size, 1, none⟩ = false := (hf _ _ (by first | omega | (simp; done) | (simp; omega))).trans (by go_simp); have c2 : w'.cell? ⟨w.heap.size + 1, 0, none⟩ = some (.int .i64 bn) := (hc _ _ (by first | omega | (simp; done) | (simp; omega))).trans (by go_simp); have f2 : w'.frozen? ⟨w.heap.size + 1, 0, none⟩ = false := (hf _ _ (by first | omega | (simp; done) | (simp; omega))).trans (by go_simp); have c3 : w'.cell? ⟨w.heap.size + 1, 1, none⟩ = some (.int .i64 bd) := (hc _ _ (by first | omega | (simp; done) | (simp; omega))).trans (by go_simp); have f3 : w'.frozen? ⟨w.heap.size + 1, 1, none⟩ = false := (hf _ _ (by first | omega | (simp; done) | (simp; omega))).trans (by go_simp); have k0 : w'.cell? ⟨0, 0, none⟩ = some (.int .i64 0) := (hc _ _ (by first | omega | (simp; done) | (simp; omega))).trans (by go_simp); have k1 : w'.cell? ⟨0, 1, none⟩ = some (.int .i64 1) := (hc _ _ (by first | omega | (simp; done) | (simp; omega))).trans (by go_simp); have hz : w.heap.size + 1 < w'.heap.size := (by have hs := hbb.size; first | omega | (simp at hs; done) | (simp at hs; omega)); have hbA : Below w.heap.size w w' := Below.trans (b := _) (by repeat (first | with_reducible exact Below.refl _ _ | with_reducible assumption | with_reducible refine below_drewN' ?_ _ | (with_reducible refine Below.setCell ?_ (by first | (simp; done) | (simp; omega)) _) | (with_reducible refine Below.alloc ?_ (by first | exact Nat.le_refl _ | (simp; done) | (simp; omega)) _))) (hbb.mono (by first | omega | (simp; done) | (simp; omega))); clear hc hf hbb
    go_wp2_with fail
    refine forget_world (CmpSt w 0 1 bn bd) ⟨(by repeat (first | with_reducible exact Below.refl _ _ | with_reducible assumption | with_reducible refine below_drewN' ?_ _ | (with_reducible refine Below.setCell ?_ (by first | (simp; done) | (simp; omega)) _) | (with_reducible refine Below.alloc ?_ (by first | exact Nat.le_refl _ | (simp; done) | (simp; omega)) _))), by first | (go_simp; done) | (simp; omega), by go_simp, by go_simp, by go_simp, by go_simp⟩ ?_
    clear c0 c1 c2 c3 f0 f1 f2 f3 k0 k1 hz hbA
    intro V hV
    have hV2 := hSt.out V hV
    clear hV hSt hA hB hC hD ha hb
    have J1 : IntKind.i64.wrap (-C) = -C := IntWalk.i64_in _ ⟨by omega, by omega⟩
    go_region_held3 (fun V => V.cell? ⟨w.heap.size, 0, none⟩ = some (.int .i64 A) ∧ V.cell? ⟨w.heap.size, 1, none⟩ = some (.int .i64 B) ∧ V.cell? ⟨w.heap.size + 1, 0, none⟩ = some (.int .i64 C) ∧ V.cell? ⟨w.heap.size + 1, 1, none⟩ = some (.int .i64 D) ∧ CmpSt w A B C D V) (first | exact (CmpSt.drew hV2).conj | exact CmpSt.conj (by assumption)) (first | (go_at_call 117; refine (frac_product _ _ _ ⟨by omega, by omega⟩ ⟨by omega, by omega⟩).mono ?_; rintro e w' ⟨h, l, rfl, HW, hbb⟩; have hst := CmpSt.step (‹_ ∧ _ ∧ _ ∧ _ ∧ CmpSt _ _ _ _ _ _›.2.2.2.2) hbb) | (go_at_call 118; refine Calls.mono (wide_plus (m1 := ?ma) (m2 := ?mb) _ _ _ _ _ _ _ (W1 := ?wa) (W2 := ?wb) ?wc) ?_; (case wa => assumption); (case wb => assumption); (case wc => exact Nat.lt_of_le_of_lt (Nat.add_le_add M1 M2) (by decide)); rintro e w' ⟨h, l, rfl, HP, hbb⟩; have hst := CmpSt.step (‹_ ∧ _ ∧ _ ∧ _ ∧ CmpSt _ _ _ _ _ _›.2.2.2.2) hbb) | (go_at_call 119; refine Calls.mono (wide_sign _ _ _ ?md _ ?wd) ?_; (case wd => assumption); rintro e w' ⟨rfl, hbb⟩; have hst := CmpSt.step (‹_ ∧ _ ∧ _ ∧ _ ∧ CmpSt _ _ _ _ _ _›.2.2.2.2) hbb))
    all_goals go_wp2_with fail
    all_goals go_ret
    all_goals refine ⟨ret_int ?_, (‹_ ∧ _ ∧ _ ∧ _ ∧ CmpSt _ _ _ _ _ _›.2.2.2.2).1⟩
    all_goals rw [HR.out, sgnW_sgn, wval_plus, wval_product, wval_product_neg]
    all_goals (congr 1; rw [Int.neg_mul]; omega)
  · have hSt : Hid (∀ V, CmpSt w an ad 0 1 V → CmpSt w A B C D V) := by
      intro V hV
      rw [← hA.out, ← hB.out, ← hC.out, ← hD.out, (fix_yes ha).1, (fix_yes ha).2, (fix_no hb).1, (fix_no hb).2]
      exact hV
    go_enter Tryz.func77, Tryz.ntmps77
    go_wp2_with fail
    refine (frac_Valid _ _ _).mono ?_
    rintro e w' ⟨rfl, hbb⟩
    obtain ⟨hc, hf⟩ := bcell hbb
    have c0 : w'.cell? ⟨w.heap.size, 0, none⟩ = some (.int .i64 an) := (hc _ _ (by first | omega | (simp; done) | (simp; omega))).trans (by go_simp); have f0 : w'.frozen? ⟨w.heap.size, 0, none⟩ = false := (hf _ _ (by first | omega | (simp; done) | (simp; omega))).trans (by go_simp); have c1 : w'.cell? ⟨w.heap.size, 1, none⟩ = some (.int .i64 ad) := (hc _ _ (by first | omega | (simp; done) | (simp; omega))).trans (by go_simp); have f1 : w'.frozen? ⟨w.heap.size, 1, none⟩ = false := (hf _ _ (by first | omega | (simp; done) | (simp; omega))).trans (by go_simp); have c2 : w'.cell? ⟨w.heap.size + 1, 0, none⟩ = some (.int .i64 bn) := (hc _ _ (by first | omega | (simp; done) | (simp; omega))).trans (by go_simp); have f2 : w'.frozen? ⟨w.heap.size + 1, 0, none⟩ = false := (hf _ _ (by first | omega | (simp; done) | (simp; omega))).trans (by go_simp); have c3 : w'.cell? ⟨w.heap.size + 1, 1, none⟩ = some (.int .i64 bd) := (hc _ _ (by first | omega | (simp; done) | (simp; omega))).trans (by go_simp); have f3 : w'.frozen? ⟨w.heap.size + 1, 1, none⟩ = false := (hf _ _ (by first | omega | (simp; done) | (simp; omega))).trans (by go_simp); have k0 : w'.cell? ⟨0, 0, none⟩ = some (.int .i64 0) := (hc _ _ (by first | omega | (simp; done) | (simp; omega))).trans (by go_simp); have k1 : w'.cell? ⟨0, 1, none⟩ = some (.int .i64 1) := (hc _ _ (by first | omega | (simp; done) | (simp; omega))).trans (by go_simp); have hz : w.heap.size + 1 < w'.heap.size := (by have hs := hbb.size; first | omega | (simp at hs; done) | (simp at hs; omega)); have hbA : Below w.heap.size w w' := Below.trans (b := _) (by repeat (first | with_reducible exact Below.refl _ _ | with_reducible assumption | with_reducible refine below_drewN' ?_ _ | (with_reducible refine Below.setCell ?_ (by first | (simp; done) | (simp; omega)) _) | (with_reducible refine Below.alloc ?_ (by first | exact Nat.le_refl _ | (simp; done) | (simp; omega)) _))) (hbb.mono (by first | omega | (simp; done) | (simp; omega))); clear hc hf hbb
    go_wp2_with fail
    refine (frac_Valid _ _ _).mono ?_
    rintro e w' ⟨rfl, hbb⟩
    obtain ⟨hc, hf⟩ := bcell hbb
    have c0 : w'.cell? ⟨w.heap.size, 0, none⟩ = some (.int .i64 an) := (hc _ _ (by first | omega | (simp; done) | (simp; omega))).trans (by go_simp); have f0 : w'.frozen? ⟨w.heap.size, 0, none⟩ = false := (hf _ _ (by first | omega | (simp; done) | (simp; omega))).trans (by go_simp); have c1 : w'.cell? ⟨w.heap.size, 1, none⟩ = some (.int .i64 ad) := (hc _ _ (by first | omega | (simp; done) | (simp; omega))).trans (by go_simp); have f1 : w'.frozen? ⟨w.heap.size, 1, none⟩ = false := (hf _ _ (by first | omega | (simp; done) | (simp; omega))).trans (by go_simp); have c2 : w'.cell? ⟨w.heap.size + 1, 0, none⟩ = some (.int .i64 bn) := (hc _ _ (by first | omega | (simp; done) | (simp; omega))).trans (by go_simp); have f2 : w'.frozen? ⟨w.heap.size + 1, 0, none⟩ = false := (hf _ _ (by first | omega | (simp; done) | (simp; omega))).trans (by go_simp); have c3 : w'.cell? ⟨w.heap.size + 1, 1, none⟩ = some (.int .i64 bd) := (hc _ _ (by first | omega | (simp; done) | (simp; omega))).trans (by go_simp); have f3 : w'.frozen? ⟨w.heap.size + 1, 1, none⟩ = false := (hf _ _ (by first | omega | (simp; done) | (simp; omega))).trans (by go_simp); have k0 : w'.cell? ⟨0, 0, none⟩ = some (.int .i64 0) := (hc _ _ (by first | omega | (simp; done) | (simp; omega))).trans (by go_simp); have k1 : w'.cell? ⟨0, 1, none⟩ = some (.int .i64 1) := (hc _ _ (by first | omega | (simp; done) | (simp; omega))).trans (by go_simp); have hz : w.heap.size + 1 < w'.heap.size := (by have hs := hbb.size; first | omega | (simp at hs; done) | (simp at hs; omega)); have hbA : Below w.heap.size w w' := Below.trans (b := _) (by repeat (first | with_reducible exact Below.refl _ _ | with_reducible assumption | with_reducible refine below_drewN' ?_ _ | (with_reducible refine Below.setCell ?_ (by first | (simp; done) | (simp; omega)) _) | (with_reducible refine Below.alloc ?_ (by first | exact Nat.le_refl _ | (simp; done) | (simp; omega)) _))) (hbb.mono (by first | omega | (simp; done) | (simp; omega))); clear hc hf hbb
    go_wp2_with fail
    refine forget_world (CmpSt w an ad 0 1) ⟨(by repeat (first | with_reducible exact Below.refl _ _ | with_reducible assumption | with_reducible refine below_drewN' ?_ _ | (with_reducible refine Below.setCell ?_ (by first | (simp; done) | (simp; omega)) _) | (with_reducible refine Below.alloc ?_ (by first | exact Nat.le_refl _ | (simp; done) | (simp; omega)) _))), by first | (go_simp; done) | (simp; omega), by go_simp, by go_simp, by go_simp, by go_simp⟩ ?_
    clear c0 c1 c2 c3 f0 f1 f2 f3 k0 k1 hz hbA
    intro V hV
    have hV2 := hSt.out V hV
    clear hV hSt hA hB hC hD ha hb
    have J1 : IntKind.i64.wrap (-C) = -C := IntWalk.i64_in _ ⟨by omega, by omega⟩
    go_region_held3 (fun V => V.cell? ⟨w.heap.size, 0, none⟩ = some (.int .i64 A) ∧ V.cell? ⟨w.heap.size, 1, none⟩ = some (.int .i64 B) ∧ V.cell? ⟨w.heap.size + 1, 0, none⟩ = some (.int .i64 C) ∧ V.cell? ⟨w.heap.size + 1, 1, none⟩ = some (.int .i64 D) ∧ CmpSt w A B C D V) (first | exact (CmpSt.drew hV2).conj | exact CmpSt.conj (by assumption)) (first | (go_at_call 117; refine (frac_product _ _ _ ⟨by omega, by omega⟩ ⟨by omega, by omega⟩).mono ?_; rintro e w' ⟨h, l, rfl, HW, hbb⟩; have hst := CmpSt.step (‹_ ∧ _ ∧ _ ∧ _ ∧ CmpSt _ _ _ _ _ _›.2.2.2.2) hbb) | (go_at_call 118; refine Calls.mono (wide_plus (m1 := ?ma) (m2 := ?mb) _ _ _ _ _ _ _ (W1 := ?wa) (W2 := ?wb) ?wc) ?_; (case wa => assumption); (case wb => assumption); (case wc => exact Nat.lt_of_le_of_lt (Nat.add_le_add M1 M2) (by decide)); rintro e w' ⟨h, l, rfl, HP, hbb⟩; have hst := CmpSt.step (‹_ ∧ _ ∧ _ ∧ _ ∧ CmpSt _ _ _ _ _ _›.2.2.2.2) hbb) | (go_at_call 119; refine Calls.mono (wide_sign _ _ _ ?md _ ?wd) ?_; (case wd => assumption); rintro e w' ⟨rfl, hbb⟩; have hst := CmpSt.step (‹_ ∧ _ ∧ _ ∧ _ ∧ CmpSt _ _ _ _ _ _›.2.2.2.2) hbb))
    all_goals go_wp2_with fail
    all_goals go_ret
    all_goals refine ⟨ret_int ?_, (‹_ ∧ _ ∧ _ ∧ _ ∧ CmpSt _ _ _ _ _ _›.2.2.2.2).1⟩
    all_goals rw [HR.out, sgnW_sgn, wval_plus, wval_product, wval_product_neg]
    all_goals (congr 1; rw [Int.neg_mul]; omega)
  · have hSt : Hid (∀ V, CmpSt w an ad bn bd V → CmpSt w A B C D V) := by
      intro V hV
      rw [← hA.out, ← hB.out, ← hC.out, ← hD.out, (fix_yes ha).1, (fix_yes ha).2, (fix_yes hb).1, (fix_yes hb).2]
      exact hV
    go_enter Tryz.func77, Tryz.ntmps77
    go_wp2_with fail
    refine (frac_Valid _ _ _).mono ?_
    rintro e w' ⟨rfl, hbb⟩
    obtain ⟨hc, hf⟩ := bcell hbb
    have c0 : w'.cell? ⟨w.heap.size, 0, none⟩ = some (.int .i64 an) := (hc _ _ (by first | omega | (simp; done) | (simp; omega))).trans (by go_simp); have f0 : w'.frozen? ⟨w.heap.size, 0, none⟩ = false := (hf _ _ (by first | omega | (simp; done) | (simp; omega))).trans (by go_simp); have c1 : w'.cell? ⟨w.heap.size, 1, none⟩ = some (.int .i64 ad) := (hc _ _ (by first | omega | (simp; done) | (simp; omega))).trans (by go_simp); have f1 : w'.frozen? ⟨w.heap.size, 1, none⟩ = false := (hf _ _ (by first | omega | (simp; done) | (simp; omega))).trans (by go_simp); have c2 : w'.cell? ⟨w.heap.size + 1, 0, none⟩ = some (.int .i64 bn) := (hc _ _ (by first | omega | (simp; done) | (simp; omega))).trans (by go_simp); have f2 : w'.frozen? ⟨w.heap.size + 1, 0, none⟩ = false := (hf _ _ (by first | omega | (simp; done) | (simp; omega))).trans (by go_simp); have c3 : w'.cell? ⟨w.heap.size + 1, 1, none⟩ = some (.int .i64 bd) := (hc _ _ (by first | omega | (simp; done) | (simp; omega))).trans (by go_simp); have f3 : w'.frozen? ⟨w.heap.size + 1, 1, none⟩ = false := (hf _ _ (by first | omega | (simp; done) | (simp; omega))).trans (by go_simp); have k0 : w'.cell? ⟨0, 0, none⟩ = some (.int .i64 0) := (hc _ _ (by first | omega | (simp; done) | (simp; omega))).trans (by go_simp); have k1 : w'.cell? ⟨0, 1, none⟩ = some (.int .i64 1) := (hc _ _ (by first | omega | (simp; done) | (simp; omega))).trans (by go_simp); have hz : w.heap.size + 1 < w'.heap.size := (by have hs := hbb.size; first | omega | (simp at hs; done) | (simp at hs; omega)); have hbA : Below w.heap.size w w' := Below.trans (b := _) (by repeat (first | with_reducible exact Below.refl _ _ | with_reducible assumption | with_reducible refine below_drewN' ?_ _ | (with_reducible refine Below.setCell ?_ (by first | (simp; done) | (simp; omega)) _) | (with_reducible refine Below.alloc ?_ (by first | exact Nat.le_refl _ | (simp; done) | (simp; omega)) _))) (hbb.mono (by first | omega | (simp; done) | (simp; omega))); clear hc hf hbb
    go_wp2_with fail
    refine (frac_Valid _ _ _).mono ?_
    rintro e w' ⟨rfl, hbb⟩
    obtain ⟨hc, hf⟩ := bcell hbb
    have c0 : w'.cell? ⟨w.heap.size, 0, none⟩ = some (.int .i64 an) := (hc _ _ (by first | omega | (simp; done) | (simp; omega))).trans (by go_simp); have f0 : w'.frozen? ⟨w.heap.size, 0, none⟩ = false := (hf _ _ (by first | omega | (simp; done) | (simp; omega))).trans (by go_simp); have c1 : w'.cell? ⟨w.heap.size, 1, none⟩ = some (.int .i64 ad) := (hc _ _ (by first | omega | (simp; done) | (simp; omega))).trans (by go_simp); have f1 : w'.frozen? ⟨w.heap.size, 1, none⟩ = false := (hf _ _ (by first | omega | (simp; done) | (simp; omega))).trans (by go_simp); have c2 : w'.cell? ⟨w.heap.size + 1, 0, none⟩ = some (.int .i64 bn) := (hc _ _ (by first | omega | (simp; done) | (simp; omega))).trans (by go_simp); have f2 : w'.frozen? ⟨w.heap.size + 1, 0, none⟩ = false := (hf _ _ (by first | omega | (simp; done) | (simp; omega))).trans (by go_simp); have c3 : w'.cell? ⟨w.heap.size + 1, 1, none⟩ = some (.int .i64 bd) := (hc _ _ (by first | omega | (simp; done) | (simp; omega))).trans (by go_simp); have f3 : w'.frozen? ⟨w.heap.size + 1, 1, none⟩ = false := (hf _ _ (by first | omega | (simp; done) | (simp; omega))).trans (by go_simp); have k0 : w'.cell? ⟨0, 0, none⟩ = some (.int .i64 0) := (hc _ _ (by first | omega | (simp; done) | (simp; omega))).trans (by go_simp); have k1 : w'.cell? ⟨0, 1, none⟩ = some (.int .i64 1) := (hc _ _ (by first | omega | (simp; done) | (simp; omega))).trans (by go_simp); have hz : w.heap.size + 1 < w'.heap.size := (by have hs := hbb.size; first | omega | (simp at hs; done) | (simp at hs; omega)); have hbA : Below w.heap.size w w' := Below.trans (b := _) (by repeat (first | with_reducible exact Below.refl _ _ | with_reducible assumption | with_reducible refine below_drewN' ?_ _ | (with_reducible refine Below.setCell ?_ (by first | (simp; done) | (simp; omega)) _) | (with_reducible refine Below.alloc ?_ (by first | exact Nat.le_refl _ | (simp; done) | (simp; omega)) _))) (hbb.mono (by first | omega | (simp; done) | (simp; omega))); clear hc hf hbb
    go_wp2_with fail
    refine forget_world (CmpSt w an ad bn bd) ⟨(by repeat (first | with_reducible exact Below.refl _ _ | with_reducible assumption | with_reducible refine below_drewN' ?_ _ | (with_reducible refine Below.setCell ?_ (by first | (simp; done) | (simp; omega)) _) | (with_reducible refine Below.alloc ?_ (by first | exact Nat.le_refl _ | (simp; done) | (simp; omega)) _))), by first | (go_simp; done) | (simp; omega), by go_simp, by go_simp, by go_simp, by go_simp⟩ ?_
    clear c0 c1 c2 c3 f0 f1 f2 f3 k0 k1 hz hbA
    intro V hV
    have hV2 := hSt.out V hV
    clear hV hSt hA hB hC hD ha hb
    have J1 : IntKind.i64.wrap (-C) = -C := IntWalk.i64_in _ ⟨by omega, by omega⟩
    go_region_held3 (fun V => V.cell? ⟨w.heap.size, 0, none⟩ = some (.int .i64 A) ∧ V.cell? ⟨w.heap.size, 1, none⟩ = some (.int .i64 B) ∧ V.cell? ⟨w.heap.size + 1, 0, none⟩ = some (.int .i64 C) ∧ V.cell? ⟨w.heap.size + 1, 1, none⟩ = some (.int .i64 D) ∧ CmpSt w A B C D V) (first | exact (CmpSt.drew hV2).conj | exact CmpSt.conj (by assumption)) (first | (go_at_call 117; refine (frac_product _ _ _ ⟨by omega, by omega⟩ ⟨by omega, by omega⟩).mono ?_; rintro e w' ⟨h, l, rfl, HW, hbb⟩; have hst := CmpSt.step (‹_ ∧ _ ∧ _ ∧ _ ∧ CmpSt _ _ _ _ _ _›.2.2.2.2) hbb) | (go_at_call 118; refine Calls.mono (wide_plus (m1 := ?ma) (m2 := ?mb) _ _ _ _ _ _ _ (W1 := ?wa) (W2 := ?wb) ?wc) ?_; (case wa => assumption); (case wb => assumption); (case wc => exact Nat.lt_of_le_of_lt (Nat.add_le_add M1 M2) (by decide)); rintro e w' ⟨h, l, rfl, HP, hbb⟩; have hst := CmpSt.step (‹_ ∧ _ ∧ _ ∧ _ ∧ CmpSt _ _ _ _ _ _›.2.2.2.2) hbb) | (go_at_call 119; refine Calls.mono (wide_sign _ _ _ ?md _ ?wd) ?_; (case wd => assumption); rintro e w' ⟨rfl, hbb⟩; have hst := CmpSt.step (‹_ ∧ _ ∧ _ ∧ _ ∧ CmpSt _ _ _ _ _ _›.2.2.2.2) hbb))
    all_goals go_wp2_with fail
    all_goals go_ret
    all_goals refine ⟨ret_int ?_, (‹_ ∧ _ ∧ _ ∧ _ ∧ CmpSt _ _ _ _ _ _›.2.2.2.2).1⟩
    all_goals rw [HR.out, sgnW_sgn, wval_plus, wval_product, wval_product_neg]
    all_goals (congr 1; rw [Int.neg_mul]; omega)
end Go.Proofs.YtigmdddeplnciaaGreatDoor

/- THE WALKS over value.class and value.Number; two values in boxes. -/
namespace Go.Proofs.YtigmdddeplnciaaGreatDoor
open Go.RowKit
theorem ZeroAt.ext {w w' : World} (h : ZeroAt w) (e : Ext w w') : ZeroAt w' := h.below e
theorem v_class (v : Val) (A : Option Addr) (c : Nat) (w : World) : Calls Tryz.prog 75 #[.agg #[.int .i64 v.kind, .int .i64 v.n, .int .i64 v.d, .string v.s, .slice A v.l.length c]] w fun e w' => e = .returned (.int .i64 (cls v.kind)) ∧ Ext w w' := by
  by_cases h3 : v.kind = 3
  · have HF := Lib.hid (show cls v.kind = 2 by unfold cls; rw [if_pos h3])
    go_enter Tryz.func75, Tryz.ntmps75
    go_wp2
    go_ret
    exact ⟨ret_i64 HF.out.symm, (Ext.refl _).alloc _⟩
  · by_cases h7 : v.kind = 7
    · have HF := Lib.hid (show cls v.kind = 9 by unfold cls; rw [if_neg h3, if_pos h7])
      go_enter Tryz.func75, Tryz.ntmps75
      go_wp2
      go_ret
      exact ⟨ret_i64 HF.out.symm, (Ext.refl _).alloc _⟩
    · have HF := Lib.hid (show cls v.kind = v.kind by unfold cls; rw [if_neg h3, if_neg h7])
      go_enter Tryz.func75, Tryz.ntmps75
      go_wp2
      go_ret
      exact ⟨ret_i64 HF.out.symm, (Ext.refl _).alloc _⟩
set_option maxRecDepth 100000 in
set_option maxHeartbeats 1600000 in
theorem v_Number (v : Val) (ok : Nat → Prop) (A : Option Addr) (c : Nat) (w : World) (hv : Vals w ok A v.l) (hV : validV v = true) (hk : v.kind = 2 ∨ v.kind = 3) :
    Calls Tryz.prog 76 #[.agg #[.int .i64 v.kind, .int .i64 v.n, .int .i64 v.d, .string v.s, .slice A v.l.length c]] w fun e w' => e = .returned (.tuple #[.agg #[.int .i64 v.n, .int .i64 (dnV v.kind v.d)], .bool true]) ∧ Ext w w' := by
  obtain ⟨g, w1, hg, hw1, ⟨c0, c1, c2, c3, c4⟩, hx, -⟩ := box5 w v.kind v.n v.d v.s A v.l.length c 37
  have hz : g < w1.heap.size := block_lt_of_cell c0
  obtain ⟨w2, hw2, hx2⟩ : ∃ w2, w2 = w1.alloc (.cells #[.int .i64 0, .int .i64 0] 78) ∧ Ext w1 w2 := ⟨_, rfl, (Ext.refl _).alloc _⟩
  have C := v_Valid v ok A c w2 (hv.ext (hx.trans hx2))
  rw [hV] at C
  have HC := Lib.hid C
  have HB := Lib.hid (show w2.heap[w1.heap.size]? = some (.cells #[.int .i64 0, .int .i64 0] 78) by rw [hw2]; exact heap_alloc_new _ _)
  obtain ⟨g2, hg2⟩ : ∃ g2, g2 = w1.heap.size := ⟨_, rfl⟩
  rw [← hg2] at HB
  have hle : w1.heap.size ≤ g2 := by omega
  have HW1 := Lib.hid hw1
  have HW2 := Lib.hid hw2
  have HG := Lib.hid hg
  have HG2 := Lib.hid (show g2 = w.heap.size + 1 by rw [hg2, hw1]; go_simp)
  replace c0 := hx2.cell c0
  replace c1 := hx2.cell c1
  replace c2 := hx2.cell c2
  replace c3 := hx2.cell c3
  replace c4 := hx2.cell c4
  clear hw1 hw2 hg hv hV C hg2
  go_enter Tryz.func76, Tryz.ntmps76
  go_upto_region 1 with (fail)
  rw [← HW1.out, ← HW2.out, ← HG2.out, ← HG.out]
  clear HW1 HG HW2 HG2
  have Hc0 := Lib.hid c0
  have Hc1 := Lib.hid c1
  have Hc2 := Lib.hid c2
  rcases hk with hk | hk
  · rw [hk] at c0
    have hC0 := HC.out
    rw [hk] at hC0
    replace HC := Lib.hid hC0
    clear hC0
    have HD := Lib.hid (show dnV v.kind v.d = 1 by unfold dnV; rw [hk]; rfl)
    clear hk Hc0
    go_wp2_with fail
    refine (HC.out).mono ?_
    rintro e w3 ⟨rfl, hE⟩
    have hb1 := hE.heap HB.out
    replace c0 := hE.cell c0
    replace c1 := hE.cell c1
    replace c2 := hE.cell c2
    have f0 : w3.frozen? ⟨g2, 0, none⟩ = false := by simp [World.frozen?, hb1]
    have f1 : w3.frozen? ⟨g2, 1, none⟩ = false := by simp [World.frozen?, hb1]
    have e0 : w3.cell? ⟨g2, 0, none⟩ = some (.int .i64 0) := by rw [cell_of_row w3 g2 0 _ _ _ hb1]; rfl
    have e1 : w3.cell? ⟨g2, 1, none⟩ = some (.int .i64 0) := by rw [cell_of_row w3 g2 1 _ _ _ hb1]; rfl
    clear hb1 HB HC c3 c4 Hc1 Hc2
    go_wp2_with fail
    rw [HD.out]
    have hle2 : w.heap.size ≤ g2 := Nat.le_trans hx.le hle
    exact bodyPost_ret (v := .tuple #[.agg #[.int .i64 v.n, .int .i64 1], .bool true]) (by simp [results, Tryz.results76, go_sem, e0, e1]) rfl ⟨rfl, (hx.trans (hx2.trans hE)).setCell hle2 _ |>.setCell hle2 _⟩
  · rw [hk] at c0
    have hC0 := HC.out
    rw [hk] at hC0
    replace HC := Lib.hid hC0
    clear hC0
    have HD := Lib.hid (show dnV v.kind v.d = v.d by unfold dnV; rw [hk]; rfl)
    clear hk Hc0
    go_wp2_with fail
    refine (HC.out).mono ?_
    rintro e w3 ⟨rfl, hE⟩
    have hb1 := hE.heap HB.out
    replace c0 := hE.cell c0
    replace c1 := hE.cell c1
    replace c2 := hE.cell c2
    have f0 : w3.frozen? ⟨g2, 0, none⟩ = false := by simp [World.frozen?, hb1]
    have f1 : w3.frozen? ⟨g2, 1, none⟩ = false := by simp [World.frozen?, hb1]
    have e0 : w3.cell? ⟨g2, 0, none⟩ = some (.int .i64 0) := by rw [cell_of_row w3 g2 0 _ _ _ hb1]; rfl
    have e1 : w3.cell? ⟨g2, 1, none⟩ = some (.int .i64 0) := by rw [cell_of_row w3 g2 1 _ _ _ hb1]; rfl
    clear hb1 HB HC c3 c4 Hc1 Hc2
    go_wp2_with fail
    rw [HD.out]
    have hle2 : w.heap.size ≤ g2 := Nat.le_trans hx.le hle
    exact bodyPost_ret (v := .tuple #[.agg #[.int .i64 v.n, .int .i64 v.d], .bool true]) (by simp [results, Tryz.results76, go_sem, e0, e1]) rfl ⟨rfl, (hx.trans (hx2.trans hE)).setCell hle2 _ |>.setCell hle2 _⟩
/-- two values in boxes of the call's own -/
theorem two_vals (w : World) (a b : Val) (A B : Option Addr) (c d : Nat) (t : TypeId) : ∃ (g1 g2 : Nat) (w2 : World), g1 = w.heap.size ∧ g2 = w.heap.size + 1 ∧ w2 = (w.alloc (.cells #[.int .i64 a.kind, .int .i64 a.n, .int .i64 a.d, .string a.s, .slice A a.l.length c] t)).alloc (.cells #[.int .i64 b.kind, .int .i64 b.n, .int .i64 b.d, .string b.s, .slice B b.l.length d] t) ∧ V5 w2 g1 0 a A c ∧ V5 w2 g2 0 b B d ∧ Ext w w2 ∧ w.heap.size ≤ g1 ∧ w.heap.size ≤ g2 ∧ g1 < w2.heap.size ∧ g2 < w2.heap.size := by
  obtain ⟨g1, w1, hg1, hw1, h1, hx1, hl1⟩ := box_val w a A c t
  obtain ⟨g2, w2, hg2, hw2, h2, hx2, hl2⟩ := box_val w1 b B d t
  exact ⟨g1, g2, w2, hg1, by rw [hg2, hw1]; go_simp, by rw [hw2, hw1], h1.ext hx2, h2, hx1.trans hx2, hl1, Nat.le_trans hx1.le hl2, block_lt_of_cell (h1.ext hx2).1, block_lt_of_cell h2.1⟩
/-- two numbers in a box of the call's own -/
theorem box2 (w : World) (x y : Int) (t : TypeId) : ∃ (g : Nat) (w1 : World), g = w.heap.size ∧ w1 = w.alloc (.cells #[.int .i64 x, .int .i64 y] t) ∧ w1.cell? ⟨g, 0, none⟩ = some (.int .i64 x) ∧ w1.cell? ⟨g, 1, none⟩ = some (.int .i64 y) ∧ Ext w w1 ∧ w.heap.size ≤ g :=
  ⟨_, _, rfl, rfl, by go_simp, by go_simp, (Ext.refl _).alloc _, Nat.le_refl _⟩
theorem cmpS_q {n d n' d' : Int} (h : validB n d = true) (h' : validB n' d' = true) : cmpS n d n' d' = cmpQ n d n' d' := by
  unfold cmpS cmpQ
  rw [(fix_yes h).1, (fix_yes h).2, (fix_yes h').1, (fix_yes h').2]
  unfold sgn Lib.compareInt
  repeat' split
  all_goals omega
end Go.Proofs.YtigmdddeplnciaaGreatDoor

/- THE WALKS over slices.CompareFunc at value.order and over value.order. -/
namespace Go.Proofs.YtigmdddeplnciaaGreatDoor
open Go.RowKit
set_option maxRecDepth 100000 in
set_option maxHeartbeats 3200000 in
theorem v_cmpU (a b : List Val) (ok ok' : Nat → Prop) (A B : Option Addr) (c d : Nat) (w : World) (hz : ZeroAt w) (ha : Vals w ok A a) (hb : Vals w ok' B b) (hq : (∀ x ∈ a, validV x = true) ∧ (∀ y ∈ b, validV y = true))
    (hf : ∀ x ∈ a, ∀ y ∈ b, ∀ (Ax By : Option Addr) (cx dy : Nat) (W : World), ZeroAt W → Vals W ok Ax x.l → Vals W ok' By y.l → validV x = true → validV y = true → Calls Tryz.prog 44 #[.agg #[.int .i64 x.kind, .int .i64 x.n, .int .i64 x.d, .string x.s, .slice Ax x.l.length cx], .agg #[.int .i64 y.kind, .int .i64 y.n, .int .i64 y.d, .string y.s, .slice By y.l.length dy]] W fun e W' => e = .returned (.int .i64 (ordV x y)) ∧ Ext W W') :
    Calls Tryz.prog 46 #[.slice A a.length c, .slice B b.length d, .func (.func 44) #[] #[]] w fun e w' => e = .returned (.int .i64 (ordL a b)) ∧ Ext w w' := by
  have hma := ha.len
  have hmb := hb.len
  have HZ := Lib.hid hz
  have HA := Lib.hid ha
  have HB := Lib.hid hb
  have HF := Lib.hid hf
  have HQ := Lib.hid hq
  obtain ⟨R, hR⟩ : ∃ R, R = ordL a b := ⟨_, rfl⟩
  rw [← hR]
  have HR := Lib.hid (show R = ordL (a.drop 0) (b.drop 0) from hR)
  clear hz ha hb hf hR hq
  go_enter Tryz.func46, Tryz.ntmps46
  go_wp2
  go_loopw [13] (fun u W => ∃ k : Nat, u = .int .i64 k ∧ k ≤ a.length ∧ k ≤ b.length ∧ Hid (R = ordL (a.drop k) (b.drop k)) ∧ Ext w W) (fun u _ => a.length - (intOf u).toNat)
  case atStart => exact ⟨0, rfl, Nat.zero_le _, Nat.zero_le _, HR, Ext.refl _⟩
  case round =>
    obtain ⟨k, rfl, hk, hkb, hS, hE⟩ := hrel
    by_cases hlt : k < a.length
    · obtain ⟨ba, oa, rfl, hca⟩ := HA.out.2 (by omega)
      obtain ⟨-, A', c', h5, -, hv'⟩ := VCells.iff.1 (hca k hlt)
      obtain ⟨d0, d1, d2, d3, d4⟩ := h5.ext hE
      obtain ⟨g, w1, hg, hw1, h6, hx, -⟩ := box_val wr a[k] A' c' 37
      have HW1 := Lib.hid hw1
      have HG := Lib.hid hg
      have HVx := Lib.hid (hv'.ext hE)
      clear hw1 hg hca h5 hv'
      by_cases hltb : k < b.length
      · obtain ⟨bb, ob, rfl, hcb⟩ := HB.out.2 (by omega)
        obtain ⟨-, B', d', h5, -, hv'⟩ := VCells.iff.1 (hcb k hltb)
        obtain ⟨e0, e1, e2, e3, e4⟩ := h5.ext (hE.trans hx)
        obtain ⟨g2, w2, hg2, hw2, h7, hx2, -⟩ := box_val w1 b[k] B' d' 37
        have HW2 := Lib.hid hw2
        have HG2 := Lib.hid hg2
        have HC := Lib.hid (HF.out a[k] (List.getElem_mem hlt) b[k] (List.getElem_mem hltb) A' B' c' d' w2 (HZ.out.ext (hE.trans (hx.trans hx2))) (HVx.out.ext (hx.trans hx2)) (hv'.ext (hE.trans (hx.trans hx2))) (HQ.out.1 _ (List.getElem_mem hlt)) (HQ.out.2 _ (List.getElem_mem hltb)))
        have HD := Lib.hid (show ordL (a.drop k) (b.drop k) = thenC (ordV a[k] b[k]) (ordL (a.drop (k + 1)) (b.drop (k + 1))) by rw [List.drop_eq_getElem_cons hlt, List.drop_eq_getElem_cons hltb, ordL])
        obtain ⟨p0, p1, p2, p3, p4⟩ := h6.ext hx2
        obtain ⟨q0, q1, q2, q3, q4⟩ := h7
        clear hw2 hg2 hcb h5 hv' h6
        generalize a[k] = x at *
        generalize b[k] = y at *
        generalize ordV x y = z at HC HD
        go_upto_region 4 with (fail)
        rw [← HW1.out, ← HG.out]
        clear HW1 HG d0 d1 d2 d3 d4
        go_upto_region 7 with (fail)
        rw [← HW2.out, ← HG2.out]
        clear HW2 HG2 e0 e1 e2 e3 e4
        by_cases hz0 : z = 0
        · have HT := Lib.hid (show R = ordL (a.drop (k + 1)) (b.drop (k + 1)) by rw [hS.out, HD.out, hz0]; rfl)
          subst hz0
          go_wp2_with (go_at_call 44; ((with_reducible refine (HC.out).mono ?_); rintro e w' ⟨rfl, hb⟩; have hb' : Ext w2 w' := hb))
          go_roundw
          case rel => exact ⟨k + 1, by go_num, by omega, by omega, HT, hE.trans (hx.trans (hx2.trans hb'))⟩
          case measure => simp [intOf]; omega
        · have HT := Lib.hid (show R = z by rw [hS.out, HD.out, thenC_ne hz0])
          have hz' : (z != 0) = true := by simpa using hz0
          clear hz0
          go_wp2_with (go_at_call 44; ((with_reducible refine (HC.out).mono ?_); rintro e w' ⟨rfl, hb⟩; have hb' : Ext w2 w' := hb))
          go_ret
          exact ⟨ret_i64 HT.out.symm, hE.trans (hx.trans (hx2.trans hb'))⟩
      · have HT := Lib.hid (show R = 1 by rw [hS.out, List.drop_eq_getElem_cons hlt, List.drop_of_length_le (by omega : b.length ≤ k), ordL])
        have hkb' : b.length ≤ k := by omega
        generalize a[k] = x at *
        go_upto_region 4 with (fail)
        rw [← HW1.out, ← HG.out]
        clear HW1 HG d0 d1 d2 d3 d4 h6
        go_wp2
        go_ret
        exact ⟨ret_i64 HT.out.symm, hE.trans hx⟩
    · have hk' : k = a.length := by omega
      by_cases hl : a.length < b.length
      · have HT := Lib.hid (show R = -1 by rw [hS.out, hk', List.drop_length, List.drop_eq_getElem_cons hl, ordL])
        go_wp2
        go_ret
        exact ⟨ret_i64 HT.out.symm, hE⟩
      · have HT := Lib.hid (show R = 0 by rw [hS.out, hk', List.drop_length, List.drop_of_length_le (by omega), ordL])
        go_wp2
        go_ret
        exact ⟨ret_i64 HT.out.symm, hE⟩
set_option maxRecDepth 100000 in
set_option maxHeartbeats 6400000 in
theorem v_orderStep (a b : Val) (ok ok' : Nat → Prop) (A B : Option Addr) (c d : Nat) (w : World) (hz : ZeroAt w) (ha : Vals w ok A a.l) (hb : Vals w ok' B b.l) (hva : validV a = true) (hvb : validV b = true)
    (ih : ∀ x ∈ a.l, ∀ y ∈ b.l, ∀ (Ax By : Option Addr) (cx dy : Nat) (W : World), ZeroAt W → Vals W ok Ax x.l → Vals W ok' By y.l → validV x = true → validV y = true → Calls Tryz.prog 44 #[.agg #[.int .i64 x.kind, .int .i64 x.n, .int .i64 x.d, .string x.s, .slice Ax x.l.length cx], .agg #[.int .i64 y.kind, .int .i64 y.n, .int .i64 y.d, .string y.s, .slice By y.l.length dy]] W fun e W' => e = .returned (.int .i64 (ordV x y)) ∧ Ext W W') :
    Calls Tryz.prog 44 #[.agg #[.int .i64 a.kind, .int .i64 a.n, .int .i64 a.d, .string a.s, .slice A a.l.length c], .agg #[.int .i64 b.kind, .int .i64 b.n, .int .i64 b.d, .string b.s, .slice B b.l.length d]] w fun e w' => e = .returned (.int .i64 (ordV a b)) ∧ Ext w w' := by
  have HO := Lib.hid (show ordV a b = thenC (Lib.compareInt (cls a.kind) (cls b.kind)) (if cls a.kind = 2 then cmpQ a.n (dnV a.kind a.d) b.n (dnV b.kind b.d) else thenC (cmpT a.s b.s) (thenC (Lib.compareInt a.n b.n) (ordL a.l b.l))) by rw [ordV_eq, if_pos hva, if_pos hvb]; rfl)
  generalize ordV a b = o at HO ⊢
  have HVA := Lib.hid hva
  have HVB := Lib.hid hvb
  have HZ := Lib.hid hz
  have HA := Lib.hid ha
  have HB := Lib.hid hb
  have HCF := Lib.hid (fun W (e : Ext w W) => v_cmpU a.l b.l ok ok' A B c d W (hz.ext e) (ha.ext e) (hb.ext e) ⟨fun x hx => validV_mem hva hx, fun y hy => validV_mem hvb hy⟩ ih)
  have hma := ha.len
  have hmb := hb.len
  clear hva hvb hz ha hb ih
  obtain ⟨g1, g2, w2, hg1, hg2, hw2, h1, h2, hx, -, -, hl1, hl2⟩ := two_vals w a b A B c d 37
  have HG1 := Lib.hid hg1
  have HG2 := Lib.hid hg2
  have HW2 := Lib.hid hw2
  have MK := Lib.hid (fun V (e : Ext w2 V) => (⟨(h1.ext e).1, (h1.ext e).2.1, (h1.ext e).2.2.1, (h1.ext e).2.2.2.1, (h1.ext e).2.2.2.2, (h2.ext e).1, (h2.ext e).2.1, (h2.ext e).2.2.1, (h2.ext e).2.2.2.1, (h2.ext e).2.2.2.2, e⟩ : V.cell? ⟨g1, 0, none⟩ = some (.int .i64 a.kind) ∧ V.cell? ⟨g1, 1, none⟩ = some (.int .i64 a.n) ∧ V.cell? ⟨g1, 2, none⟩ = some (.int .i64 a.d) ∧ V.cell? ⟨g1, 3, none⟩ = some (.string a.s) ∧ V.cell? ⟨g1, 4, none⟩ = some (.slice A a.l.length c) ∧ V.cell? ⟨g2, 0, none⟩ = some (.int .i64 b.kind) ∧ V.cell? ⟨g2, 1, none⟩ = some (.int .i64 b.n) ∧ V.cell? ⟨g2, 2, none⟩ = some (.int .i64 b.d) ∧ V.cell? ⟨g2, 3, none⟩ = some (.string b.s) ∧ V.cell? ⟨g2, 4, none⟩ = some (.slice B b.l.length d) ∧ Ext w2 V))
  clear hg1 hg2 hw2 h1 h2
  replace HCF := Lib.hid (fun W (e : Ext w2 W) => HCF.out W (hx.trans e))
  by_cases hcl : cls a.kind = cls b.kind
  · have hcz : Lib.compareInt (cls a.kind) (cls b.kind) = 0 := (TotC.int.zero _ _).2 hcl
    have hcz' : (Lib.compareInt (cls a.kind) (cls b.kind) != 0) = false := by rw [hcz]; rfl
    by_cases h2 : cls a.kind = 2
    · have HO' := Lib.hid (show o = cmpQ a.n (dnV a.kind a.d) b.n (dnV b.kind b.d) by rw [HO.out, hcz, if_pos h2]; rfl)
      have fa := validV_facts HVA.out
      have fb := validV_facts HVB.out
      have HQ := Lib.hid (cmpS_q (dnV_num fa h2) (dnV_num fb (hcl ▸ h2)))
      have HNA := Lib.hid (fun W (e : Ext w2 W) => v_Number a ok A c W (HA.out.ext (hx.trans e)) HVA.out (cls_two.1 h2))
      have HNB := Lib.hid (fun W (e : Ext w2 W) => v_Number b ok' B d W (HB.out.ext (hx.trans e)) HVB.out (cls_two.1 (hcl ▸ h2)))
      have h2' : (cls a.kind == 2) = true := by rw [h2]; rfl
      clear fa fb hcz hcl h2 HVA HVB HO HCF HA HB
      generalize dnV a.kind a.d = da at *
      generalize dnV b.kind b.d = db at *
      go_enter Tryz.func44, Tryz.ntmps44
      go_upto_region 1 with (fail)
      rw [← HW2.out, ← HG2.out, ← HG1.out]
      clear HW2 HG2 HG1
      go_region_held3 (fun V => V.cell? ⟨g1, 0, none⟩ = some (.int .i64 a.kind) ∧ V.cell? ⟨g1, 1, none⟩ = some (.int .i64 a.n) ∧ V.cell? ⟨g1, 2, none⟩ = some (.int .i64 a.d) ∧ V.cell? ⟨g1, 3, none⟩ = some (.string a.s) ∧ V.cell? ⟨g1, 4, none⟩ = some (.slice A a.l.length c) ∧ V.cell? ⟨g2, 0, none⟩ = some (.int .i64 b.kind) ∧ V.cell? ⟨g2, 1, none⟩ = some (.int .i64 b.n) ∧ V.cell? ⟨g2, 2, none⟩ = some (.int .i64 b.d) ∧ V.cell? ⟨g2, 3, none⟩ = some (.string b.s) ∧ V.cell? ⟨g2, 4, none⟩ = some (.slice B b.l.length d) ∧ Ext w2 V) ((exact MK.out _ (by solve_by_elim [X0, X1, X2, X3]))) ((first | (go_at_call 75; refine (v_class _ _ _ _).mono ?_; rintro e w' ⟨rfl, hb⟩; replace hb : Ext w2 w' := Ext.trans (by solve_by_elim [X0, X1, X2, X3]) hb) | (go_at_call 43; refine (c_cmp_int _ _ _).mono ?_; rintro e w' ⟨rfl, rfl⟩)))
      obtain ⟨a0, a1, a2, a3, a4, b0, b1, b2, b3, b4, hEw⟩ := ‹_ ∧ _›
      go_wp2_with fail
      refine (v_class a A c _).mono ?_
      rintro e w5 ⟨rfl, h5⟩
      have hE5 : Ext w2 w5 := Ext.trans (by solve_by_elim [X0, X1, X2, X3]) h5
      clear a0 a1 a2 a3 a4 b0 b1 b2 b3 b4 hEw h5
      obtain ⟨a0, a1, a2, a3, a4, b0, b1, b2, b3, b4, -⟩ := MK.out w5 (hE5)
      go_wp2_with fail
      refine (HNA.out w5 hE5).mono ?_
      rintro e w6 ⟨rfl, h6⟩
      have hE6 : Ext w2 w6 := Ext.trans hE5 h6
      obtain ⟨g6, w7, hg6, hw7, p0, p1, h7, -⟩ := box2 w6 a.n da 78
      have hE7 := hE6.trans h7
      have HG6 := Lib.hid hg6
      have HW7 := Lib.hid hw7
      clear a0 a1 a2 a3 a4 b0 b1 b2 b3 b4 h6 hg6 hw7 h7 hE5
      obtain ⟨a0, a1, a2, a3, a4, b0, b1, b2, b3, b4, -⟩ := MK.out w7 (hE7)
      go_upto_region 6 with (fail)
      rw [← HW7.out, ← HG6.out]
      clear HW7 HG6
      go_wp2_with fail
      refine (HNB.out w7 hE7).mono ?_
      rintro e w8 ⟨rfl, h8⟩
      obtain ⟨g8, w9, hg8, hw9, q0, q1, h9, -⟩ := box2 w8 b.n db 78
      replace p0 := (h8.trans h9).cell p0
      replace p1 := (h8.trans h9).cell p1
      have hE9 := hE7.trans (h8.trans h9)
      have HG8 := Lib.hid hg8
      have HW9 := Lib.hid hw9
      clear a0 a1 a2 a3 a4 b0 b1 b2 b3 b4 hg8 hw9 h8 h9 hE6 hE7
      go_upto_region 7 with (fail)
      rw [← HW9.out, ← HG8.out]
      clear HW9 HG8
      go_wp2_with fail
      refine (frac_Cmp _ _ _ _ _ (HZ.out.ext (hx.trans hE9))).mono ?_
      rintro e w10 ⟨rfl, h10⟩
      have h10' : Ext w9 w10 := h10
      go_wp2
      go_ret
      exact ⟨ret_i64 (HQ.out.trans HO'.out.symm), hx.trans (hE9.trans h10')⟩
    · have HO' := Lib.hid (show o = orL [cmpT a.s b.s, Lib.compareInt a.n b.n, ordL a.l b.l] by rw [HO.out, hcz, if_neg h2]; unfold orL orL orL orL; rw [thenC_0]; rfl)
      have h2' : (cls a.kind == 2) = false := by simpa using h2
      clear hcz hcl h2 HVA HVB HO HA HB HZ
      go_enter Tryz.func44, Tryz.ntmps44
      go_upto_region 1 with (fail)
      rw [← HW2.out, ← HG2.out, ← HG1.out]
      clear HW2 HG2 HG1
      go_region_held3 (fun V => V.cell? ⟨g1, 0, none⟩ = some (.int .i64 a.kind) ∧ V.cell? ⟨g1, 1, none⟩ = some (.int .i64 a.n) ∧ V.cell? ⟨g1, 2, none⟩ = some (.int .i64 a.d) ∧ V.cell? ⟨g1, 3, none⟩ = some (.string a.s) ∧ V.cell? ⟨g1, 4, none⟩ = some (.slice A a.l.length c) ∧ V.cell? ⟨g2, 0, none⟩ = some (.int .i64 b.kind) ∧ V.cell? ⟨g2, 1, none⟩ = some (.int .i64 b.n) ∧ V.cell? ⟨g2, 2, none⟩ = some (.int .i64 b.d) ∧ V.cell? ⟨g2, 3, none⟩ = some (.string b.s) ∧ V.cell? ⟨g2, 4, none⟩ = some (.slice B b.l.length d) ∧ Ext w2 V) ((exact MK.out _ (by solve_by_elim [X0, X1, X2, X3]))) ((first | (go_at_call 75; refine (v_class _ _ _ _).mono ?_; rintro e w' ⟨rfl, hb⟩; replace hb : Ext w2 w' := Ext.trans (by solve_by_elim [X0, X1, X2, X3]) hb) | (go_at_call 43; refine (c_cmp_int _ _ _).mono ?_; rintro e w' ⟨rfl, rfl⟩)))
      obtain ⟨a0, a1, a2, a3, a4, b0, b1, b2, b3, b4, hEw⟩ := ‹_ ∧ _›
      go_wp2_with fail
      refine (v_class a A c _).mono ?_
      rintro e w5 ⟨rfl, h5⟩
      have hE5 : Ext w2 w5 := Ext.trans (by solve_by_elim [X0, X1, X2, X3]) h5
      clear a0 a1 a2 a3 a4 b0 b1 b2 b3 b4 hEw h5
      go_wp2_with fail
      go_region_held3 (fun V => V.cell? ⟨g1, 0, none⟩ = some (.int .i64 a.kind) ∧ V.cell? ⟨g1, 1, none⟩ = some (.int .i64 a.n) ∧ V.cell? ⟨g1, 2, none⟩ = some (.int .i64 a.d) ∧ V.cell? ⟨g1, 3, none⟩ = some (.string a.s) ∧ V.cell? ⟨g1, 4, none⟩ = some (.slice A a.l.length c) ∧ V.cell? ⟨g2, 0, none⟩ = some (.int .i64 b.kind) ∧ V.cell? ⟨g2, 1, none⟩ = some (.int .i64 b.n) ∧ V.cell? ⟨g2, 2, none⟩ = some (.int .i64 b.d) ∧ V.cell? ⟨g2, 3, none⟩ = some (.string b.s) ∧ V.cell? ⟨g2, 4, none⟩ = some (.slice B b.l.length d) ∧ Ext w2 V) ((exact MK.out _ (by solve_by_elim [X0, X1, X2, X3]))) ((first | (go_at_call 43; refine (c_cmp_int _ _ _).mono ?_; rintro e w' ⟨rfl, rfl⟩) | (go_at_call 45; refine (c_cmp_str _ _ _).mono ?_; rintro e w' ⟨rfl, rfl⟩) | (go_at_call 46; refine (HCF.out _ (by solve_by_elim [X0, X1, X2, X3])).mono ?_; rintro e w' ⟨rfl, hb⟩; replace hb : Ext w2 w' := Ext.trans (by solve_by_elim [X0, X1, X2, X3]) hb) | (go_at_call 42; refine Calls.mono (c_or_int _ [cmpT a.s b.s, Lib.compareInt a.n b.n, ordL a.l b.l] _ (by simp) ?hcs) ?_; (case hcs => (intro j hj; have hj6 : j = 0 ∨ j = 1 ∨ j = 2 := (by simp at hj; omega); rcases hj6 with rfl | rfl | rfl <;> (go_simp; done))); rintro e w' ⟨rfl, rfl⟩)))
      all_goals
        clear ‹_ ∧ _›
        go_wp2
        go_ret
        exact ⟨ret_i64 HO'.out.symm, hx.trans (by solve_by_elim [X0, X1, X2, X3])⟩
  · have hcz : Lib.compareInt (cls a.kind) (cls b.kind) ≠ 0 := fun h => hcl ((TotC.int.zero _ _).1 h)
    have HO' := Lib.hid (show o = Lib.compareInt (cls a.kind) (cls b.kind) by rw [HO.out, thenC_ne hcz])
    have hcz' : (Lib.compareInt (cls a.kind) (cls b.kind) != 0) = true := by simpa using hcz
    clear hcz hcl HO HCF
    go_enter Tryz.func44, Tryz.ntmps44
    go_upto_region 1 with (fail)
    rw [← HW2.out, ← HG2.out, ← HG1.out]
    clear HW2 HG2 HG1
    go_region_held3 (fun V => V.cell? ⟨g1, 0, none⟩ = some (.int .i64 a.kind) ∧ V.cell? ⟨g1, 1, none⟩ = some (.int .i64 a.n) ∧ V.cell? ⟨g1, 2, none⟩ = some (.int .i64 a.d) ∧ V.cell? ⟨g1, 3, none⟩ = some (.string a.s) ∧ V.cell? ⟨g1, 4, none⟩ = some (.slice A a.l.length c) ∧ V.cell? ⟨g2, 0, none⟩ = some (.int .i64 b.kind) ∧ V.cell? ⟨g2, 1, none⟩ = some (.int .i64 b.n) ∧ V.cell? ⟨g2, 2, none⟩ = some (.int .i64 b.d) ∧ V.cell? ⟨g2, 3, none⟩ = some (.string b.s) ∧ V.cell? ⟨g2, 4, none⟩ = some (.slice B b.l.length d) ∧ Ext w2 V) ((exact MK.out _ (by solve_by_elim [X0, X1, X2, X3]))) ((first | (go_at_call 75; refine (v_class _ _ _ _).mono ?_; rintro e w' ⟨rfl, hb⟩; replace hb : Ext w2 w' := Ext.trans (by solve_by_elim [X0, X1, X2, X3]) hb) | (go_at_call 43; refine (c_cmp_int _ _ _).mono ?_; rintro e w' ⟨rfl, rfl⟩)))
    all_goals
      go_wp2
      go_ret
      exact ⟨ret_i64 HO'.out.symm, hx.trans (by solve_by_elim [X0, X1, X2, X3])⟩
end Go.Proofs.YtigmdddeplnciaaGreatDoor
