/- PARTS OF THE WALKS, joined: FracC, FracD, FracK, FracL. -/
import Derived.Test.YtbjddimafilflaaGreatDoorV05
import Derived.Lib.BitFns
import Derived.Deep.CutBlock
import Derived.Deep.DeepCutAuto
import Derived.Deep.RegionHeld3
/- THE WALKS over the wide integers: sign; the long division. -/
namespace Go.Proofs.YtbjddimafilflaaGreatDoor
open Go.RowKit
/-- the sign of a wide integer -/
def sgnW (s : Bool) (m : Nat) : Int := if m = 0 then 0 else if s then -1 else 1
theorem or_zero {h l : Int} {m : Nat} (W : WB h l m) : (bits .or .u64 h l == 0) = decide (m = 0) := by
  unfold WB at W
  obtain ⟨h', rfl⟩ := Int.eq_ofNat_of_zero_le W.1.1
  obtain ⟨l', rfl⟩ := Int.eq_ofNat_of_zero_le W.2.1.1
  rw [bits_or_u64_nat h' l' (by omega) (by omega)]
  by_cases hm : m = 0
  · rw [decide_eq_true hm]
    obtain rfl : h' = 0 := by omega
    obtain rfl : l' = 0 := by omega
    rfl
  · rw [decide_eq_false hm, beq_eq_false_iff_ne]
    intro e
    have e' : h' ||| l' = 0 := by omega
    rw [Nat.or_eq_zero_iff] at e'
    omega
set_option maxHeartbeats 800000 in
theorem wide_sign (s : Bool) (h l : Int) (m : Nat) (w : World) (W : WB h l m) :
    Calls Tryz.prog 127 #[.agg #[.bool s, .int .u64 h, .int .u64 l]] w fun e w' => e = .returned (.int .i64 (sgnW s m)) ∧ Below w.heap.size w w' := by
  have hb0 := (Below.refl w.heap.size w).alloc (Nat.le_refl _) (.cells #[.bool s, .int .u64 h, .int .u64 l] 122)
  have HO := or_zero W
  by_cases hm : m = 0
  · rw [decide_eq_true hm] at HO
    have HS : Hid (sgnW s m = 0) := if_pos hm
    go_enter Tryz.func127, Tryz.ntmps127
    go_wp2
    go_ret
    exact ⟨ret_int HS.out.symm, hb0⟩
  · rw [decide_eq_false hm] at HO
    have HS : Hid (sgnW s m = if s then -1 else 1) := if_neg hm
    cases s
    · go_enter Tryz.func127, Tryz.ntmps127
      go_wp2
      go_ret
      exact ⟨ret_int HS.out.symm, hb0⟩
    · go_enter Tryz.func127, Tryz.ntmps127
      go_wp2
      go_ret
      exact ⟨ret_int HS.out.symm, hb0⟩
end Go.Proofs.YtbjddimafilflaaGreatDoor

/- PLAIN facts for the long division's shifts. -/
namespace Go.Proofs.YtbjddimafilflaaGreatDoor
open Go.RowKit
theorem and_low {x : Nat} (h : x < 18446744073709551616) : bits .and .u64 (x : Int) 4294967295 = ((x % 4294967296 : Nat) : Int) := by
  have := u64_and_nat x 4294967295 h (by omega)
  rw [show ((4294967295 : Nat) : Int) = 4294967295 from rfl] at this
  rw [this]
  congr 1
  exact Nat.and_two_pow_sub_one_eq_mod x 32
theorem halves {a b : Nat} (ha : a < 4294967296) (hb : b < 4294967296) : ((a * 4294967296 + b : Nat) : Int) / 4294967296 = (a : Int) ∧ bits .and .u64 ((a * 4294967296 + b : Nat) : Int) 4294967295 = (b : Int) := by
  refine ⟨by omega, ?_⟩
  rw [and_low (by omega)]; congr 1; omega
end Go.Proofs.YtbjddimafilflaaGreatDoor

/- A wide integer as a signed one: plain. -/
namespace Go.Proofs.YtbjddimafilflaaGreatDoor
open Go.RowKit
def wval (s : Bool) (m : Nat) : Int := if s then -(m : Int) else (m : Int)
theorem wval_product (a b : Int) : wval (decide (a < 0) != decide (b < 0)) (a.natAbs * b.natAbs) = a * b := by
  unfold wval
  have e : ((a.natAbs * b.natAbs : Nat) : Int) = (a.natAbs : Int) * (b.natAbs : Int) := by simp
  rw [e]
  by_cases ha : a < 0 <;> by_cases hb : b < 0
  · rw [decide_eq_true ha, decide_eq_true hb, show (a.natAbs : Int) = -a from by omega, show (b.natAbs : Int) = -b from by omega]; simp; grind
  · rw [decide_eq_true ha, decide_eq_false hb, show (a.natAbs : Int) = -a from by omega, show (b.natAbs : Int) = b from by omega]; simp; grind
  · rw [decide_eq_false ha, decide_eq_true hb, show (a.natAbs : Int) = a from by omega, show (b.natAbs : Int) = -b from by omega]; simp; grind
  · rw [decide_eq_false ha, decide_eq_false hb, show (a.natAbs : Int) = a from by omega, show (b.natAbs : Int) = b from by omega]; simp
theorem wval_plus (s1 : Bool) (m1 : Nat) (s2 : Bool) (m2 : Nat) : wval (plusW s1 m1 s2 m2).1 (plusW s1 m1 s2 m2).2 = wval s1 m1 + wval s2 m2 := by
  unfold wval plusW
  cases s1 <;> cases s2
  · simp
  · by_cases h : m1 < m2 <;> simp [h] <;> omega
  · by_cases h : m1 < m2 <;> simp [h] <;> omega
  · simp; omega
theorem sgnW_sgn {s : Bool} {m : Nat} : sgnW s m = sgn (wval s m) := by
  unfold sgnW wval sgn
  by_cases h : m = 0
  · subst h; cases s <;> simp
  · rw [if_neg h]; cases s
    · simp; omega
    · simp; omega
end Go.Proofs.YtbjddimafilflaaGreatDoor

/- THE WALKS over package frac: Add. -/
namespace Go.Proofs.YtbjddimafilflaaGreatDoor
open Go.RowKit
theorem below_drew' {B : Nat} {a w : World} (h : Below B a w) : Below B a w.drew := below_drewN' h 1
/-- a new box of three cells, still as it was made -/
def BoxAt (H : Nat) (a b c : Value) (V : World) : Prop := V.cell? ⟨H, 0, none⟩ = some a ∧ V.cell? ⟨H, 1, none⟩ = some b ∧ V.cell? ⟨H, 2, none⟩ = some c ∧ V.frozen? ⟨H, 0, none⟩ = false ∧ V.frozen? ⟨H, 1, none⟩ = false ∧ V.frozen? ⟨H, 2, none⟩ = false ∧ H < V.heap.size
/-- where the fraction 0 lies -/
def ZeroAt (w : World) : Prop := w.cell? ⟨0, 0, none⟩ = some (.int .i64 0) ∧ w.cell? ⟨0, 1, none⟩ = some (.int .i64 1) ∧ 0 < w.heap.size
theorem ZeroAt.below {w w' : World} (h : ZeroAt w) (hb : Below w.heap.size w w') : ZeroAt w' := by
  obtain ⟨h0, h1, hs⟩ := h
  obtain ⟨hc, hf⟩ := bcell hb
  have := hb.size
  exact ⟨(hc _ _ hs).trans h0, (hc _ _ hs).trans h1, by omega⟩
/-- what Add's frame holds behind its sum -/
def AddSt (w : World) (H : Nat) (ad bd : Int) (s : Bool) (h l : Int) (V : World) : Prop :=
  Below w.heap.size w V ∧ (w.heap.size + 1 + 1 < H ∧ H < V.heap.size) ∧ V.cell? ⟨w.heap.size, 1, none⟩ = some (.int .i64 ad) ∧ V.cell? ⟨w.heap.size + 1, 1, none⟩ = some (.int .i64 bd) ∧
  (V.cell? ⟨w.heap.size + 1 + 1, 0, none⟩ = some (.int .i64 0) ∧ V.frozen? ⟨w.heap.size + 1 + 1, 0, none⟩ = false) ∧ (V.cell? ⟨w.heap.size + 1 + 1, 1, none⟩ = some (.int .i64 0) ∧ V.frozen? ⟨w.heap.size + 1 + 1, 1, none⟩ = false) ∧
  (V.cell? ⟨H, 0, none⟩ = some (.bool s) ∧ V.cell? ⟨H, 1, none⟩ = some (.int .u64 h) ∧ V.cell? ⟨H, 2, none⟩ = some (.int .u64 l)) ∧
  (V.cell? ⟨0, 0, none⟩ = some (.int .i64 0) ∧ V.cell? ⟨0, 1, none⟩ = some (.int .i64 1) ∧ 0 < w.heap.size)
theorem AddSt.step {w : World} {H : Nat} {ad bd : Int} {s : Bool} {h l : Int} {V V' : World} (q : AddSt w H ad bd s h l V) (hb : Below V.heap.size V V') : AddSt w H ad bd s h l V' := by
  obtain ⟨q0, ⟨q1, q2⟩, q3, q4, ⟨q5, q6⟩, ⟨q7, q8⟩, ⟨q9, q10, q11⟩, q12, q13, q14⟩ := q
  obtain ⟨hc, hf⟩ := bcell hb
  have hs := hb.size
  exact ⟨below_step q0 hb, ⟨q1, by omega⟩, (hc _ _ (by omega)).trans q3, (hc _ _ (by omega)).trans q4, ⟨(hc _ _ (by omega)).trans q5, (hf _ _ (by omega)).trans q6⟩, ⟨(hc _ _ (by omega)).trans q7, (hf _ _ (by omega)).trans q8⟩, ⟨(hc _ _ (by omega)).trans q9, (hc _ _ (by omega)).trans q10, (hc _ _ (by omega)).trans q11⟩, (hc _ _ (by omega)).trans q12, (hc _ _ (by omega)).trans q13, q14⟩
theorem AddSt.start {w W wc : World} {H : Nat} {ad bd : Int} {s : Bool} {h l : Int} (hz : ZeroAt w) (hbB : Below w.heap.size w W) (hbX : Below (w.heap.size + 1 + 1 + 1) W wc)
    (d1 : W.cell? ⟨w.heap.size, 1, none⟩ = some (.int .i64 ad)) (d3 : W.cell? ⟨w.heap.size + 1, 1, none⟩ = some (.int .i64 bd))
    (d4 : W.cell? ⟨w.heap.size + 1 + 1, 0, none⟩ = some (.int .i64 0)) (g4 : W.frozen? ⟨w.heap.size + 1 + 1, 0, none⟩ = false)
    (d5 : W.cell? ⟨w.heap.size + 1 + 1, 1, none⟩ = some (.int .i64 0)) (g5 : W.frozen? ⟨w.heap.size + 1 + 1, 1, none⟩ = false)
    (hH : w.heap.size + 1 + 1 < H) (hbox : BoxAt H (.bool s) (.int .u64 h) (.int .u64 l) wc) : AddSt w H ad bd s h l wc := by
  have hc : ∀ b o, b < w.heap.size + 1 + 1 + 1 → wc.cell? ⟨b, o, none⟩ = W.cell? ⟨b, o, none⟩ := fun b o k => hbX.cell (p := ⟨b, o, none⟩) k
  have hf : ∀ b o, b < w.heap.size + 1 + 1 + 1 → wc.frozen? ⟨b, o, none⟩ = W.frozen? ⟨b, o, none⟩ := fun b o k => hbX.frozen (p := ⟨b, o, none⟩) k
  have hb : Below w.heap.size w wc := hbB.trans (hbX.mono (by omega))
  obtain ⟨x0, x1, x2, -, -, -, yh⟩ := hbox
  obtain ⟨z0, z1, z2⟩ := hz
  obtain ⟨hc0, -⟩ := bcell hb
  exact ⟨hb, ⟨hH, yh⟩, (hc _ _ (by omega)).trans d1, (hc _ _ (by omega)).trans d3, ⟨(hc _ _ (by omega)).trans d4, (hf _ _ (by omega)).trans g4⟩, ⟨(hc _ _ (by omega)).trans d5, (hf _ _ (by omega)).trans g5⟩, ⟨x0, x1, x2⟩, (hc0 _ _ z2).trans z0, (hc0 _ _ z2).trans z1, z2⟩
end Go.Proofs.YtbjddimafilflaaGreatDoor
