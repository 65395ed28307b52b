/- THE WALKS over package num: abs, Mul, Div, Mod, Gcd, and the law's same. -/
import Derived.Test.YtanclhcoiagcfaaDoorNumA
import Derived.Deep.QuietTactic
import Derived.BigQuiet
namespace Go.Proofs.YtanclhcoiagcfaaDoor
open Go.RowKit

theorem ret_int {k : IntKind} {a b : Int} (h : a = b) : Ending.returned (.int k a) = .returned (.int k b) := by rw [h]

theorem ret_int_bool {k : IntKind} {a b : Int} {p q : Bool} (h : a = b) (g : p = q) : Ending.returned (.tuple #[.int k a, .bool p]) = .returned (.tuple #[.int k b, .bool q]) := by rw [h, g]

/-- the product, if all is in range -/
def mulB (a b : Int) : Bool := bothB a b && inB (a * b)

def mulV (a b : Int) : Int := if mulB a b then a * b else 0

theorem mulB_zero {b : Int} (h : inB b = true) : mulB 0 b = true := by
  rw [mulB, bothB, h, Int.zero_mul]; rfl

theorem mul_big {a b : Int} (ha : a ≠ 0) : (1000000000000000 / (a.natAbs : Int) < (b.natAbs : Int)) ↔ (a * b < -1000000000000000 ∨ 1000000000000000 < a * b) := by
  have h0 : (0 : Int) < (a.natAbs : Int) := by omega
  rw [Int.ediv_lt_iff_lt_mul h0]
  have e : ((b.natAbs : Int) * (a.natAbs : Int)) = ((a * b).natAbs : Int) := by rw [Int.natAbs_mul, Int.natCast_mul, Int.mul_comm]
  rw [e]; omega

theorem mulB_big {a b : Int} (ha : a ≠ 0) (h : 1000000000000000 / (a.natAbs : Int) < (b.natAbs : Int)) : mulB a b = false := by
  have := (mul_big (b := b) ha).1 h
  rw [mulB, inB_false.2 this, Bool.and_false]

theorem mulB_small {a b : Int} (ha : a ≠ 0) (h1 : inB a = true) (h2 : inB b = true) (h : (b.natAbs : Int) ≤ 1000000000000000 / (a.natAbs : Int)) : mulB a b = true ∧ -1000000000000000 ≤ a * b ∧ a * b ≤ 1000000000000000 := by
  have : ¬ (a * b < -1000000000000000 ∨ 1000000000000000 < a * b) := fun k => by have := (mul_big (b := b) ha).2 k; omega
  refine ⟨?_, by omega, by omega⟩
  rw [mulB, bothB, h1, h2, inB_true.2 (by omega)]; rfl

theorem mulB_out {a b : Int} (h : bothB a b = false) : mulB a b = false := by rw [mulB, h]; rfl

theorem mul_yes {a b : Int} (h : mulB a b = true) : mulV a b = a * b := by unfold mulV; rw [if_pos h]

theorem mul_no {a b : Int} (h : mulB a b = false) : mulV a b = 0 := by unfold mulV; rw [h]; rfl

end Go.Proofs.YtanclhcoiagcfaaDoor
