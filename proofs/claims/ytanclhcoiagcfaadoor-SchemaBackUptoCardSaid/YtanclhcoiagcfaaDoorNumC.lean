/- THE WALKS over package num: Gcd, Div, Mod; the law's same. -/
import Derived.Test.YtanclhcoiagcfaaDoorNumB
namespace Go.Proofs.YtanclhcoiagcfaaDoor
open Go.RowKit

/-- the greatest common divisor, 0 out of range -/
def gcdV (a b : Int) : Int := if bothB a b then (Nat.gcd a.natAbs b.natAbs : Int) else 0

theorem gcdV_yes {a b : Int} (ha : inB a = true) (hb : inB b = true) : gcdV a b = (Nat.gcd a.natAbs b.natAbs : Int) := by
  unfold gcdV bothB; rw [ha, hb]; rfl

theorem gcdV_no {a b : Int} (h : bothB a b = false) : gcdV a b = 0 := by unfold gcdV; rw [h]; rfl

theorem gcd_step (x y : Nat) : Nat.gcd y (x % y) = Nat.gcd x y := by
  rw [Nat.gcd_comm x y, Nat.gcd_rec y x, Nat.gcd_comm]

/-- may one divide -/
def divB (a b : Int) : Bool := bothB a b && b != 0

def divV (a b : Int) : Int := if divB a b then a.tdiv b else 0

def modV (a b : Int) : Int := if divB a b then a.tmod b else 0

theorem divB_yes {a b : Int} (ha : inB a = true) (hb : inB b = true) (h : b ≠ 0) : divB a b = true := by
  rw [divB, bothB, ha, hb, bne_iff_ne.2 h]; rfl

theorem divB_zero (a : Int) : divB a 0 = false := by simp [divB]

theorem divB_out {a b : Int} (h : bothB a b = false) : divB a b = false := by rw [divB, h]; rfl

theorem tdiv_in {a b : Int} (h1 : -1000000000000000 ≤ a) (h2 : a ≤ 1000000000000000) : -1000000000000000 ≤ a.tdiv b ∧ a.tdiv b ≤ 1000000000000000 := by
  have : (a.tdiv b).natAbs ≤ a.natAbs := by rw [Int.natAbs_tdiv]; exact Nat.div_le_self _ _
  omega

theorem tmod_in {a b : Int} (h1 : -1000000000000000 ≤ a) (h2 : a ≤ 1000000000000000) : -1000000000000000 ≤ a.tmod b ∧ a.tmod b ≤ 1000000000000000 := by
  have : (a.tmod b).natAbs ≤ a.natAbs := by rw [Int.natAbs_tmod]; exact Nat.mod_le _ _
  omega

end Go.Proofs.YtanclhcoiagcfaaDoor
