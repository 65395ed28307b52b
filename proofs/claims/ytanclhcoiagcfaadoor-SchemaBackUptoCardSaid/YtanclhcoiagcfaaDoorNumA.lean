/- THE WALKS over package num: In, ranged, Add, Sub, abs, Mul, Div, Mod. -/
import Derived.Test.YtanclhcoiagcfaaDoorProg
import Derived.WalkKit
import Derived.WalkSpells
import Derived.WalkLawsBesides
import Derived.Lib.Hide
import Derived.Test.YtanclhcoiagcfaaDoorPlainA
namespace Go.Proofs.YtanclhcoiagcfaaDoor
open Go.RowKit

set_option maxHeartbeats 400000 in
theorem num_In (n : Int) (w : World) :
    Calls Tryd.prog 42 #[.int .i64 n] w fun e w' => e = .returned (.bool (inB n)) ∧ w = w' := by
  go_enter Tryd.func42, Tryd.ntmps42
  go_wp2
  all_goals go_ret
  all_goals (unfold inB; simp [*]; try omega)

/-- n if it is in range, else 0 -/
def rangedV (n : Int) : Int := if inB n then n else 0

theorem rangedV_true {n : Int} (h : inB n = true) : rangedV n = n := by unfold rangedV; rw [if_pos h]

theorem rangedV_false {n : Int} (h : inB n = false) : rangedV n = 0 := by unfold rangedV; rw [h]; rfl

/-- both in range -/
def bothB (a b : Int) : Bool := inB a && inB b

/-- the sum, if all is in range -/
def addV (a b : Int) : Int := if bothB a b then rangedV (a + b) else 0

def addB (a b : Int) : Bool := bothB a b && inB (a + b)

def subV (a b : Int) : Int := if bothB a b then rangedV (a - b) else 0

def subB (a b : Int) : Bool := bothB a b && inB (a - b)

end Go.Proofs.YtanclhcoiagcfaaDoor
