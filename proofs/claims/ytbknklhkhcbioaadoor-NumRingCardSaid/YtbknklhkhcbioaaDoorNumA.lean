/- THE WALKS over package num: In, ranged, Add, Sub, abs, Mul, Div, Mod. -/
import Derived.Test.YtbknklhkhcbioaaDoorProg
import Derived.WalkKit
import Derived.WalkSpells
import Derived.WalkLawsBesides
import Derived.Lib.Hide
import Derived.Test.YtbknklhkhcbioaaDoorPlainA
namespace Go.Proofs.YtbknklhkhcbioaaDoor
open Go.RowKit

set_option maxHeartbeats 400000 in
theorem num_In (n : Int) (w : World) :
    Calls Tryd.prog 15 #[.int .i64 n] w fun e w' => e = .returned (.bool (inB n)) ∧ w = w' := by
  go_enter Tryd.func15, Tryd.ntmps15
  go_wp2
  all_goals go_ret
  all_goals (unfold inB; simp [*]; try omega)

set_option maxHeartbeats 400000 in
theorem ref_In (n : Int) (w : World) :
    Calls Tryd.prog 28 #[.int .i64 n] w fun e w' => e = .returned (.bool (inB n)) ∧ w = w' := by
  go_enter Tryd.func28, Tryd.ntmps28
  go_wp2
  all_goals go_ret
  all_goals (unfold inB; simp [*]; try omega)

/-- n if it is in range, else 0 -/
def rangedV (n : Int) : Int := if inB n then n else 0
theorem rangedV_true {n : Int} (h : inB n = true) : rangedV n = n := by unfold rangedV; rw [if_pos h]
theorem rangedV_false {n : Int} (h : inB n = false) : rangedV n = 0 := by unfold rangedV; rw [h]; rfl

set_option maxHeartbeats 400000 in
theorem num_ranged (n : Int) (w : World) :
    Calls Tryd.prog 32 #[.int .i64 n] w fun e w' => e = .returned (.tuple #[.int .i64 (rangedV n), .bool (inB n)]) ∧ w = w' := by
  cases h : inB n
  all_goals
    go_enter Tryd.func32, Tryd.ntmps32
    go_wp2_with (go_at_call 15; refine (num_In _ _).mono ?_; rintro e w' ⟨rfl, rfl⟩)
    go_ret2
    simp [rangedV, h]

set_option maxHeartbeats 400000 in
theorem ref_given (n : Int) (w : World) :
    Calls Tryd.prog 33 #[.int .i64 n] w fun e w' => e = .returned (.tuple #[.int .i64 (rangedV n), .bool (inB n)]) ∧ w = w' := by
  cases h : inB n
  all_goals
    go_enter Tryd.func33, Tryd.ntmps33
    go_wp2_with (go_at_call 28; refine (ref_In _ _).mono ?_; rintro e w' ⟨rfl, rfl⟩)
    go_ret2
    simp [rangedV, h]

/-- both in range -/
def bothB (a b : Int) : Bool := inB a && inB b
/-- the sum, if all is in range -/
def addV (a b : Int) : Int := if bothB a b then rangedV (a + b) else 0
def addB (a b : Int) : Bool := bothB a b && inB (a + b)
def subV (a b : Int) : Int := if bothB a b then rangedV (a - b) else 0
def subB (a b : Int) : Bool := bothB a b && inB (a - b)

set_option maxHeartbeats 400000 in
theorem num_Add (a b : Int) (w : World) :
    Calls Tryd.prog 19 #[.int .i64 a, .int .i64 b] w fun e w' => e = .returned (.tuple #[.int .i64 (addV a b), .bool (addB a b)]) ∧ w = w' := by
  rcases inB_cases a with ⟨ha, ha1, ha2⟩ | ⟨ha, ha1⟩
  · rcases inB_cases b with ⟨hb, hb1, hb2⟩ | ⟨hb, hb1⟩
    all_goals
      go_enter Tryd.func19, Tryd.ntmps19
      go_wp2_with (first | (go_at_call 15; refine (num_In _ _).mono ?_; rintro e w' ⟨rfl, rfl⟩) | (go_at_call 32; refine (num_ranged _ _).mono ?_; rintro e w' ⟨rfl, rfl⟩))
      go_ret2
      simp [addV, addB, bothB, ha, hb]
  · go_enter Tryd.func19, Tryd.ntmps19
    go_wp2_with (first | (go_at_call 15; refine (num_In _ _).mono ?_; rintro e w' ⟨rfl, rfl⟩) | (go_at_call 32; refine (num_ranged _ _).mono ?_; rintro e w' ⟨rfl, rfl⟩))
    go_ret2
    simp [addV, addB, bothB, ha]

set_option maxHeartbeats 400000 in
theorem ref_Add (a b : Int) (w : World) :
    Calls Tryd.prog 22 #[.int .i64 a, .int .i64 b] w fun e w' => e = .returned (.tuple #[.int .i64 (addV a b), .bool (addB a b)]) ∧ w = w' := by
  rcases inB_cases a with ⟨ha, ha1, ha2⟩ | ⟨ha, ha1⟩
  · rcases inB_cases b with ⟨hb, hb1, hb2⟩ | ⟨hb, hb1⟩
    all_goals
      go_enter Tryd.func22, Tryd.ntmps22
      go_wp2_with (first | (go_at_call 28; refine (ref_In _ _).mono ?_; rintro e w' ⟨rfl, rfl⟩) | (go_at_call 33; refine (ref_given _ _).mono ?_; rintro e w' ⟨rfl, rfl⟩))
      go_ret2
      simp [addV, addB, bothB, ha, hb]
  · go_enter Tryd.func22, Tryd.ntmps22
    go_wp2_with (first | (go_at_call 28; refine (ref_In _ _).mono ?_; rintro e w' ⟨rfl, rfl⟩) | (go_at_call 33; refine (ref_given _ _).mono ?_; rintro e w' ⟨rfl, rfl⟩))
    go_ret2
    simp [addV, addB, bothB, ha]

set_option maxHeartbeats 400000 in
theorem num_Sub (a b : Int) (w : World) :
    Calls Tryd.prog 20 #[.int .i64 a, .int .i64 b] w fun e w' => e = .returned (.tuple #[.int .i64 (subV a b), .bool (subB a b)]) ∧ w = w' := by
  rcases inB_cases a with ⟨ha, ha1, ha2⟩ | ⟨ha, ha1⟩
  · rcases inB_cases b with ⟨hb, hb1, hb2⟩ | ⟨hb, hb1⟩
    all_goals
      go_enter Tryd.func20, Tryd.ntmps20
      go_wp2_with (first | (go_at_call 15; refine (num_In _ _).mono ?_; rintro e w' ⟨rfl, rfl⟩) | (go_at_call 32; refine (num_ranged _ _).mono ?_; rintro e w' ⟨rfl, rfl⟩))
      go_ret2
      simp [subV, subB, bothB, ha, hb]
  · go_enter Tryd.func20, Tryd.ntmps20
    go_wp2_with (first | (go_at_call 15; refine (num_In _ _).mono ?_; rintro e w' ⟨rfl, rfl⟩) | (go_at_call 32; refine (num_ranged _ _).mono ?_; rintro e w' ⟨rfl, rfl⟩))
    go_ret2
    simp [subV, subB, bothB, ha]

set_option maxHeartbeats 400000 in
theorem ref_Sub (a b : Int) (w : World) :
    Calls Tryd.prog 23 #[.int .i64 a, .int .i64 b] w fun e w' => e = .returned (.tuple #[.int .i64 (subV a b), .bool (subB a b)]) ∧ w = w' := by
  rcases inB_cases a with ⟨ha, ha1, ha2⟩ | ⟨ha, ha1⟩
  · rcases inB_cases b with ⟨hb, hb1, hb2⟩ | ⟨hb, hb1⟩
    all_goals
      go_enter Tryd.func23, Tryd.ntmps23
      go_wp2_with (first | (go_at_call 28; refine (ref_In _ _).mono ?_; rintro e w' ⟨rfl, rfl⟩) | (go_at_call 33; refine (ref_given _ _).mono ?_; rintro e w' ⟨rfl, rfl⟩))
      go_ret2
      simp [subV, subB, bothB, ha, hb]
  · go_enter Tryd.func23, Tryd.ntmps23
    go_wp2_with (first | (go_at_call 28; refine (ref_In _ _).mono ?_; rintro e w' ⟨rfl, rfl⟩) | (go_at_call 33; refine (ref_given _ _).mono ?_; rintro e w' ⟨rfl, rfl⟩))
    go_ret2
    simp [subV, subB, bothB, ha]

end Go.Proofs.YtbknklhkhcbioaaDoor
