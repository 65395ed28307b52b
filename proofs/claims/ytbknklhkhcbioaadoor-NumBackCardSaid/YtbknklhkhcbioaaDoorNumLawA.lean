/- THE WALKS over the laws of chapter 1. -/
import Derived.Test.YtbknklhkhcbioaaDoorNumV
namespace Go.Proofs.YtbknklhkhcbioaaDoor
open Go.RowKit

theorem below_step {w w1 w2 : World} (h : Below w.heap.size w w1) (h2 : Below w1.heap.size w1 w2) : Below w.heap.size w w2 := h.trans (h2.mono h.size)

set_option maxHeartbeats 800000 in
theorem law_NumText (n : Int) (s : ByteArray) (w : World) (hw : LaidW w) (h1 : -9223372036854775808 ≤ n) (h2 : n ≤ 9223372036854775807) (hs : s.size ≤ 9223372036854775807) :
    Calls Tryd.prog 3 #[.int .i64 n, .string s] w fun e w' => e = .returned (.bool true) ∧ Below w.heap.size w w' := by
  have hb0 := Below.refl w.heap.size w
  by_cases h100 : 100 < s.size
  · go_enter Tryd.func3, Tryd.ntmps3
    go_wp2_with fail
    refine (law_alive _ (hw.below hb0)).mono ?_
    rintro e wz ⟨rfl, hbz⟩
    go_wp2
    go_ret
    exact ⟨rfl, below_step hb0 hbz⟩
  · have hsm : s.size ≤ 281474976710656 := by omega
    go_enter Tryd.func3, Tryd.ntmps3
    go_wp2_with fail
    refine (num_Parse s _ hw hsm).mono ?_
    rintro e wa ⟨rfl, ha⟩
    go_wp2_with fail
    refine (ref_Parse s _ hs).mono ?_
    rintro e wb ⟨rfl, hb'⟩
    have hb := below_step ha hb'
    clear hb'
    go_wp2_with fail
    refine (num_Text n _ (hw.below hb) h1 h2).mono ?_
    rintro e wc ⟨rfl, hc'⟩
    have hc := below_step hb hc'
    clear hc'
    go_wp2_with fail
    refine (ref_Text n _ h1 h2).mono ?_
    rintro e wd ⟨rfl, hd'⟩
    have hd := below_step hc hd'
    clear hd'
    go_wp2_with fail
    refine (law_same _ _ _ _ _).mono ?_
    rintro e we ⟨rfl, rfl⟩
    have eq1 : (parseV s.data.toList == parseV s.data.toList && parseB s.data.toList == parseB s.data.toList) = true := by simp
    rw [eq1]
    go_wp2_with fail
    refine (law_alive _ (hw.below hd)).mono ?_
    rintro e wz ⟨rfl, hbz⟩
    go_wp2
    go_ret
    exact ⟨rfl, below_step hd hbz⟩

set_option maxHeartbeats 1600000 in
theorem law_NumArith (a b : Int) (w : World) (hw : LaidW w) :
    Calls Tryd.prog 6 #[.int .i64 a, .int .i64 b] w fun e w' => e = .returned (.bool true) ∧ Below w.heap.size w w' := by
  have e1 : (addV a b == addV a b && addB a b == addB a b) = true := by simp
  have e2 : (subV a b == subV a b && subB a b == subB a b) = true := by simp
  have e3 : (mulV a b == mulV a b && mulB a b == mulB a b) = true := by simp
  have e4 : (divV a b == divV a b && divB a b == divB a b) = true := by simp
  have e5 : (modV a b == modV a b && divB a b == divB a b) = true := by simp
  go_enter Tryd.func6, Tryd.ntmps6
  go_wp2_with fail
  refine (num_Add a b _).mono ?_
  rintro e w' ⟨rfl, rfl⟩
  go_wp2_with fail
  refine (num_Sub a b _).mono ?_
  rintro e w' ⟨rfl, rfl⟩
  go_wp2_with fail
  refine (num_Mul a b _).mono ?_
  rintro e w' ⟨rfl, rfl⟩
  go_wp2_with fail
  refine (num_Div a b _).mono ?_
  rintro e w' ⟨rfl, rfl⟩
  go_wp2_with fail
  refine (num_Mod a b _).mono ?_
  rintro e w' ⟨rfl, rfl⟩
  go_wp2_with fail
  refine (ref_Add a b _).mono ?_
  rintro e w' ⟨rfl, rfl⟩
  go_wp2_with fail
  refine (ref_Sub a b _).mono ?_
  rintro e w' ⟨rfl, rfl⟩
  go_wp2_with fail
  refine (ref_Mul a b _).mono ?_
  rintro e w' ⟨rfl, rfl⟩
  go_wp2_with fail
  refine (ref_Div a b _).mono ?_
  rintro e w' ⟨rfl, rfl⟩
  go_wp2_with fail
  refine (ref_Mod a b _).mono ?_
  rintro e w' ⟨rfl, rfl⟩
  go_wp2_with fail
  refine (law_same _ _ _ _ _).mono ?_
  rintro e w' ⟨rfl, rfl⟩
  rw [e1]
  go_wp2_with fail
  refine (law_same _ _ _ _ _).mono ?_
  rintro e w' ⟨rfl, rfl⟩
  rw [e2]
  go_wp2_with fail
  refine (law_same _ _ _ _ _).mono ?_
  rintro e w' ⟨rfl, rfl⟩
  rw [e3]
  go_wp2_with fail
  refine (law_same _ _ _ _ _).mono ?_
  rintro e w' ⟨rfl, rfl⟩
  rw [e4]
  go_wp2_with fail
  refine (law_same _ _ _ _ _).mono ?_
  rintro e w' ⟨rfl, rfl⟩
  rw [e5]
  go_wp2_with fail
  refine (num_Gcd a b _).mono ?_
  rintro e w' ⟨rfl, n, rfl⟩
  have hb := below_drewN' (Below.refl w.heap.size w) n
  generalize w.drewN n = w1 at hb ⊢
  go_wp2_with fail
  refine (ref_Gcd a b _).mono ?_
  rintro e w' ⟨rfl, rfl⟩
  go_wp2_with fail
  refine (num_In a _).mono ?_
  rintro e w' ⟨rfl, rfl⟩
  go_wp2_with fail
  refine (ref_In a _).mono ?_
  rintro e w' ⟨rfl, rfl⟩
  go_wp2_with fail
  refine (law_alive _ (hw.below hb)).mono ?_
  rintro e wz ⟨rfl, hbz⟩
  go_wp2
  go_ret
  exact ⟨rfl, below_step hb hbz⟩

end Go.Proofs.YtbknklhkhcbioaaDoor
