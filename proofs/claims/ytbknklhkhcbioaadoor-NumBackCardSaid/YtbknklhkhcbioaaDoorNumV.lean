/- THE WALK over the law's alive. -/
import Derived.Test.YtbknklhkhcbioaaDoorNumP
import Derived.Deep.Draws
namespace Go.Proofs.YtbknklhkhcbioaaDoor
open Go.RowKit

theorem itoa_m5 : Lib.itoa (-5) = [45, 53] := by rw [Lib.itoa, if_pos (by decide), decDigits_rec]; rfl
theorem itoa_0 : Lib.itoa 0 = [48] := by rw [Lib.itoa, if_neg (by decide), decDigits_rec]; rfl
theorem itoa_m120 : Lib.itoa (-120) = [45, 49, 50, 48] := by
  rw [Lib.itoa, if_pos (by decide), decDigits_rec, if_neg (by decide), decDigits_rec, if_neg (by decide), decDigits_rec, if_pos (by decide)]; rfl
theorem parse_m5 : parseV [45, 53] = -5 ∧ parseB [45, 53] = true := ⟨(parse_yes (n := -5) (by decide) itoa_m5).2, (parse_yes (n := -5) (by decide) itoa_m5).1⟩
theorem parse_m0 : parseV [45, 48] = 0 ∧ parseB [45, 48] = false := by
  have h : parseB [45, 48] = false := by
    unfold parseB
    rw [show numOf [45, 48] = 0 from by decide, itoa_0]; decide
  exact ⟨by unfold parseV; rw [h]; rfl, h⟩
theorem below_drewN' {B : Nat} {a w : World} (h : Below B a w) (n : Nat) : Below B a (w.drewN n) := h.trans ⟨rfl, rfl, rfl, Nat.le_refl _, fun _ _ => rfl⟩

set_option maxRecDepth 100000 in
set_option maxHeartbeats 1600000 in
theorem law_alive (w : World) (hw : LaidW w) :
    Calls Tryd.prog 9 #[] w fun e w' => e = .returned (.bool true) ∧ Below w.heap.size w w' := by
  have a1 : addV 2 3 = 5 := by decide
  have a2 : addB 2 3 = true := by decide
  have a3 : addV 1000000000000000 1 = 0 := by decide
  have a4 : addB 1000000000000000 1 = false := by decide
  have a5 : divV (-7) 2 = -3 := by decide
  have a6 : divB (-7) 2 = true := by decide
  have a7 : modV (-7) 2 = -1 := by decide
  have a8 : mulV 100000000 10000000 = 1000000000000000 := by decide
  have a9 : mulB 100000000 10000000 = true := by decide
  have b1 : gcdV 12 (-18) = 6 := by decide
  have b2 : inB 1000000000000000 = true := by decide
  have b3 : inB (-1000000000000001) = false := by decide
  have b4 := parse_m5.1
  have b5 := parse_m5.2
  have b6 := parse_m0.1
  have b7 := parse_m0.2
  have b8 := itoa_m120
  go_enter Tryd.func9, Tryd.ntmps9
  go_wp2_with (first | (go_at_call 19; refine (num_Add _ _ _).mono ?_; rintro e w' ⟨rfl, rfl⟩) | (go_at_call 16; refine (num_Div _ _ _).mono ?_; rintro e w' ⟨rfl, rfl⟩) | (go_at_call 17; refine (num_Mod _ _ _).mono ?_; rintro e w' ⟨rfl, rfl⟩) | (go_at_call 21; refine (num_Mul _ _ _).mono ?_; rintro e w' ⟨rfl, rfl⟩))
  refine (num_Parse ⟨#[45, 53]⟩ _ hw (by decide)).mono ?_
  rintro e w1 ⟨rfl, hb1⟩
  go_wp2_with fail
  refine (num_Parse ⟨#[45, 48]⟩ _ (hw.below hb1) (by decide)).mono ?_
  rintro e w2 ⟨rfl, hb2'⟩
  have hb2 := hb1.trans (hb2'.mono hb1.size)
  clear hb2'
  go_wp2_with fail
  refine (num_Gcd 12 (-18) _).mono ?_
  rintro e w3 ⟨rfl, n, rfl⟩
  have hb3 := below_drewN' hb2 n
  generalize w2.drewN n = w3 at hb3 ⊢
  go_wp2_with fail
  refine (num_Text (-120) _ (hw.below hb3) (by decide) (by decide)).mono ?_
  rintro e w4 ⟨rfl, hb4⟩
  go_wp2_with (go_at_call 15; refine (num_In _ _).mono ?_; rintro e w' ⟨rfl, rfl⟩)
  go_ret
  exact ⟨rfl, hb3.trans (hb4.mono hb3.size)⟩
end Go.Proofs.YtbknklhkhcbioaaDoor
