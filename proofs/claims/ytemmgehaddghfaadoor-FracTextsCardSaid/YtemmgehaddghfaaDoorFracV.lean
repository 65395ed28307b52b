/- THE WALK over the law's lives. -/
import Derived.Test.YtemmgehaddghfaaDoorFracN
namespace Go.Proofs.YtemmgehaddghfaaDoor
open Go.RowKit

/-- boxes of two numbers -/
def Boxes (V : World) : List (Nat × Int × Int) → Prop
  | [] => True
  | (H, n, d) :: L => (V.cell? ⟨H, 0, none⟩ = some (.int .i64 n) ∧ V.cell? ⟨H, 1, none⟩ = some (.int .i64 d) ∧ H < V.heap.size) ∧ Boxes V L

theorem Boxes.step {V V' : World} (hb : Below V.heap.size V V') : ∀ {L : List (Nat × Int × Int)}, Boxes V L → Boxes V' L
  | [], _ => trivial
  | (H, n, d) :: L, h => by
    obtain ⟨⟨h0, h1, h2⟩, h3⟩ := h
    obtain ⟨hc, hf⟩ := bcell hb
    have hs := hb.size
    exact ⟨⟨(hc _ _ h2).trans h0, (hc _ _ h2).trans h1, by omega⟩, Boxes.step hb h3⟩

theorem Boxes.push {V : World} {L : List (Nat × Int × Int)} (h : Boxes V L) (n d : Int) (t : TypeId) : Boxes (V.alloc (.cells #[.int .i64 n, .int .i64 d] t)) ((V.heap.size, n, d) :: L) :=
  ⟨⟨by go_simp, by go_simp, by simp⟩, h.step ((Below.refl _ _).alloc (Nat.le_refl _) _)⟩

/-- what the law's frame holds: its boxes, and the laid variables -/
def LivesSt (w : World) (L : List (Nat × Int × Int)) (V : World) : Prop := Below w.heap.size w V ∧ Boxes V L ∧ ZeroAt V ∧ LaidW V

theorem LivesSt.step {w V V' : World} {L : List (Nat × Int × Int)} (h : LivesSt w L V) (hb : Below V.heap.size V V') : LivesSt w L V' :=
  ⟨below_step h.1 hb, h.2.1.step hb, h.2.2.1.below hb, h.2.2.2.below hb⟩

theorem LivesSt.push {w V : World} {L : List (Nat × Int × Int)} (h : LivesSt w L V) (n d : Int) (t : TypeId) : LivesSt w ((V.heap.size, n, d) :: L) (V.alloc (.cells #[.int .i64 n, .int .i64 d] t)) :=
  have hb := (Below.refl V.heap.size V).alloc (Nat.le_refl _) (.cells #[.int .i64 n, .int .i64 d] t)
  ⟨below_step h.1 hb, h.2.1.push n d t, h.2.2.1.below hb, h.2.2.2.below hb⟩

theorem LivesSt.start {w : World} (hz : ZeroAt w) (hw : LaidW w) : LivesSt w [] w := ⟨Below.refl _ _, trivial, hz, hw⟩

theorem LivesSt.zero {w V : World} {L : List (Nat × Int × Int)} (h : LivesSt w L V) : ZeroAt V := h.2.2.1

theorem LivesSt.laid {w V : World} {L : List (Nat × Int × Int)} (h : LivesSt w L V) : LaidW V := h.2.2.2

theorem frac_ParseL (l : List UInt8) (w : World) (hw : LaidW w) (hs : l.length ≤ 281474976710656) :
    Calls Tryd.prog 24 #[.string ⟨l.toArray⟩] w (FracIs (parseS l) w) := frac_Parse ⟨l.toArray⟩ w hw hs

theorem text_m32 : textS (-3) 2 = [45, 51, 47, 50] := by
  have h1 : Lib.itoa (-3) = [45, 51] := by rw [Lib.itoa, if_pos (by decide), decDigits_rec]; rfl
  have h2 : Lib.itoa 2 = [50] := by rw [Lib.itoa, if_neg (by decide), decDigits_rec]; rfl
  unfold textS
  rw [if_pos (by decide), if_neg (by decide), h1, h2]; rfl

theorem parse_m32 : parseS [45, 51, 47, 50] = (-3, 2, true) := by rw [← text_m32]; exact parseS_text (by decide)

theorem parse_64 : parseS [54, 47, 52] = (0, 0, false) := by
  have h1 : Lib.itoa 6 = [54] := by rw [Lib.itoa, if_neg (by decide), decDigits_rec]; rfl
  have h2 : Lib.itoa 4 = [52] := by rw [Lib.itoa, if_neg (by decide), decDigits_rec]; rfl
  refine parse_no_parts (.inr (.inr ?_))
  rw [show cutA [54, 47, 52] = [54] from by decide, show cutC [54, 47, 52] = true from by decide, show cutB [54, 47, 52] = [52] from by decide]
  simp only [if_true]
  rw [(parse_yes (n := 6) (by decide) h1).2, (parse_yes (n := 4) (by decide) h2).2]
  decide

set_option maxRecDepth 100000 in
set_option maxHeartbeats 3200000 in
theorem law_lives (w : World) (hz : ZeroAt w) (hw : LaidW w) :
    Calls Tryd.prog 13 #[] w fun e w' => e = .returned (.bool true) ∧ Below w.heap.size w w' := by
  have st0 := Lib.hid (LivesSt.start hz hw)
  clear hz hw
  have a1 : ofS 6 (-4) = (-3, 2, true) := by decide
  have a2 : addS 1 1000000000000000 (-1) 1000000000000000 = (0, 1, true) := by decide
  have a3 : addS 1 6 1 10 = (4, 15, true) := by decide
  have a4 : divS 1 2 (-3) 4 = (-2, 3, true) := by decide
  have a5 : mulS 1000000000000000 1 2 1 = (0, 0, false) := by decide
  have a6 := parse_m32
  have a7 := parse_64
  have a8 : subS 1 2 1 3 = (1, 6, true) := by decide
  have a9 : validB 2 4 = false := by decide
  have b1 : validB (-3) 2 = true := by decide
  have b2 : cmpS 1 3 2 5 = -1 := by decide
  have b3 : floorS (-3) 2 = -2 := by decide
  have b4 := text_m32
  go_enter Tryd.func13, Tryd.ntmps13
  go_wp2_with fail
  refine (frac_Of 6 (-4) _).mono ?_
  rintro e w1 ⟨rfl, hb⟩
  have st1 := Lib.hid ((st0.out.step hb).push (-3) 2 23)
  clear hb
  go_wp2_with fail
  refine (frac_Add 1 1000000000000000 (-1) 1000000000000000 _ st1.out.zero).mono ?_
  rintro e w2 ⟨rfl, hb⟩
  have st2 := Lib.hid ((st1.out.step hb).push 0 1 23)
  clear hb
  go_wp2_with fail
  refine (frac_Add 1 6 1 10 _ st2.out.zero).mono ?_
  rintro e w3 ⟨rfl, hb⟩
  have st3 := Lib.hid ((st2.out.step hb).push 4 15 23)
  clear hb
  go_wp2_with fail
  refine (frac_Div 1 2 (-3) 4 _).mono ?_
  rintro e w4 ⟨rfl, hb⟩
  have st4 := Lib.hid ((st3.out.step hb).push (-2) 3 23)
  clear hb
  go_wp2_with fail
  refine (frac_Mul 1000000000000000 1 2 1 _).mono ?_
  rintro e w5 ⟨rfl, hb⟩
  have st5 := Lib.hid ((st4.out.step hb).push 0 0 23)
  clear hb
  go_wp2_with fail
  refine (frac_ParseL [45, 51, 47, 50] _ st5.out.laid (by decide)).mono ?_
  rintro e w6 ⟨rfl, hb⟩
  have st6 := Lib.hid ((st5.out.step hb).push (-3) 2 23)
  clear hb
  go_wp2_with fail
  refine (frac_ParseL [54, 47, 52] _ st6.out.laid (by decide)).mono ?_
  rintro e w7 ⟨rfl, hb⟩
  have st7 := Lib.hid ((st6.out.step hb).push 0 0 23)
  clear hb
  go_wp2_with fail
  refine (frac_Sub 1 2 1 3 _ st7.out.zero (by decide) (by decide)).mono ?_
  rintro e w8 ⟨rfl, hb⟩
  have st8 := Lib.hid ((st7.out.step hb).push 1 6 23)
  clear hb
  go_wp2_with fail
  refine (frac_Valid 2 4 _).mono ?_
  rintro e w9 ⟨rfl, hb⟩
  have st9 := Lib.hid (st8.out.step hb)
  clear hb
  obtain ⟨⟨p1a, p1b, p1c⟩, ⟨p2a, p2b, p2c⟩, ⟨p3a, p3b, p3c⟩, ⟨p4a, p4b, p4c⟩, ⟨p5a, p5b, p5c⟩, ⟨p6a, p6b, p6c⟩, ⟨p7a, p7b, p7c⟩, ⟨p8a, p8b, p8c⟩, -⟩ := st9.out.2.1
  go_wp2_with fail
  refine (frac_Valid (-3) 2 _).mono ?_
  rintro e w10 ⟨rfl, hb⟩
  have st10 := Lib.hid (st9.out.step hb)
  clear hb
  clear p1a p1b p1c p2a p2b p2c p3a p3b p3c p4a p4b p4c p5a p5b p5c p6a p6b p6c p7a p7b p7c p8a p8b p8c
  obtain ⟨⟨p1a, p1b, p1c⟩, ⟨p2a, p2b, p2c⟩, ⟨p3a, p3b, p3c⟩, ⟨p4a, p4b, p4c⟩, ⟨p5a, p5b, p5c⟩, ⟨p6a, p6b, p6c⟩, ⟨p7a, p7b, p7c⟩, ⟨p8a, p8b, p8c⟩, -⟩ := st10.out.2.1
  go_wp2_with fail
  refine (frac_Cmp 1 3 2 5 _ st10.out.zero).mono ?_
  rintro e w11 ⟨rfl, hb⟩
  have st11 := Lib.hid (st10.out.step hb)
  clear hb
  clear p1a p1b p1c p2a p2b p2c p3a p3b p3c p4a p4b p4c p5a p5b p5c p6a p6b p6c p7a p7b p7c p8a p8b p8c
  obtain ⟨⟨p1a, p1b, p1c⟩, ⟨p2a, p2b, p2c⟩, ⟨p3a, p3b, p3c⟩, ⟨p4a, p4b, p4c⟩, ⟨p5a, p5b, p5c⟩, ⟨p6a, p6b, p6c⟩, ⟨p7a, p7b, p7c⟩, ⟨p8a, p8b, p8c⟩, -⟩ := st11.out.2.1
  go_wp2_with fail
  refine (frac_Floor (-3) 2 _).mono ?_
  rintro e w12 ⟨rfl, hb⟩
  have st12 := Lib.hid (st11.out.step hb)
  clear hb
  clear p1a p1b p1c p2a p2b p2c p3a p3b p3c p4a p4b p4c p5a p5b p5c p6a p6b p6c p7a p7b p7c p8a p8b p8c
  obtain ⟨⟨p1a, p1b, p1c⟩, ⟨p2a, p2b, p2c⟩, ⟨p3a, p3b, p3c⟩, ⟨p4a, p4b, p4c⟩, ⟨p5a, p5b, p5c⟩, ⟨p6a, p6b, p6c⟩, ⟨p7a, p7b, p7c⟩, ⟨p8a, p8b, p8c⟩, -⟩ := st12.out.2.1
  go_wp2_with fail
  refine (frac_Text (-3) 2 _ st12.out.laid).mono ?_
  rintro e w13 ⟨rfl, hb⟩
  have st13 := Lib.hid (st12.out.step hb)
  clear hb
  clear p1a p1b p1c p2a p2b p2c p3a p3b p3c p4a p4b p4c p5a p5b p5c p6a p6b p6c p7a p7b p7c p8a p8b p8c
  obtain ⟨⟨p1a, p1b, p1c⟩, ⟨p2a, p2b, p2c⟩, ⟨p3a, p3b, p3c⟩, ⟨p4a, p4b, p4c⟩, ⟨p5a, p5b, p5c⟩, ⟨p6a, p6b, p6c⟩, ⟨p7a, p7b, p7c⟩, ⟨p8a, p8b, p8c⟩, -⟩ := st13.out.2.1
  go_wp2_with fail
  go_ret
  exact ⟨rfl, st13.out.1⟩
end Go.Proofs.YtemmgehaddghfaaDoor
