/- PARTS OF THE WALKS, joined: CpL, CpM, CLaid, CpN, CpO. -/
import Derived.Test.YtnheioehadldmaaU18
import Derived.Test.YtnheioehadldmaaU05
/- THE WALK over the law's lives. -/
namespace Go.Proofs.Ytnheioehadldmaa
open Go.RowKit
theorem sh_two (w : World) (x y : Sh) : Shares (w.alloc (.cells #[.int .i64 x.id, .int .i64 x.n, .int .i64 x.d, .int .i64 y.id, .int .i64 y.n, .int .i64 y.d] 54)) (fun _ => True) (some ⟨w.heap.size, 0, none⟩) [x, y] := by
 refine ⟨by show 2 ≤ 140737488355328; decide, fun _ => ⟨_, _, rfl, fun k hk => ?_⟩⟩
 have hk2 : k = 0 ∨ k = 1 := by have h : k < 2 := hk; omega
 rcases hk2 with rfl | rfl
 ·exact ⟨trivial, by go_simp, by go_simp, by go_simp⟩
 ·exact ⟨trivial, by go_simp, by go_simp, by go_simp⟩
theorem by_seven (w : World) : Byts (w.alloc (.cells #[.int .u8 1, .int .u8 1, .int .u8 2, .int .u8 2, .int .u8 2, .int .u8 2, .int .u8 2] 5)) (fun _ => True) (some ⟨w.heap.size, 0, none⟩) [1, 1, 2, 2, 2, 2, 2] := by
 refine ⟨by show 7 ≤ 140737488355328; decide, fun _ => ⟨_, _, rfl, fun k hk => ?_⟩⟩
 have hk7 : k = 0 ∨ k = 1 ∨ k = 2 ∨ k = 3 ∨ k = 4 ∨ k = 5 ∨ k = 6 := by have h : k < 7 := hk; omega
 rcases hk7 with rfl | rfl | rfl | rfl | rfl | rfl | rfl <;> exact ⟨trivial, by go_simp⟩
theorem by_three (w : World) : Byts (w.alloc (.cells #[.int .u8 1, .int .u8 1, .int .u8 0] 5)) (fun _ => True) (some ⟨w.heap.size, 0, none⟩) [1, 1, 0] := by
 refine ⟨by show 3 ≤ 140737488355328; decide, fun _ => ⟨_, _, rfl, fun k hk => ?_⟩⟩
 have hk3 : k = 0 ∨ k = 1 ∨ k = 2 := by have h : k < 3 := hk; omega
 rcases hk3 with rfl | rfl | rfl <;> exact ⟨trivial, by go_simp⟩
theorem nu_one (w : World) (x : Int) : Nums (w.alloc (.cells #[.int .i64 x] 3)) (fun _ => True) (some ⟨w.heap.size, 0, none⟩) [x] := by
 refine ⟨by show 1 ≤ 140737488355328; decide, fun _ => ⟨_, _, rfl, fun k hk => ?_⟩⟩
 have hk1 : k = 0 := by have h : k < 1 := hk; omega
 subst hk1
 exact ⟨trivial, by go_simp⟩
theorem nu_two (w : World) (x y : Int) : Nums (w.alloc (.cells #[.int .i64 x, .int .i64 y] 3)) (fun _ => True) (some ⟨w.heap.size, 0, none⟩) [x, y] := by
 refine ⟨by show 2 ≤ 140737488355328; decide, fun _ => ⟨_, _, rfl, fun k hk => ?_⟩⟩
 have hk2 : k = 0 ∨ k = 1 := by have h : k < 2 := hk; omega
 rcases hk2 with rfl | rfl <;> exact ⟨trivial, by go_simp⟩
theorem lv_Of1 (W : World) : Calls Try.prog 8 #[.slice (some ⟨W.heap.size, 0, none⟩) 2 2] (W.alloc (.cells #[.int .i64 1, .int .i64 3, .int .i64 2, .int .i64 1, .int .i64 2, .int .i64 1] 54)) fun e w' => ∃ A B C D k0 k1 k2 k3, e = .returned (.tuple #[.agg #[.slice A 1 k0, .slice B 2 k1, .slice C 2 k2, .slice D 2 k3], .int .i64 0]) ∧ ColAt w' (fun _ => True) A B C D wantC ∧ Ext (W.alloc (.cells #[.int .i64 1, .int .i64 3, .int .i64 2, .int .i64 1, .int .i64 2, .int .i64 1] 54)) w' := by
 have h := co_Of listL _ _ 2 _ (sh_two W ⟨1, 3, 2⟩ ⟨1, 2, 1⟩) (by decide)
 rw [live_0] at h
 exact h.mono (fun e w' ⟨A, B, C, D, k0, k1, k2, k3, h1, h2, h3⟩ => ⟨A, B, C, D, k0, k1, k2, k3, h1, h2.to (fun _ _ => trivial), h3⟩)
theorem lv_Of2 (W : World) : Calls Try.prog 8 #[.slice (some ⟨W.heap.size, 0, none⟩) 2 2] (W.alloc (.cells #[.int .i64 1, .int .i64 2, .int .i64 7, .int .i64 3, .int .i64 4, .int .i64 7] 54)) fun e w' => ∃ A B C D k0 k1 k2 k3, e = .returned (.tuple #[.agg #[.slice A 0 k0, .slice B 0 k1, .slice C 0 k2, .slice D 0 k3], .int .i64 7]) ∧ ColAt w' (fun _ => True) A B C D noCol ∧ Ext W w' := by
 have h := co_Of [⟨1, 2, 7⟩, ⟨3, 4, 7⟩] _ _ 2 _ (sh_two W ⟨1, 2, 7⟩ ⟨3, 4, 7⟩) (by decide)
 rw [live_1] at h
 exact h.mono (fun e w' ⟨A, B, C, D, k0, k1, k2, k3, h1, h2, h3⟩ => ⟨A, B, C, D, k0, k1, k2, k3, h1, h2.to (fun _ _ => trivial), ((Ext.refl W).alloc _).trans h3⟩)
theorem lv_Dec1 (W : World) : Calls Try.prog 19 #[.slice (some ⟨W.heap.size, 0, none⟩) 7 7] (W.alloc (.cells #[.int .u8 1, .int .u8 1, .int .u8 2, .int .u8 2, .int .u8 2, .int .u8 2, .int .u8 2] 5)) fun e w' => ∃ A B C D k0 k1 k2 k3, e = .returned (.tuple #[.agg #[.slice A 1 k0, .slice B 2 k1, .slice C 2 k2, .slice D 2 k3], .int .i64 0]) ∧ ColAt w' (fun _ => True) A B C D wantC ∧ Ext W w' := by
 have h := co_Decode [1, 1, 2, 2, 2, 2, 2] _ _ 7 _ (by_seven W) (by decide) (by decide) (by decide)
 rw [live_3] at h
 exact h.mono (fun e w' ⟨A, B, C, D, k0, k1, k2, k3, h1, h2, h3⟩ => ⟨A, B, C, D, k0, k1, k2, k3, h1, h2.to (fun _ _ => trivial), ((Ext.refl W).alloc _).trans h3⟩)
theorem lv_Dec2 (W : World) : Calls Try.prog 19 #[.slice (some ⟨W.heap.size, 0, none⟩) 3 3] (W.alloc (.cells #[.int .u8 1, .int .u8 1, .int .u8 0] 5)) fun e w' => ∃ A B C D k0 k1 k2 k3, e = .returned (.tuple #[.agg #[.slice A 0 k0, .slice B 0 k1, .slice C 0 k2, .slice D 0 k3], .int .i64 1]) ∧ ColAt w' (fun _ => True) A B C D noCol ∧ Ext W w' := by
 have h := co_Decode [1, 1, 0] _ _ 3 _ (by_three W) (by decide) (by decide) (by decide)
 rw [live_4] at h
 exact h.mono (fun e w' ⟨A, B, C, D, k0, k1, k2, k3, h1, h2, h3⟩ => ⟨A, B, C, D, k0, k1, k2, k3, h1, h2.to (fun _ _ => trivial), ((Ext.refl W).alloc _).trans h3⟩)
theorem lv_Bld (W : World) : Calls Try.prog 22 #[.agg #[.slice none 0 0, .slice none 0 0, .int .i64 1, .int .i64 1], .string ⟨#[]⟩, .int .i64 3] W fun e w' => ∃ A B C D k0 k1 k2 k3, e = .returned (.tuple #[.agg #[.slice A 0 k0, .slice B 0 k1, .slice C 0 k2, .slice D 0 k3], .int .i64 1]) ∧ ColAt w' (fun _ => True) A B C D noCol ∧ Ext W w' := by
 have h := co_Build ⟨[], [], 1, 1⟩ ByteArray.empty 3 (fun _ => True) none none 0 0 W ⟨SliceR.nil _ _ _, SliceR.nil _ _ _⟩ ⟨Nat.zero_le _, Nat.zero_le _⟩
 rw [live_5] at h
 exact h.mono (fun e w' ⟨A, B, C, D, k0, k1, k2, k3, h1, h2, h3⟩ => ⟨A, B, C, D, k0, k1, k2, k3, h1, h2.to (fun _ _ => trivial), h3⟩)
theorem lv_Enc (ok : Nat → Prop) (E0 E1 E2 E3 : Option Addr) (j0 j1 j2 j3 : Nat) (W : World) (hv : ColAt W ok E0 E1 E2 E3 wantC) : Calls Try.prog 21 #[.agg #[.slice E0 1 j0, .slice E1 2 j1, .slice E2 2 j2, .slice E3 2 j3]] W fun e w' => ∃ A' c', e = .returned (.slice A' 7 c') ∧ Byts w' (fun _ => True) A' [1, 1, 2, 2, 2, 2, 2] ∧ Ext W w' := by
 have h := co_Encode wantC ok E0 E1 E2 E3 j0 j1 j2 j3 W hv ⟨by decide, by decide⟩
 rw [live_2] at h
 exact h.mono (fun e w' ⟨A, c, h1, _, h2, h3⟩ => ⟨A, c, h1, SliceR.mono h2 (fun _ _ _ _ hx => ⟨trivial, hx.2⟩), h3⟩)
theorem lv_Same (ok : Nat → Prop) (E0 E1 E2 E3 : Option Addr) (j0 j1 j2 j3 : Nat) (W : World) (ok' : Nat → Prop) (A0 A1 A2 A3 : Option Addr) (k0 k1 k2 k3 : Nat) (hv : ColAt W ok E0 E1 E2 E3 wantC) (hu : ColAt W ok' A0 A1 A2 A3 wantC) : Calls Try.prog 10 #[.agg #[.slice A0 1 k0, .slice A1 2 k1, .slice A2 2 k2, .slice A3 2 k3], .agg #[.slice E0 1 j0, .slice E1 2 j1, .slice E2 2 j2, .slice E3 2 j3]] W fun e w' => e = .returned (.bool true) ∧ Ext W w' :=
 (r12_Same wantC wantC ok' ok A0 A1 A2 A3 E0 E1 E2 E3 k0 k1 k2 k3 j0 j1 j2 j3 W hu hv).mono (fun e w' ⟨h1, h2⟩ => ⟨h1.trans (by simp), h2⟩)
theorem lv_Byt (W : World) (ok : Nat → Prop) (A : Option Addr) (c : Nat) (hv : Byts W ok A [1, 1, 2, 2, 2, 2, 2]) : Calls Try.prog 20 #[.slice A 7 c, .slice (some ⟨W.heap.size, 0, none⟩) 7 7] (W.alloc (.cells #[.int .u8 1, .int .u8 1, .int .u8 2, .int .u8 2, .int .u8 2, .int .u8 2, .int .u8 2] 5)) fun e w' => e = .returned (.bool true) ∧ Ext W w' :=
 (r12_Bytes [1, 1, 2, 2, 2, 2, 2] [1, 1, 2, 2, 2, 2, 2] ok (fun _ => True) A _ c 7 _ (SliceR.mono hv (fun _ _ _ _ hx => ⟨hx.1, ((Ext.refl W).alloc _).cell hx.2⟩)) (by_seven W) (by decide) (by decide)).mono (fun e w' ⟨h1, h2⟩ => ⟨h1, ((Ext.refl W).alloc _).trans h2⟩)
theorem lv_Val (ok : Nat → Prop) (E0 E1 E2 E3 : Option Addr) (j0 j1 j2 j3 : Nat) (W : World) (hv : ColAt W ok E0 E1 E2 E3 wantC) : Calls Try.prog 12 #[.agg #[.slice E0 1 j0, .slice E1 2 j1, .slice E2 2 j2, .slice E3 2 j3]] W fun e w' => e = .returned (.bool true) ∧ Ext W w' :=
 (co_Valid wantC ok E0 E1 E2 E3 j0 j1 j2 j3 W hv (by decide)).mono (fun e w' ⟨h1, h2⟩ => ⟨by rw [h1, live_b], h2⟩)
theorem lv_Val2 (W : World) : Calls Try.prog 12 #[.agg #[.slice none 0 0, .slice (some ⟨W.heap.size, 0, none⟩) 1 1, .slice none 0 0, .slice none 0 0]] (W.alloc (.cells #[.int .i64 0] 3)) fun e w' => e = .returned (.bool true) ∧ Ext W w' :=
 (co_Valid ⟨[], [0], [], []⟩ (fun _ => True) none _ none none 0 1 0 0 _ ⟨SliceR.nil _ _ _, nu_one W 0, SliceR.nil _ _ _, SliceR.nil _ _ _⟩ (by decide)).mono (fun e w' ⟨h1, h2⟩ => ⟨by rw [h1, live_6], ((Ext.refl W).alloc _).trans h2⟩)
theorem lv_Val3 (W : World) : Calls Try.prog 12 #[.agg #[.slice (some ⟨W.heap.size, 0, none⟩) 1 1, .slice none 0 0, .slice none 0 0, .slice none 0 0]] (W.alloc (.cells #[.int .i64 1] 3)) fun e w' => e = .returned (.bool false) ∧ Ext W w' :=
 (co_Valid ⟨[1], [], [], []⟩ (fun _ => True) _ none none none 1 0 0 0 _ ⟨nu_one W 1, SliceR.nil _ _ _, SliceR.nil _ _ _, SliceR.nil _ _ _⟩ (by decide)).mono (fun e w' ⟨h1, h2⟩ => ⟨by rw [h1, live_7], ((Ext.refl W).alloc _).trans h2⟩)
def rowL : List Sh := [⟨1, 2, 1⟩, ⟨1, 3, 2⟩]
theorem lv_Row (ok : Nat → Prop) (E0 E1 E2 E3 : Option Addr) (j0 j1 j2 j3 : Nat) (W : World) (hv : ColAt W ok E0 E1 E2 E3 wantC) : Calls Try.prog 15 #[.agg #[.slice E0 1 j0, .slice E1 2 j1, .slice E2 2 j2, .slice E3 2 j3], .int .i64 1] W fun e w' => ∃ A' c', e = .returned (.slice A' 2 c') ∧ Shares w' (fun _ => True) A' rowL ∧ Ext W w' := by
 have h := co_Row wantC 1 ok E0 E1 E2 E3 j0 j1 j2 j3 W hv (by decide)
 rw [live_9] at h
 exact h.mono (fun e w' ⟨A, c, h1, h2, h3⟩ => ⟨A, c, h1, SliceR.mono h2 (fun _ _ _ _ hx => ⟨trivial, hx.2⟩), h3⟩)
theorem lv_RowZ (ok : Nat → Prop) (E0 E1 E2 E3 : Option Addr) (j0 j1 j2 j3 : Nat) (W : World) (hv : ColAt W ok E0 E1 E2 E3 wantC) : Calls Try.prog 15 #[.agg #[.slice E0 1 j0, .slice E1 2 j1, .slice E2 2 j2, .slice E3 2 j3], .int .i64 1] (W.alloc (.cells #[.int .i64 1, .int .i64 2, .int .i64 1, .int .i64 1, .int .i64 3, .int .i64 2] 54)) fun e w' => ∃ A' c', e = .returned (.slice A' 2 c') ∧ Shares w' (fun _ => True) A' rowL ∧ Shares w' (fun _ => True) (some ⟨W.heap.size, 0, none⟩) rowL ∧ Ext W w' :=
 (lv_Row ok E0 E1 E2 E3 j0 j1 j2 j3 _ (hv.ext ((Ext.refl W).alloc _))).mono (fun _ _ ⟨A, c, h1, h2, h3⟩ => ⟨A, c, h1, h2, (sh_two W ⟨1, 2, 1⟩ ⟨1, 3, 2⟩).ext h3, ((Ext.refl W).alloc _).trans h3⟩)
theorem lv_Deg (ok : Nat → Prop) (E0 E1 E2 E3 : Option Addr) (j0 j1 j2 j3 : Nat) (W : World) (hv : ColAt W ok E0 E1 E2 E3 wantC) : Calls Try.prog 16 #[.agg #[.slice E0 1 j0, .slice E1 2 j1, .slice E2 2 j2, .slice E3 2 j3], .int .i64 1] W fun e w' => e = .returned (.int .i64 2) ∧ Ext W w' := by
 have h := co_Degree wantC 1 ok E0 E1 E2 E3 j0 j1 j2 j3 W hv (by decide)
 rw [live_9] at h
 exact h
theorem lv_Ent (ok : Nat → Prop) (E0 E1 E2 E3 : Option Addr) (j0 j1 j2 j3 : Nat) (W : World) (hv : ColAt W ok E0 E1 E2 E3 wantC) : Calls Try.prog 17 #[.agg #[.slice E0 1 j0, .slice E1 2 j1, .slice E2 2 j2, .slice E3 2 j3]] W fun e w' => ∃ A' c', e = .returned (.slice A' 2 c') ∧ Ext W w' := by
 have h := co_Entries wantC ok E0 E1 E2 E3 j0 j1 j2 j3 W hv (by decide)
 rw [live_8] at h
 exact h.mono (fun e w' ⟨A, c, h1, _, _, h3⟩ => ⟨A, c, h1, h3⟩)
theorem lv_Adj (A B : Option Addr) (c d : Nat) (W : World) (ok ok' : Nat → Prop) (ha : Shares W ok A rowL) (hb : Shares W ok' B rowL) : Calls Try.prog 14 #[.slice A 2 c, .slice B 2 d] W fun e w' => e = .returned (.bool true) ∧ Ext W w' :=
 (r12_Adjs rowL rowL ok ok' A B c d W ha hb).mono (fun _ _ ⟨h1, h2⟩ => ⟨h1, h2⟩)
theorem lv_want (W : World) : ColAt ((((W.alloc (.cells #[.int .i64 1] 3)).alloc (.cells #[.int .i64 0, .int .i64 2] 3)).alloc (.cells #[.int .i64 2, .int .i64 3] 3)).alloc (.cells #[.int .i64 1, .int .i64 2] 3)) (fun _ => True) (some ⟨W.heap.size, 0, none⟩) (some ⟨W.heap.size + 1, 0, none⟩) (some ⟨W.heap.size + 1 + 1, 0, none⟩) (some ⟨W.heap.size + 1 + 1 + 1, 0, none⟩) wantC := by
 have h1 := nu_one W 1
 have h2 := nu_two (W.alloc (.cells #[.int .i64 1] 3)) 0 2
 have h3 := nu_two ((W.alloc (.cells #[.int .i64 1] 3)).alloc (.cells #[.int .i64 0, .int .i64 2] 3)) 2 3
 have h4 := nu_two (((W.alloc (.cells #[.int .i64 1] 3)).alloc (.cells #[.int .i64 0, .int .i64 2] 3)).alloc (.cells #[.int .i64 2, .int .i64 3] 3)) 1 2
 have e1 : (W.alloc (.cells #[.int .i64 1] 3)).heap.size = W.heap.size + 1 := by simp
 have e2 : ((W.alloc (.cells #[.int .i64 1] 3)).alloc (.cells #[.int .i64 0, .int .i64 2] 3)).heap.size = W.heap.size + 1 + 1 := by simp
 have e3 : (((W.alloc (.cells #[.int .i64 1] 3)).alloc (.cells #[.int .i64 0, .int .i64 2] 3)).alloc (.cells #[.int .i64 2, .int .i64 3] 3)).heap.size = W.heap.size + 1 + 1 + 1 := by simp
 rw [e1] at h2
 rw [e2] at h3
 rw [e3] at h4
 exact ⟨h1.ext ((((Ext.refl _).alloc _).alloc _).alloc _), h2.ext (((Ext.refl _).alloc _).alloc _), h3.ext ((Ext.refl _).alloc _), h4⟩
theorem box_colV (w : World) (v0 v1 v2 v3 : Value) (t : TypeId) : ∃ (q : Nat) (w1 : World), q = w.heap.size ∧ w1 = w.alloc (.cells #[v0, v1, v2, v3] t) ∧ Box4 w1 q v0 v1 v2 v3 ∧ Ext w w1 :=
 ⟨_, _, rfl, rfl, ⟨by go_simp, by go_simp, by go_simp, by go_simp⟩, (Ext.refl _).alloc _⟩
set_option maxRecDepth 100000 in
set_option maxHeartbeats 6400000 in
theorem l_lives (w : World) : Calls Try.prog 7 #[] w fun e w' => e = .returned (.bool true) ∧ Ext w w' := by
 go_enter Try.func7, Try.ntmps7
 go_upto_region 2 with (fail)
 have HO1 := Lib.hid (lv_Of1 w)
 obtain ⟨b0, w1, hb0, hw1, hcl, hx1⟩ : ∃ (b : Nat) (w1 : World), b = w.heap.size ∧ w1 = (w.alloc (.cells #[.int .i64 1, .int .i64 3, .int .i64 2, .int .i64 1, .int .i64 2, .int .i64 1] 54)) ∧ (w1.cell? ⟨b, 0, none⟩ = some (.int .i64 1) ∧ w1.cell? ⟨b, 1, none⟩ = some (.int .i64 3) ∧ w1.cell? ⟨b, 2, none⟩ = some (.int .i64 2) ∧ w1.cell? ⟨b, 3, none⟩ = some (.int .i64 1) ∧ w1.cell? ⟨b, 4, none⟩ = some (.int .i64 2) ∧ w1.cell? ⟨b, 5, none⟩ = some (.int .i64 1)) ∧ Ext w w1 := ⟨_, _, rfl, rfl, ⟨by go_simp, by go_simp, by go_simp, by go_simp, by go_simp, by go_simp⟩, (Ext.refl _).alloc _⟩
 rw [← hw1, ← hb0] at HO1 ⊢
 have HCL := Lib.hid hcl
 have HX1 := Lib.hid hx1
 clear hw1 hb0 hcl hx1
 go_upto_region 3 with (go_at_call 8; (go_loud ((with_reducible refine (HO1.out).mono ?_); rintro e u2 ⟨A0, A1, A2, A3, k0, k1, k2, k3, rfl, hca, hx2⟩; clear HO1)))
 obtain ⟨qa, w3, hqa, hw3, hba, hx3⟩ := box_colV u2 (.slice A0 1 k0) (.slice A1 2 k1) (.slice A2 2 k2) (.slice A3 2 k3) 26
 rw [← hw3, ← hqa]
 have HCA := Lib.hid (hca.ext hx3)
 have HBA := Lib.hid hba
 have HX3 := Lib.hid (hx2.trans hx3)
 clear hqa hw3 hba hx2 hx3 hca
 have HO2 := Lib.hid (lv_Of2 w3)
 go_upto_region 4 with (go_at_call 8; (go_loud ((with_reducible refine (HO2.out).mono ?_); rintro e u4 ⟨B0, B1, B2, B3, m0, m1, m2, m3, rfl, -, hx4⟩; clear HO2)))
 obtain ⟨qb, w5, hqb, hw5, -, hx5⟩ := box_colV u4 (.slice B0 0 m0) (.slice B1 0 m1) (.slice B2 0 m2) (.slice B3 0 m3) 26
 rw [← hw5, ← hqb]
 have HX5 := Lib.hid (hx4.trans hx5)
 clear hqb hw5 hx4 hx5
 go_upto_region 5 with (fail)
 obtain ⟨h6, hh6⟩ : ∃ h, h = w5.heap.size := ⟨_, rfl⟩
 have hwant := lv_want w5
 obtain ⟨w6, hw6⟩ : ∃ W, W = ((((w5.alloc (.cells #[.int .i64 1] 3)).alloc (.cells #[.int .i64 0, .int .i64 2] 3)).alloc (.cells #[.int .i64 2, .int .i64 3] 3)).alloc (.cells #[.int .i64 1, .int .i64 2] 3)) := ⟨_, rfl⟩
 have hx6 : Ext w5 w6 := by rw [hw6]; exact ((((Ext.refl _).alloc _).alloc _).alloc _).alloc _
 have hs6 : h6 + 1 + 1 + 1 + 1 = w6.heap.size := by rw [hw6, hh6]; simp
 rw [← hw6, ← hh6] at hwant
 obtain ⟨qw, w7, hqw, hw7, hbw, hx7⟩ := box_colV w6 (.slice (some ⟨h6, 0, none⟩) 1 1) (.slice (some ⟨h6 + 1, 0, none⟩) 2 2) (.slice (some ⟨h6 + 1 + 1, 0, none⟩) 2 2) (.slice (some ⟨h6 + 1 + 1 + 1, 0, none⟩) 2 2) 26
 rw [← hs6] at hqw
 rw [← hw6, ← hh6, ← hw7]
 rw [← hqw]
 have HWT := Lib.hid (hwant.ext hx7)
 have HBW := Lib.hid hbw
 have HX7 := Lib.hid (hx6.trans hx7)
 clear hwant hbw hx6 hx7 hw6 hw7 hqw hs6 hh6
 obtain ⟨z0, z1, z2, z3⟩ := HBW.out
 have HEN := Lib.hid (lv_Enc _ _ _ _ _ 1 2 2 2 w7 HWT.out)
 go_upto_region 6 with (go_at_call 21; (go_loud ((with_reducible refine (HEN.out).mono ?_); rintro e u8 ⟨A7, c7, rfl, hb7, hx8⟩; clear HEN)))
 have HBY := Lib.hid hb7
 have HX8 := Lib.hid hx8
 clear hb7 hx8 z0 z1 z2 z3
 have HD1 := Lib.hid (lv_Dec1 u8)
 go_upto_region 7 with (go_at_call 19; (go_loud ((with_reducible refine (HD1.out).mono ?_); rintro e u10 ⟨D0, D1, D2, D3, d0, d1, d2, d3, rfl, hcd, hx10⟩; clear HD1)))
 obtain ⟨qd, w11, hqd, hw11, hbd, hx11⟩ := box_colV u10 (.slice D0 1 d0) (.slice D1 2 d1) (.slice D2 2 d2) (.slice D3 2 d3) 26
 rw [← hw11, ← hqd]
 have HCD := Lib.hid (hcd.ext hx11)
 have HBD := Lib.hid hbd
 have HX11 := Lib.hid (hx10.trans hx11)
 clear hqd hw11 hbd hx10 hx11 hcd
 have HD2 := Lib.hid (lv_Dec2 w11)
 go_upto_region 8 with (go_at_call 19; (go_loud ((with_reducible refine (HD2.out).mono ?_); rintro e u12 ⟨F0, F1, F2, F3, f0, f1, f2, f3, rfl, -, hx12⟩; clear HD2)))
 obtain ⟨qf, w13, hqf, hw13, -, hx13⟩ := box_colV u12 (.slice F0 0 f0) (.slice F1 0 f1) (.slice F2 0 f2) (.slice F3 0 f3) 26
 rw [← hw13, ← hqf]
 have HX13 := Lib.hid (hx12.trans hx13)
 clear hqf hw13 hx12 hx13
 have HBL := Lib.hid (lv_Bld w13)
 go_upto_region 9 with (go_at_call 22; (go_loud ((with_reducible refine (HBL.out).mono ?_); rintro e u14 ⟨G0, G1, G2, G3, g0, g1, g2, g3, rfl, -, hx14⟩; clear HBL)))
 obtain ⟨qg, w9, hqg, hw9, -, hx15⟩ := box_colV u14 (.slice G0 0 g0) (.slice G1 0 g1) (.slice G2 0 g2) (.slice G3 0 g3) 26
 rw [← hw9, ← hqg]
 have HX15 := Lib.hid (hx14.trans hx15)
 clear hqg hw9 hx14 hx15
 have HY11 := Lib.hid (HX13.out.trans HX15.out)
 have HY8 := Lib.hid (HX11.out.trans HY11.out)
 have HY7 := Lib.hid (HX8.out.trans HY8.out)
 have HY5 := Lib.hid (HX7.out.trans HY7.out)
 have HY3 := Lib.hid (HX5.out.trans HY5.out)
 have HY1 := Lib.hid (HX3.out.trans HY3.out)
 have HX9 := Lib.hid (HX1.out.trans HY1.out)
 have hcl := HCL.out
 have hba := HBA.out.grown (HY3.out.gr none) (by simp)
 have hbw := HBW.out.grown (HY7.out.gr none) (by simp)
 have hbd := HBD.out.grown (HY11.out.gr none) (by simp)
 have MK9 := Lib.hid (fun V (e : Ext w9 V) => (⟨⟨e.cell hba.1, e.cell hba.2.1, e.cell hba.2.2.1, e.cell hba.2.2.2⟩, ⟨e.cell hbw.1, e.cell hbw.2.1, e.cell hbw.2.2.1, e.cell hbw.2.2.2⟩, ⟨e.cell hbd.1, e.cell hbd.2.1, e.cell hbd.2.2.1, e.cell hbd.2.2.2⟩, (HY1.out.trans e).cell hcl.1, (HY1.out.trans e).cell hcl.2.1, (HY1.out.trans e).cell hcl.2.2.1, (HY1.out.trans e).cell hcl.2.2.2.1, (HY1.out.trans e).cell hcl.2.2.2.2.1, (HY1.out.trans e).cell hcl.2.2.2.2.2⟩ : (V.cell? ⟨qa, 0, none⟩ = some (.slice A0 1 k0) ∧ V.cell? ⟨qa, 1, none⟩ = some (.slice A1 2 k1) ∧ V.cell? ⟨qa, 2, none⟩ = some (.slice A2 2 k2) ∧ V.cell? ⟨qa, 3, none⟩ = some (.slice A3 2 k3)) ∧ (V.cell? ⟨qw, 0, none⟩ = some (.slice (some ⟨h6, 0, none⟩) 1 1) ∧ V.cell? ⟨qw, 1, none⟩ = some (.slice (some ⟨h6 + 1, 0, none⟩) 2 2) ∧ V.cell? ⟨qw, 2, none⟩ = some (.slice (some ⟨h6 + 1 + 1, 0, none⟩) 2 2) ∧ V.cell? ⟨qw, 3, none⟩ = some (.slice (some ⟨h6 + 1 + 1 + 1, 0, none⟩) 2 2)) ∧ (V.cell? ⟨qd, 0, none⟩ = some (.slice D0 1 d0) ∧ V.cell? ⟨qd, 1, none⟩ = some (.slice D1 2 d1) ∧ V.cell? ⟨qd, 2, none⟩ = some (.slice D2 2 d2) ∧ V.cell? ⟨qd, 3, none⟩ = some (.slice D3 2 d3)) ∧ V.cell? ⟨b0, 0, none⟩ = some (.int .i64 1) ∧ V.cell? ⟨b0, 1, none⟩ = some (.int .i64 3) ∧ V.cell? ⟨b0, 2, none⟩ = some (.int .i64 2) ∧ V.cell? ⟨b0, 3, none⟩ = some (.int .i64 1) ∧ V.cell? ⟨b0, 4, none⟩ = some (.int .i64 2) ∧ V.cell? ⟨b0, 5, none⟩ = some (.int .i64 1)))
 have HS1 := Lib.hid (fun V (e : Ext w9 V) => lv_Same _ _ _ _ _ 1 2 2 2 V _ A0 A1 A2 A3 k0 k1 k2 k3 (HWT.out.ext (HY7.out.trans e)) (HCA.out.ext (HY3.out.trans e)))
 have HS2 := Lib.hid (fun V (e : Ext w9 V) => lv_Same _ _ _ _ _ 1 2 2 2 V _ D0 D1 D2 D3 d0 d1 d2 d3 (HWT.out.ext (HY7.out.trans e)) (HCD.out.ext (HY11.out.trans e)))
 have HB := Lib.hid (fun V (e : Ext w9 V) => lv_Byt V _ A7 c7 (HBY.out.ext (HY8.out.trans e)))
 have HV1 := Lib.hid (fun V (e : Ext w9 V) => lv_Val _ _ _ _ _ 1 2 2 2 V (HWT.out.ext (HY7.out.trans e)))
 have HR := Lib.hid (fun V (e : Ext w9 V) => lv_Row _ _ _ _ _ 1 2 2 2 V (HWT.out.ext (HY7.out.trans e)))
 have HRZ := Lib.hid (fun V (e : Ext w9 V) => lv_RowZ _ _ _ _ _ 1 2 2 2 V (HWT.out.ext (HY7.out.trans e)))
 have HD := Lib.hid (fun V (e : Ext w9 V) => lv_Deg _ _ _ _ _ 1 2 2 2 V (HWT.out.ext (HY7.out.trans e)))
 have HE := Lib.hid (fun V (e : Ext w9 V) => lv_Ent _ _ _ _ _ 1 2 2 2 V (HWT.out.ext (HY7.out.trans e)))
 clear hcl hba hbw hbd HCL HBA HBW HBD HWT HCA HCD HBY HX1 HX3 HX5 HX7 HX8 HX11 HX13 HX15 HY1 HY3 HY5 HY7 HY8 HY11
 refine wp_region_held_drew (S := (fun V => (V.cell? ⟨qa, 0, none⟩ = some (.slice A0 1 k0) ∧ V.cell? ⟨qa, 1, none⟩ = some (.slice A1 2 k1) ∧ V.cell? ⟨qa, 2, none⟩ = some (.slice A2 2 k2) ∧ V.cell? ⟨qa, 3, none⟩ = some (.slice A3 2 k3)) ∧ (V.cell? ⟨qw, 0, none⟩ = some (.slice (some ⟨h6, 0, none⟩) 1 1) ∧ V.cell? ⟨qw, 1, none⟩ = some (.slice (some ⟨h6 + 1, 0, none⟩) 2 2) ∧ V.cell? ⟨qw, 2, none⟩ = some (.slice (some ⟨h6 + 1 + 1, 0, none⟩) 2 2) ∧ V.cell? ⟨qw, 3, none⟩ = some (.slice (some ⟨h6 + 1 + 1 + 1, 0, none⟩) 2 2)) ∧ (V.cell? ⟨qd, 0, none⟩ = some (.slice D0 1 d0) ∧ V.cell? ⟨qd, 1, none⟩ = some (.slice D1 2 d1) ∧ V.cell? ⟨qd, 2, none⟩ = some (.slice D2 2 d2) ∧ V.cell? ⟨qd, 3, none⟩ = some (.slice D3 2 d3)) ∧ V.cell? ⟨b0, 0, none⟩ = some (.int .i64 1) ∧ V.cell? ⟨b0, 1, none⟩ = some (.int .i64 3) ∧ V.cell? ⟨b0, 2, none⟩ = some (.int .i64 2) ∧ V.cell? ⟨b0, 3, none⟩ = some (.int .i64 1) ∧ V.cell? ⟨b0, 4, none⟩ = some (.int .i64 2) ∧ V.cell? ⟨b0, 5, none⟩ = some (.int .i64 1))) (by kernel_rfl) ?hs70001 (fun hHeld => ?go70001)
 case hs70001 => (exact MK9.out _ (by solve_by_elim [X0, X1, X2, X3]))
 refine TK 0 (v := ?v70002) hHeld ?hy70002 ?_
 case hy70002 => (intro w hSw; (try dsimp only at hSw); go_simp <;> first | with_reducible rfl | rw [if_neg (by omega)] | rw [if_pos (by omega)])
 (try simp only [PU])
 refine TK 1 (v := ?v70003) hHeld ?hy70003 ?_
 case hy70003 => (intro w hSw; (try dsimp only at hSw); go_simp <;> first | with_reducible rfl | rw [if_neg (by omega)] | rw [if_pos (by omega)])
 (try simp only [PU])
 refine TK 2 (v := ?v70004) hHeld ?hy70004 ?_
 case hy70004 => (intro w hSw; (try dsimp only at hSw); go_simp <;> first | with_reducible rfl | rw [if_neg (by omega)] | rw [if_pos (by omega)])
 (try simp only [PU])
 refine TK 3 (v := ?v70005) hHeld ?hy70005 ?_
 case hy70005 => (intro w hSw; (try dsimp only at hSw); go_simp <;> first | with_reducible rfl | rw [if_neg (by omega)] | rw [if_pos (by omega)])
 (try simp only [PU])
 refine TK 4 (v := ?v70006) hHeld ?hy70006 ?_
 case hy70006 => (intro w hSw; (try dsimp only at hSw); go_simp <;> first | with_reducible rfl | rw [if_neg (by omega)] | rw [if_pos (by omega)])
 (try simp only [PU])
 refine wpAnyH_ready (rs := [5]) (by kernel_rfl) (by simp) ?_
 refine AllReadyH.cons (o := ⟨_, _, _, _, _, _⟩) rfl (fun K hK => ?step70007x0) ?more70007x0
 case more70007x0 => exact AllReadyH.nil
 go_simp
 ((with_reducible refine (HS1.out _ (by solve_by_elim [X0, X1, X2, X3])).mono ?_); rintro r v5 ⟨rfl, hy5⟩; replace hy5 : Ext w9 v5 := Ext.trans (a := w9) (by solve_by_elim [X0, X1, X2, X3]) hy5)
 refine hK.out _ _ ?hS70007x0 (fun H70007 => ?_)
 case hS70007x0 => first | (exact MK9.out _ (by solve_by_elim [X0, X1, X2, X3])) | ((try dsimp only); (exact MK9.out _ (by solve_by_elim [X0, X1, X2, X3])))
 clear hK K
 clear hHeld
 (try simp only [PU])
 refine TK 6 (v := ?v70008) H70007 ?hy70008 ?_
 case hy70008 => (intro w hSw; (try dsimp only at hSw); go_simp <;> first | with_reducible rfl | rw [if_neg (by omega)] | rw [if_pos (by omega)])
 (try simp only [PU])
 refine TK 7 (v := ?v70009) H70007 ?hy70009 ?_
 case hy70009 => (intro w hSw; (try dsimp only at hSw); go_simp <;> first | with_reducible rfl | rw [if_neg (by omega)] | rw [if_pos (by omega)])
 (try simp only [PU])
 refine TK 8 (v := ?v70010) H70007 ?hy70010 ?_
 case hy70010 => (intro w hSw; (try dsimp only at hSw); go_simp <;> first | with_reducible rfl | rw [if_neg (by omega)] | rw [if_pos (by omega)])
 (try simp only [PU])
 refine TK 9 (v := ?v70011) H70007 ?hy70011 ?_
 case hy70011 => (intro w hSw; (try dsimp only at hSw); go_simp <;> first | with_reducible rfl | rw [if_neg (by omega)] | rw [if_pos (by omega)])
 (try simp only [PU])
 refine TK 10 (v := ?v70012) H70007 ?hy70012 ?_
 case hy70012 => (intro w hSw; (try dsimp only at hSw); go_simp <;> first | with_reducible rfl | rw [if_neg (by omega)] | rw [if_pos (by omega)])
 (try simp only [PU])
 refine TK 11 (v := ?v70013) H70007 ?hy70013 ?_
 case hy70013 => (intro w hSw; (try dsimp only at hSw); go_simp <;> first | with_reducible rfl | rw [if_neg (by omega)] | rw [if_pos (by omega)])
 (try simp only [PU])
 refine TK 12 (v := ?v70014) H70007 ?hy70014 ?_
 case hy70014 => (intro w hSw; (try dsimp only at hSw); go_simp <;> first | with_reducible rfl | rw [if_neg (by omega)] | rw [if_pos (by omega)])
 (try simp only [PU])
 refine wpAnyH_ready (rs := [13]) (by kernel_rfl) (by simp) ?_
 refine AllReadyH.cons (o := ⟨_, _, _, _, _, _⟩) rfl (fun K hK => ?step70015x0) ?more70015x0
 case more70015x0 => exact AllReadyH.nil
 go_simp
 refine hK.out _ _ ?hS70015x0 (fun H70015 => ?_)
 case hS70015x0 => first | (exact MK9.out _ (by solve_by_elim [X0, X1, X2, X3])) | ((try dsimp only); (exact MK9.out _ (by solve_by_elim [X0, X1, X2, X3])))
 clear hK K
 clear H70007
 (try simp only [PU])
 refine wpAnyH_ready (rs := [14]) (by kernel_rfl) (by simp) ?_
 refine AllReadyH.cons (o := ⟨_, _, _, _, _, _⟩) rfl (fun K hK => ?step70016x0) ?more70016x0
 case more70016x0 => exact AllReadyH.nil
 go_simp
 ((with_reducible refine (HB.out _ (by solve_by_elim [X0, X1, X2, X3])).mono ?_); rintro r v14 ⟨rfl, hy14⟩; replace hy14 : Ext w9 v14 := Ext.trans (a := w9) (by solve_by_elim [X0, X1, X2, X3]) hy14)
 refine hK.out _ _ ?hS70016x0 (fun H70016 => ?_)
 case hS70016x0 => first | (exact MK9.out _ (by solve_by_elim [X0, X1, X2, X3])) | ((try dsimp only); (exact MK9.out _ (by solve_by_elim [X0, X1, X2, X3])))
 clear hK K
 clear H70015
 (try simp only [PU])
 refine TK 15 (v := ?v70017) H70016 ?hy70017 ?_
 case hy70017 => (intro w hSw; (try dsimp only at hSw); go_simp <;> first | with_reducible rfl | rw [if_neg (by omega)] | rw [if_pos (by omega)])
 (try simp only [PU])
 refine TK 16 (v := ?v70018) H70016 ?hy70018 ?_
 case hy70018 => (intro w hSw; (try dsimp only at hSw); go_simp <;> first | with_reducible rfl | rw [if_neg (by omega)] | rw [if_pos (by omega)])
 (try simp only [PU])
 refine TK 17 (v := ?v70019) H70016 ?hy70019 ?_
 case hy70019 => (intro w hSw; (try dsimp only at hSw); go_simp <;> first | with_reducible rfl | rw [if_neg (by omega)] | rw [if_pos (by omega)])
 (try simp only [PU])
 refine TK 18 (v := ?v70020) H70016 ?hy70020 ?_
 case hy70020 => (intro w hSw; (try dsimp only at hSw); go_simp <;> first | with_reducible rfl | rw [if_neg (by omega)] | rw [if_pos (by omega)])
 (try simp only [PU])
 refine TK 19 (v := ?v70021) H70016 ?hy70021 ?_
 case hy70021 => (intro w hSw; (try dsimp only at hSw); go_simp <;> first | with_reducible rfl | rw [if_neg (by omega)] | rw [if_pos (by omega)])
 (try simp only [PU])
 refine TK 20 (v := ?v70022) H70016 ?hy70022 ?_
 case hy70022 => (intro w hSw; (try dsimp only at hSw); go_simp <;> first | with_reducible rfl | rw [if_neg (by omega)] | rw [if_pos (by omega)])
 (try simp only [PU])
 refine TK 21 (v := ?v70023) H70016 ?hy70023 ?_
 case hy70023 => (intro w hSw; (try dsimp only at hSw); go_simp <;> first | with_reducible rfl | rw [if_neg (by omega)] | rw [if_pos (by omega)])
 (try simp only [PU])
 refine TK 22 (v := ?v70024) H70016 ?hy70024 ?_
 case hy70024 => (intro w hSw; (try dsimp only at hSw); go_simp <;> first | with_reducible rfl | rw [if_neg (by omega)] | rw [if_pos (by omega)])
 (try simp only [PU])
 refine wpAnyH_ready (rs := [23]) (by kernel_rfl) (by simp) ?_
 refine AllReadyH.cons (o := ⟨_, _, _, _, _, _⟩) rfl (fun K hK => ?step70025x0) ?more70025x0
 case more70025x0 => exact AllReadyH.nil
 go_simp
 ((with_reducible refine (HS2.out _ (by solve_by_elim [X0, X1, X2, X3])).mono ?_); rintro r v23 ⟨rfl, hy23⟩; replace hy23 : Ext w9 v23 := Ext.trans (a := w9) (by solve_by_elim [X0, X1, X2, X3]) hy23)
 refine hK.out _ _ ?hS70025x0 (fun H70025 => ?_)
 case hS70025x0 => first | (exact MK9.out _ (by solve_by_elim [X0, X1, X2, X3])) | ((try dsimp only); (exact MK9.out _ (by solve_by_elim [X0, X1, X2, X3])))
 clear hK K
 clear H70016
 (try simp only [PU])
 refine TK 24 (v := ?v70026) H70025 ?hy70026 ?_
 case hy70026 => (intro w hSw; (try dsimp only at hSw); go_simp <;> first | with_reducible rfl | rw [if_neg (by omega)] | rw [if_pos (by omega)])
 (try simp only [PU])
 refine TK 25 (v := ?v70027) H70025 ?hy70027 ?_
 case hy70027 => (intro w hSw; (try dsimp only at hSw); go_simp <;> first | with_reducible rfl | rw [if_neg (by omega)] | rw [if_pos (by omega)])
 (try simp only [PU])
 refine TK 26 (v := ?v70028) H70025 ?hy70028 ?_
 case hy70028 => (intro w hSw; (try dsimp only at hSw); go_simp <;> first | with_reducible rfl | rw [if_neg (by omega)] | rw [if_pos (by omega)])
 (try simp only [PU])
 refine TK 27 (v := ?v70029) H70025 ?hy70029 ?_
 case hy70029 => (intro w hSw; (try dsimp only at hSw); go_simp <;> first | with_reducible rfl | rw [if_neg (by omega)] | rw [if_pos (by omega)])
 (try simp only [PU])
 refine TK 28 (v := ?v70030) H70025 ?hy70030 ?_
 case hy70030 => (intro w hSw; (try dsimp only at hSw); go_simp <;> first | with_reducible rfl | rw [if_neg (by omega)] | rw [if_pos (by omega)])
 (try simp only [PU])
 refine TK 29 (v := ?v70031) H70025 ?hy70031 ?_
 case hy70031 => (intro w hSw; (try dsimp only at hSw); go_simp <;> first | with_reducible rfl | rw [if_neg (by omega)] | rw [if_pos (by omega)])
 (try simp only [PU])
 refine TK 30 (v := ?v70032) H70025 ?hy70032 ?_
 case hy70032 => (intro w hSw; (try dsimp only at hSw); go_simp <;> first | with_reducible rfl | rw [if_neg (by omega)] | rw [if_pos (by omega)])
 (try simp only [PU])
 refine TK 31 (v := ?v70033) H70025 ?hy70033 ?_
 case hy70033 => (intro w hSw; (try dsimp only at hSw); go_simp <;> first | with_reducible rfl | rw [if_neg (by omega)] | rw [if_pos (by omega)])
 (try simp only [PU])
 refine TK 32 (v := ?v70034) H70025 ?hy70034 ?_
 case hy70034 => (intro w hSw; (try dsimp only at hSw); go_simp <;> first | with_reducible rfl | rw [if_neg (by omega)] | rw [if_pos (by omega)])
 (try simp only [PU])
 refine TK 33 (v := ?v70035) H70025 ?hy70035 ?_
 case hy70035 => (intro w hSw; (try dsimp only at hSw); go_simp <;> first | with_reducible rfl | rw [if_neg (by omega)] | rw [if_pos (by omega)])
 (try simp only [PU])
 refine TK 34 (v := ?v70036) H70025 ?hy70036 ?_
 case hy70036 => (intro w hSw; (try dsimp only at hSw); go_simp <;> first | with_reducible rfl | rw [if_neg (by omega)] | rw [if_pos (by omega)])
 (try simp only [PU])
 refine wpAnyH_ready (rs := [35]) (by kernel_rfl) (by simp) ?_
 refine AllReadyH.cons (o := ⟨_, _, _, _, _, _⟩) rfl (fun K hK => ?step70037x0) ?more70037x0
 case more70037x0 => exact AllReadyH.nil
 go_simp
 ((with_reducible refine (HV1.out _ (by solve_by_elim [X0, X1, X2, X3])).mono ?_); rintro r v35 ⟨rfl, hy35⟩; replace hy35 : Ext w9 v35 := Ext.trans (a := w9) (by solve_by_elim [X0, X1, X2, X3]) hy35)
 refine hK.out _ _ ?hS70037x0 (fun H70037 => ?_)
 case hS70037x0 => first | (exact MK9.out _ (by solve_by_elim [X0, X1, X2, X3])) | ((try dsimp only); (exact MK9.out _ (by solve_by_elim [X0, X1, X2, X3])))
 clear hK K
 clear H70025
 (try simp only [PU])
 refine TK 36 (v := ?v70038) H70037 ?hy70038 ?_
 case hy70038 => (intro w hSw; (try dsimp only at hSw); go_simp <;> first | with_reducible rfl | rw [if_neg (by omega)] | rw [if_pos (by omega)])
 (try simp only [PU])
 refine TK 37 (v := ?v70039) H70037 ?hy70039 ?_
 case hy70039 => (intro w hSw; (try dsimp only at hSw); go_simp <;> first | with_reducible rfl | rw [if_neg (by omega)] | rw [if_pos (by omega)])
 (try simp only [PU])
 refine wpAnyH_ready (rs := [38]) (by kernel_rfl) (by simp) ?_
 refine AllReadyH.cons (o := ⟨_, _, _, _, _, _⟩) rfl (fun K hK => ?step70040x0) ?more70040x0
 case more70040x0 => exact AllReadyH.nil
 go_simp
 refine hK.out _ _ ?hS70040x0 (fun H70040 => ?_)
 case hS70040x0 => first | (exact MK9.out _ (by solve_by_elim [X0, X1, X2, X3])) | ((try dsimp only); (exact MK9.out _ (by solve_by_elim [X0, X1, X2, X3])))
 clear hK K
 clear H70037
 (try simp only [PU])
 refine TK 39 (v := ?v70041) H70040 ?hy70041 ?_
 case hy70041 => (intro w hSw; (try dsimp only at hSw); go_simp <;> first | with_reducible rfl | rw [if_neg (by omega)] | rw [if_pos (by omega)])
 (try simp only [PU])
 refine wpAnyH_ready (rs := [40]) (by kernel_rfl) (by simp) ?_
 refine AllReadyH.cons (o := ⟨_, _, _, _, _, _⟩) rfl (fun K hK => ?step70042x0) ?more70042x0
 case more70042x0 => exact AllReadyH.nil
 go_simp
 ((with_reducible refine (lv_Val2 _).mono ?_); rintro r v40 ⟨rfl, hy40⟩; replace hy40 : Ext w9 v40 := Ext.trans (a := w9) (by solve_by_elim [X0, X1, X2, X3]) hy40)
 refine hK.out _ _ ?hS70042x0 (fun H70042 => ?_)
 case hS70042x0 => first | (exact MK9.out _ (by solve_by_elim [X0, X1, X2, X3])) | ((try dsimp only); (exact MK9.out _ (by solve_by_elim [X0, X1, X2, X3])))
 clear hK K
 clear H70040
 (try simp only [PU])
 refine TK 41 (v := ?v70043) H70042 ?hy70043 ?_
 case hy70043 => (intro w hSw; (try dsimp only at hSw); go_simp <;> first | with_reducible rfl | rw [if_neg (by omega)] | rw [if_pos (by omega)])
 (try simp only [PU])
 refine TK 42 (v := ?v70044) H70042 ?hy70044 ?_
 case hy70044 => (intro w hSw; (try dsimp only at hSw); go_simp <;> first | with_reducible rfl | rw [if_neg (by omega)] | rw [if_pos (by omega)])
 (try simp only [PU])
 refine wpAnyH_ready (rs := [43]) (by kernel_rfl) (by simp) ?_
 refine AllReadyH.cons (o := ⟨_, _, _, _, _, _⟩) rfl (fun K hK => ?step70045x0) ?more70045x0
 case more70045x0 => exact AllReadyH.nil
 go_simp
 refine hK.out _ _ ?hS70045x0 (fun H70045 => ?_)
 case hS70045x0 => first | (exact MK9.out _ (by solve_by_elim [X0, X1, X2, X3])) | ((try dsimp only); (exact MK9.out _ (by solve_by_elim [X0, X1, X2, X3])))
 clear hK K
 clear H70042
 (try simp only [PU])
 refine TK 44 (v := ?v70046) H70045 ?hy70046 ?_
 case hy70046 => (intro w hSw; (try dsimp only at hSw); go_simp <;> first | with_reducible rfl | rw [if_neg (by omega)] | rw [if_pos (by omega)])
 (try simp only [PU])
 refine wpAnyH_ready (rs := [45]) (by kernel_rfl) (by simp) ?_
 refine AllReadyH.cons (o := ⟨_, _, _, _, _, _⟩) rfl (fun K hK => ?step70047x0) ?more70047x0
 case more70047x0 => exact AllReadyH.nil
 go_simp
 ((with_reducible refine (lv_Val3 _).mono ?_); rintro r v45 ⟨rfl, hy45⟩; replace hy45 : Ext w9 v45 := Ext.trans (a := w9) (by solve_by_elim [X0, X1, X2, X3]) hy45)
 refine hK.out _ _ ?hS70047x0 (fun H70047 => ?_)
 case hS70047x0 => first | (exact MK9.out _ (by solve_by_elim [X0, X1, X2, X3])) | ((try dsimp only); (exact MK9.out _ (by solve_by_elim [X0, X1, X2, X3])))
 clear hK K
 clear H70045
 (try simp only [PU])
 refine TK 46 (v := ?v70048) H70047 ?hy70048 ?_
 case hy70048 => (intro w hSw; (try dsimp only at hSw); go_simp <;> first | with_reducible rfl | rw [if_neg (by omega)] | rw [if_pos (by omega)])
 (try simp only [PU])
 refine TK 47 (v := ?v70049) H70047 ?hy70049 ?_
 case hy70049 => (intro w hSw; (try dsimp only at hSw); go_simp <;> first | with_reducible rfl | rw [if_neg (by omega)] | rw [if_pos (by omega)])
 (try simp only [PU])
 refine TK 48 (v := ?v70050) H70047 ?hy70050 ?_
 case hy70050 => (intro w hSw; (try dsimp only at hSw); go_simp <;> first | with_reducible rfl | rw [if_neg (by omega)] | rw [if_pos (by omega)])
 (try simp only [PU])
 refine TK 49 (v := ?v70051) H70047 ?hy70051 ?_
 case hy70051 => (intro w hSw; (try dsimp only at hSw); go_simp <;> first | with_reducible rfl | rw [if_neg (by omega)] | rw [if_pos (by omega)])
 (try simp only [PU])
 refine TK 51 (v := ?v70052) H70047 ?hy70052 ?_
 case hy70052 => (intro w hSw; (try dsimp only at hSw); go_simp <;> first | with_reducible rfl | rw [if_neg (by omega)] | rw [if_pos (by omega)])
 (try simp only [PU])
 refine TK 52 (v := ?v70053) H70047 ?hy70053 ?_
 case hy70053 => (intro w hSw; (try dsimp only at hSw); go_simp <;> first | with_reducible rfl | rw [if_neg (by omega)] | rw [if_pos (by omega)])
 (try simp only [PU])
 refine TK 53 (v := ?v70054) H70047 ?hy70054 ?_
 case hy70054 => (intro w hSw; (try dsimp only at hSw); go_simp <;> first | with_reducible rfl | rw [if_neg (by omega)] | rw [if_pos (by omega)])
 (try simp only [PU])
 refine TK 54 (v := ?v70055) H70047 ?hy70055 ?_
 case hy70055 => (intro w hSw; (try dsimp only at hSw); go_simp <;> first | with_reducible rfl | rw [if_neg (by omega)] | rw [if_pos (by omega)])
 (try simp only [PU])
 refine TK 55 (v := ?v70056) H70047 ?hy70056 ?_
 case hy70056 => (intro w hSw; (try dsimp only at hSw); go_simp <;> first | with_reducible rfl | rw [if_neg (by omega)] | rw [if_pos (by omega)])
 (try simp only [PU])
 refine TK 56 (v := ?v70057) H70047 ?hy70057 ?_
 case hy70057 => (intro w hSw; (try dsimp only at hSw); go_simp <;> first | with_reducible rfl | rw [if_neg (by omega)] | rw [if_pos (by omega)])
 (try simp only [PU])
 refine wpAnyH_ready (rs := [50, 57]) (by kernel_rfl) (by simp) ?_
 refine AllReadyH.cons (o := ⟨_, _, _, _, _, _⟩) rfl (fun K hK => ?step70058x0) ?more70058x0
 case more70058x0 =>
  refine AllReadyH.cons (o := ⟨_, _, _, _, _, _⟩) rfl (fun K hK => ?step70058x1) ?more70058x1
  case more70058x1 => exact AllReadyH.nil
  go_simp
  refine hK.out _ _ ?hS70058x1 (fun H70058 => ?_)
  case hS70058x1 => first | (exact MK9.out _ (by solve_by_elim [X0, X1, X2, X3])) | ((try dsimp only); (exact MK9.out _ (by solve_by_elim [X0, X1, X2, X3])))
  clear hK K
  clear H70047
  (try simp only [PU])
  refine wpAnyH_ready (rs := [50]) (by kernel_rfl) (by simp) ?_
  refine AllReadyH.cons (o := ⟨_, _, _, _, _, _⟩) rfl (fun K hK => ?step70059x0) ?more70059x0
  case more70059x0 => exact AllReadyH.nil
  go_simp
  ((with_reducible refine (HRZ.out _ (by solve_by_elim [X0, X1, X2, X3])).mono ?_); rintro r v50 ⟨A50, c50, rfl, hU50, hl57, hy50⟩; replace hy50 : Ext w9 v50 := Ext.trans (a := w9) (by solve_by_elim [X0, X1, X2, X3]) hy50)
  refine hK.out _ _ ?hS70059x0 (fun H70059 => ?_)
  case hS70059x0 => first | (exact MK9.out _ (by solve_by_elim [X0, X1, X2, X3])) | ((try dsimp only); (exact MK9.out _ (by solve_by_elim [X0, X1, X2, X3])))
  clear hK K
  clear H70058
  (try simp only [PU])
  refine wpAnyH_ready (rs := [58]) (by kernel_rfl) (by simp) ?_
  refine AllReadyH.cons (o := ⟨_, _, _, _, _, _⟩) rfl (fun K hK => ?step70060x0) ?more70060x0
  case more70060x0 => exact AllReadyH.nil
  go_simp
  ((with_reducible refine (lv_Adj _ _ _ _ _ _ _ (Shares.ext hU50 (by solve_by_elim [X0, X1, X2, X3])) (Shares.ext hl57 (by solve_by_elim [X0, X1, X2, X3]))).mono ?_); rintro r v58 ⟨rfl, hy58⟩; replace hy58 : Ext w9 v58 := Ext.trans (a := w9) (by solve_by_elim [X0, X1, X2, X3]) hy58)
  refine hK.out _ _ ?hS70060x0 (fun H70060 => ?_)
  case hS70060x0 => first | (exact MK9.out _ (by solve_by_elim [X0, X1, X2, X3])) | ((try dsimp only); (exact MK9.out _ (by solve_by_elim [X0, X1, X2, X3])))
  clear hK K
  clear H70059
  (try simp only [PU])
  refine TK 59 (v := ?v70061) H70060 ?hy70061 ?_
  case hy70061 => (intro w hSw; (try dsimp only at hSw); go_simp <;> first | with_reducible rfl | rw [if_neg (by omega)] | rw [if_pos (by omega)])
  (try simp only [PU])
  refine TK 60 (v := ?v70062) H70060 ?hy70062 ?_
  case hy70062 => (intro w hSw; (try dsimp only at hSw); go_simp <;> first | with_reducible rfl | rw [if_neg (by omega)] | rw [if_pos (by omega)])
  (try simp only [PU])
  refine TK 61 (v := ?v70063) H70060 ?hy70063 ?_
  case hy70063 => (intro w hSw; (try dsimp only at hSw); go_simp <;> first | with_reducible rfl | rw [if_neg (by omega)] | rw [if_pos (by omega)])
  (try simp only [PU])
  refine wpAnyH_ready (rs := [62]) (by kernel_rfl) (by simp) ?_
  refine AllReadyH.cons (o := ⟨_, _, _, _, _, _⟩) rfl (fun K hK => ?step70064x0) ?more70064x0
  case more70064x0 => exact AllReadyH.nil
  go_simp
  ((with_reducible refine (HD.out _ (by solve_by_elim [X0, X1, X2, X3])).mono ?_); rintro r v62 ⟨rfl, hy62⟩; replace hy62 : Ext w9 v62 := Ext.trans (a := w9) (by solve_by_elim [X0, X1, X2, X3]) hy62)
  refine hK.out _ _ ?hS70064x0 (fun H70064 => ?_)
  case hS70064x0 => first | (exact MK9.out _ (by solve_by_elim [X0, X1, X2, X3])) | ((try dsimp only); (exact MK9.out _ (by solve_by_elim [X0, X1, X2, X3])))
  clear hK K
  clear H70060
  (try simp only [PU])
  refine TK 63 (v := ?v70065) H70064 ?hy70065 ?_
  case hy70065 => (intro w hSw; (try dsimp only at hSw); go_simp <;> first | with_reducible rfl | rw [if_neg (by omega)] | rw [if_pos (by omega)])
  (try simp only [PU])
  refine TK 64 (v := ?v70066) H70064 ?hy70066 ?_
  case hy70066 => (intro w hSw; (try dsimp only at hSw); go_simp <;> first | with_reducible rfl | rw [if_neg (by omega)] | rw [if_pos (by omega)])
  (try simp only [PU])
  refine TK 65 (v := ?v70067) H70064 ?hy70067 ?_
  case hy70067 => (intro w hSw; (try dsimp only at hSw); go_simp <;> first | with_reducible rfl | rw [if_neg (by omega)] | rw [if_pos (by omega)])
  (try simp only [PU])
  refine TK 66 (v := ?v70068) H70064 ?hy70068 ?_
  case hy70068 => (intro w hSw; (try dsimp only at hSw); go_simp <;> first | with_reducible rfl | rw [if_neg (by omega)] | rw [if_pos (by omega)])
  (try simp only [PU])
  refine wpAnyH_ready (rs := [67]) (by kernel_rfl) (by simp) ?_
  refine AllReadyH.cons (o := ⟨_, _, _, _, _, _⟩) rfl (fun K hK => ?step70069x0) ?more70069x0
  case more70069x0 => exact AllReadyH.nil
  go_simp
  ((with_reducible refine (HE.out _ (by solve_by_elim [X0, X1, X2, X3])).mono ?_); rintro r v67 ⟨A67, c67, rfl, hy67⟩; replace hy67 : Ext w9 v67 := Ext.trans (a := w9) (by solve_by_elim [X0, X1, X2, X3]) hy67)
  refine hK.out _ _ ?hS70069x0 (fun H70069 => ?_)
  case hS70069x0 => first | (exact MK9.out _ (by solve_by_elim [X0, X1, X2, X3])) | ((try dsimp only); (exact MK9.out _ (by solve_by_elim [X0, X1, X2, X3])))
  clear hK K
  clear H70064
  (try simp only [PU])
  refine TK 68 (v := ?v70070) H70069 ?hy70070 ?_
  case hy70070 => (intro w hSw; (try dsimp only at hSw); go_simp <;> first | with_reducible rfl | rw [if_neg (by omega)] | rw [if_pos (by omega)])
  (try simp only [PU])
  refine TK 69 (v := ?v70071) H70069 ?hy70071 ?_
  case hy70071 => (intro w hSw; (try dsimp only at hSw); go_simp <;> first | with_reducible rfl | rw [if_neg (by omega)] | rw [if_pos (by omega)])
  (try simp only [PU])
  refine TK 70 (v := ?v70072) H70069 ?hy70072 ?_
  case hy70072 => (intro w hSw; (try dsimp only at hSw); go_simp <;> first | with_reducible rfl | rw [if_neg (by omega)] | rw [if_pos (by omega)])
  (try simp only [PU])
  refine TK 71 (v := ?v70073) H70069 ?hy70073 ?_
  case hy70073 => (intro w hSw; (try dsimp only at hSw); go_simp <;> first | with_reducible rfl | rw [if_neg (by omega)] | rw [if_pos (by omega)])
  (try simp only [PU])
  refine wpAnyH_done (by kernel_rfl) ?_ _
  clear H70069
  go_wp2_with fail
  go_ret
  exact ⟨rfl, HX9.out.trans (by solve_by_elim [X0, X1, X2, X3])⟩
 go_simp
 ((with_reducible refine (HR.out _ (by solve_by_elim [X0, X1, X2, X3])).mono ?_); rintro r v50 ⟨A50, c50, rfl, hU50, hy50⟩; replace hy50 : Ext w9 v50 := Ext.trans (a := w9) (by solve_by_elim [X0, X1, X2, X3]) hy50)
 refine hK.out _ _ ?hS70058x0 (fun H70058 => ?_)
 case hS70058x0 => first | (exact MK9.out _ (by solve_by_elim [X0, X1, X2, X3])) | ((try dsimp only); (exact MK9.out _ (by solve_by_elim [X0, X1, X2, X3])))
 clear hK K
 clear H70047
 (try simp only [PU])
 refine wpAnyH_ready (rs := [57]) (by kernel_rfl) (by simp) ?_
 refine AllReadyH.cons (o := ⟨_, _, _, _, _, _⟩) rfl (fun K hK => ?step70074x0) ?more70074x0
 case more70074x0 => exact AllReadyH.nil
 go_simp
 refine hK.out _ _ ?hS70074x0 (fun H70074 => ?_)
 case hS70074x0 => first | (exact MK9.out _ (by solve_by_elim [X0, X1, X2, X3])) | ((try dsimp only); (exact MK9.out _ (by solve_by_elim [X0, X1, X2, X3])))
 clear hK K
 clear H70058
 (try simp only [PU])
 refine wpAnyH_ready (rs := [58]) (by kernel_rfl) (by simp) ?_
 refine AllReadyH.cons (o := ⟨_, _, _, _, _, _⟩) rfl (fun K hK => ?step70075x0) ?more70075x0
 case more70075x0 => exact AllReadyH.nil
 go_simp
 ((with_reducible refine (lv_Adj _ _ _ _ _ _ _ (Shares.ext hU50 (by solve_by_elim [X0, X1, X2, X3])) (sh_two _ ⟨1, 2, 1⟩ ⟨1, 3, 2⟩)).mono ?_); rintro r v58 ⟨rfl, hy58⟩; replace hy58 : Ext w9 v58 := Ext.trans (a := w9) (by solve_by_elim [X0, X1, X2, X3]) hy58)
 refine hK.out _ _ ?hS70075x0 (fun H70075 => ?_)
 case hS70075x0 => first | (exact MK9.out _ (by solve_by_elim [X0, X1, X2, X3])) | ((try dsimp only); (exact MK9.out _ (by solve_by_elim [X0, X1, X2, X3])))
 clear hK K
 clear H70074
 (try simp only [PU])
 refine TK 59 (v := ?v70076) H70075 ?hy70076 ?_
 case hy70076 => (intro w hSw; (try dsimp only at hSw); go_simp <;> first | with_reducible rfl | rw [if_neg (by omega)] | rw [if_pos (by omega)])
 (try simp only [PU])
 refine TK 60 (v := ?v70077) H70075 ?hy70077 ?_
 case hy70077 => (intro w hSw; (try dsimp only at hSw); go_simp <;> first | with_reducible rfl | rw [if_neg (by omega)] | rw [if_pos (by omega)])
 (try simp only [PU])
 refine TK 61 (v := ?v70078) H70075 ?hy70078 ?_
 case hy70078 => (intro w hSw; (try dsimp only at hSw); go_simp <;> first | with_reducible rfl | rw [if_neg (by omega)] | rw [if_pos (by omega)])
 (try simp only [PU])
 refine wpAnyH_ready (rs := [62]) (by kernel_rfl) (by simp) ?_
 refine AllReadyH.cons (o := ⟨_, _, _, _, _, _⟩) rfl (fun K hK => ?step70079x0) ?more70079x0
 case more70079x0 => exact AllReadyH.nil
 go_simp
 ((with_reducible refine (HD.out _ (by solve_by_elim [X0, X1, X2, X3])).mono ?_); rintro r v62 ⟨rfl, hy62⟩; replace hy62 : Ext w9 v62 := Ext.trans (a := w9) (by solve_by_elim [X0, X1, X2, X3]) hy62)
 refine hK.out _ _ ?hS70079x0 (fun H70079 => ?_)
 case hS70079x0 => first | (exact MK9.out _ (by solve_by_elim [X0, X1, X2, X3])) | ((try dsimp only); (exact MK9.out _ (by solve_by_elim [X0, X1, X2, X3])))
 clear hK K
 clear H70075
 (try simp only [PU])
 refine TK 63 (v := ?v70080) H70079 ?hy70080 ?_
 case hy70080 => (intro w hSw; (try dsimp only at hSw); go_simp <;> first | with_reducible rfl | rw [if_neg (by omega)] | rw [if_pos (by omega)])
 (try simp only [PU])
 refine TK 64 (v := ?v70081) H70079 ?hy70081 ?_
 case hy70081 => (intro w hSw; (try dsimp only at hSw); go_simp <;> first | with_reducible rfl | rw [if_neg (by omega)] | rw [if_pos (by omega)])
 (try simp only [PU])
 refine TK 65 (v := ?v70082) H70079 ?hy70082 ?_
 case hy70082 => (intro w hSw; (try dsimp only at hSw); go_simp <;> first | with_reducible rfl | rw [if_neg (by omega)] | rw [if_pos (by omega)])
 (try simp only [PU])
 refine TK 66 (v := ?v70083) H70079 ?hy70083 ?_
 case hy70083 => (intro w hSw; (try dsimp only at hSw); go_simp <;> first | with_reducible rfl | rw [if_neg (by omega)] | rw [if_pos (by omega)])
 (try simp only [PU])
 refine wpAnyH_ready (rs := [67]) (by kernel_rfl) (by simp) ?_
 refine AllReadyH.cons (o := ⟨_, _, _, _, _, _⟩) rfl (fun K hK => ?step70084x0) ?more70084x0
 case more70084x0 => exact AllReadyH.nil
 go_simp
 ((with_reducible refine (HE.out _ (by solve_by_elim [X0, X1, X2, X3])).mono ?_); rintro r v67 ⟨A67, c67, rfl, hy67⟩; replace hy67 : Ext w9 v67 := Ext.trans (a := w9) (by solve_by_elim [X0, X1, X2, X3]) hy67)
 refine hK.out _ _ ?hS70084x0 (fun H70084 => ?_)
 case hS70084x0 => first | (exact MK9.out _ (by solve_by_elim [X0, X1, X2, X3])) | ((try dsimp only); (exact MK9.out _ (by solve_by_elim [X0, X1, X2, X3])))
 clear hK K
 clear H70079
 (try simp only [PU])
 refine TK 68 (v := ?v70085) H70084 ?hy70085 ?_
 case hy70085 => (intro w hSw; (try dsimp only at hSw); go_simp <;> first | with_reducible rfl | rw [if_neg (by omega)] | rw [if_pos (by omega)])
 (try simp only [PU])
 refine TK 69 (v := ?v70086) H70084 ?hy70086 ?_
 case hy70086 => (intro w hSw; (try dsimp only at hSw); go_simp <;> first | with_reducible rfl | rw [if_neg (by omega)] | rw [if_pos (by omega)])
 (try simp only [PU])
 refine TK 70 (v := ?v70087) H70084 ?hy70087 ?_
 case hy70087 => (intro w hSw; (try dsimp only at hSw); go_simp <;> first | with_reducible rfl | rw [if_neg (by omega)] | rw [if_pos (by omega)])
 (try simp only [PU])
 refine TK 71 (v := ?v70088) H70084 ?hy70088 ?_
 case hy70088 => (intro w hSw; (try dsimp only at hSw); go_simp <;> first | with_reducible rfl | rw [if_neg (by omega)] | rw [if_pos (by omega)])
 (try simp only [PU])
 refine wpAnyH_done (by kernel_rfl) ?_ _
 clear H70084
 go_wp2_with fail
 go_ret
 exact ⟨rfl, HX9.out.trans (by solve_by_elim [X0, X1, X2, X3])⟩
end Go.Proofs.Ytnheioehadldmaa

/- THE WALKS over the laws ColumnOfs, ColumnReads. -/
namespace Go.Proofs.Ytnheioehadldmaa
open Go.RowKit
theorem same_self (c : Col) (ok ok' : Nat → Prop) (A B C D E F G H : Option Addr) (k0 k1 k2 k3 j0 j1 j2 j3 : Nat) (w : World) (ha : ColAt w ok A B C D c) (hb : ColAt w ok' E F G H c) :
  Calls Try.prog 10 #[agC c A B C D k0 k1 k2 k3, agC c E F G H j0 j1 j2 j3] w fun e w' => e = .returned (.bool true) ∧ Ext w w' :=
 (r12_Same c c ok ok' A B C D E F G H k0 k1 k2 k3 j0 j1 j2 j3 w ha hb).mono (fun _ _ ⟨h1, h2⟩ => ⟨h1.trans (by simp), h2⟩)
end Go.Proofs.Ytnheioehadldmaa

/- WHAT THE ROWS OF CHAPTER 12 LIST (nothing); entries, columns, bytes that come in. -/
namespace Go.Proofs.Ytnheioehadldmaa
open Go.ChangeShapes Go.WideShapes Go.ChangeAt Go.RowKit
open Go.ChangeMaps (open_string shut_string)
abbrev laidList : List (String × DataW Unit) := Rows.columnOfsRow.laid
/-- The laid heap meets the condition. -/
theorem door_met (os : Os) (args : Array Value) : laidMetH Try.prog laidList ((World.laidAll Try.prog os laidList).forCall (fun _ _ => 0) ⟨#[], args, []⟩).memory := by
 rw [MakeChecks.laidMetH_plain _ _ _ (by kernel_rfl)]
 exact laidMet_laidAll _ (by kernel_rfl) (by kernel_rfl)
theorem cellsIntC : Try.prog.cellsOf 3 = 1 := by kernel_rfl
theorem cellsIntsC : Try.prog.cellsOf 24 = 1 := by kernel_rfl
theorem cellsByteC : Try.prog.cellsOf 5 = 1 := by kernel_rfl
theorem cellsColC : Try.prog.cellsOf 26 = 4 := by kernel_rfl
theorem bytesIntC : 0 < Try.prog.bytesOf 3 := of_decide_eq_true (by kernel_rfl)
theorem bytesByteC : 0 < Try.prog.bytesOf 5 := of_decide_eq_true (by kernel_rfl)
section
variable {H : Type} {enc : TypeId × Value → H} {w : World} {base : Nat} {spare : Nat → Bool} {held : Bool}
theorem open_intE {fuel : Nat} {cs : List Value} {x : DataW H × List MemPlace} (_hwt : ∀ k ∈ x.1.weights Try.prog 3, k ≤ reachBytes) (h : DataW.trod enc Try.prog w base spare held fuel 3 cs = some x) : ∃ v : Int, (True) ∧ ∀ b o, (∀ j u, cs[j]? = some u → w.cell? ⟨b, o + j, none⟩ = some u) → IntC w (fun _ => True) b o v := by
 obtain ⟨k, e, -, -⟩ := DataW.trod_int (k := .i64) Try.underlying3 h
 cases e
 exact ⟨k, trivial, fun b o hc => ⟨trivial, hc 0 _ rfl⟩⟩
theorem open_byteE {fuel : Nat} {cs : List Value} {x : DataW H × List MemPlace} (_hwt : ∀ k ∈ x.1.weights Try.prog 5, k ≤ reachBytes) (h : DataW.trod enc Try.prog w base spare held fuel 5 cs = some x) : ∃ v : Nat, (v < 256) ∧ ∀ b o, (∀ j u, cs[j]? = some u → w.cell? ⟨b, o + j, none⟩ = some u) → ByteC w (fun _ => True) b o v := by
 obtain ⟨k, e, -, hk⟩ := DataW.trod_int (k := .u8) Try.underlying5 h
 cases e
 have hb : 0 ≤ k ∧ k < 256 := by simp [Lit.wf, IntKind.min, IntKind.max, IntKind.signed, IntKind.bits] at hk; omega
 exact ⟨k.toNat, by omega, fun b o hc => ⟨trivial, by have h0 := hc 0 _ rfl; rw [Nat.add_zero] at h0; rw [h0, Int.toNat_of_nonneg hb.1]⟩⟩
theorem open_intsC {fuel : Nat} {cs : List Value} {x : DataW H × List MemPlace} (hwt : ∀ k ∈ x.1.weights Try.prog 24, k ≤ reachBytes) (h : DataW.trod enc Try.prog w base spare held fuel 24 cs = some x) :
  ∃ (l : List Int) (A : Option Addr) (c : Nat), cs = [.slice A l.length c] ∧ l.length ≤ c ∧ SliceR (IntC w (fun _ => True)) 1 A l ∧ ∀ v ∈ l, True :=
 slice_gen (α := Int) Try.underlying24 cellsIntC bytesIntC (by decide) (IntC w (fun _ => True)) (fun v => True) (fun _ _ _ _ hk hy => open_intE hk hy) hwt h
theorem open_bytesC {fuel : Nat} {cs : List Value} {x : DataW H × List MemPlace} (hwt : ∀ k ∈ x.1.weights Try.prog 38, k ≤ reachBytes) (h : DataW.trod enc Try.prog w base spare held fuel 38 cs = some x) :
  ∃ (l : List Nat) (A : Option Addr) (c : Nat), cs = [.slice A l.length c] ∧ l.length ≤ c ∧ SliceR (ByteC w (fun _ => True)) 1 A l ∧ ∀ v ∈ l, v < 256 :=
 slice_gen (α := Nat) Try.underlying38 cellsByteC bytesByteC (by decide) (ByteC w (fun _ => True)) (fun v => v < 256) (fun _ _ _ _ hk hy => open_byteE hk hy) hwt h
set_option maxRecDepth 100000 in
theorem top_bytes {r : Reach} {b0 : Nat} {v : Value} {dd : DataW H} {p : List MemPlace} (hw : Value.okWide Try.prog w r b0 38 v) (hwt : ∀ k ∈ dd.weights Try.prog 38, k ≤ reachBytes) (h : DataW.Trod enc Try.prog w base spare held 38 v dd p) : ∃ (l : List Nat) (A : Option Addr) (c : Nat), v = .slice A l.length c ∧ l.length ≤ c ∧ Byts w (fun _ => True) A l ∧ ∀ x ∈ l, x < 256 := by
 obtain ⟨fuel, hf⟩ := h
 obtain ⟨A', n', c', rfl⟩ := okWide_slice Try.underlying38 hw
 obtain ⟨l, A, c, e, h1, h2, h3⟩ := open_bytesC hwt hf
 exact ⟨l, A, c, by simpa [Value.cells] using e, h1, h2, h3⟩
set_option maxRecDepth 100000 in
theorem top_col {r : Reach} {b0 : Nat} {v : Value} {dd : DataW H} {p : List MemPlace} (hv : Value.okWide Try.prog w r b0 26 v) (hwt0 : ∀ k ∈ dd.weights Try.prog 26, k ≤ reachBytes) (h0 : DataW.Trod enc Try.prog w base spare held 26 v dd p) :
  ∃ (c : Col) (A B Cx D : Option Addr) (k0 k1 k2 k3 : Nat), v = agC c A B Cx D k0 k1 k2 k3 ∧ ColAt w (fun _ => True) A B Cx D c := by
 obtain ⟨csa, rfl, -⟩ := okWide_struct Try.underlying26 hv
 obtain ⟨fuel, hf⟩ := h0
 obtain ⟨cs, rfl⟩ : ∃ cs : List Value, csa = cs.toArray := ⟨csa.toList, by simp⟩
 obtain ⟨x, hx⟩ : ∃ x : DataW H × List MemPlace, x = (dd, p) := ⟨_, rfl⟩
 rw [← hx] at hf
 have hwt : ∀ k ∈ x.1.weights Try.prog 26, k ≤ reachBytes := by rw [hx]; exact hwt0
 have h : DataW.trod enc Try.prog w base spare held fuel 26 cs = some x := by simpa [Value.cells] using hf
 obtain ⟨xs, m, hm, hxx, hl, hlen, hg⟩ := DataW.trod_struct Try.underlying26 h
 rw [cellsColC] at hl
 obtain ⟨c0, c1, c2, c3, rfl⟩ := four_L hl
 obtain ⟨y0, y1, y2, y3, rfl⟩ := four_L (show xs.length = 4 from hlen)
 have g0 : DataW.trod enc Try.prog w base spare held m 24 (([c0, c1, c2, c3].drop 0).take (Try.prog.cellsOf 24)) = some y0 := hg 0 _ rfl
 rw [cellsIntsC] at g0
 have g1 : DataW.trod enc Try.prog w base spare held m 24 (([c0, c1, c2, c3].drop 1).take (Try.prog.cellsOf 24)) = some y1 := hg 1 _ rfl
 rw [cellsIntsC] at g1
 have g2 : DataW.trod enc Try.prog w base spare held m 24 (([c0, c1, c2, c3].drop 2).take (Try.prog.cellsOf 24)) = some y2 := hg 2 _ rfl
 rw [cellsIntsC] at g2
 have g3 : DataW.trod enc Try.prog w base spare held m 24 (([c0, c1, c2, c3].drop 3).take (Try.prog.cellsOf 24)) = some y3 := hg 3 _ rfl
 rw [cellsIntsC] at g3
 have hwe : ∀ k ∈ DataW.weightsEach Try.prog [24, 24, 24, 24] [y0.1, y1.1, y2.1, y3.1], k ≤ reachBytes := fun k hk => hwt k (by
  rw [show x.1 = .agg [y0.1, y1.1, y2.1, y3.1] from congrArg Prod.fst hxx]
  simp only [DataW.weights, Try.underlying26]
  exact hk)
 obtain ⟨l0, A0, c0', e0, -, v0, -⟩ := open_intsC (fun k hk => hwe k (DataW.weights_mem_each (j := 0) rfl rfl k hk)) g0
 obtain ⟨l1, A1, c1', e1, -, v1, -⟩ := open_intsC (fun k hk => hwe k (DataW.weights_mem_each (j := 1) rfl rfl k hk)) g1
 obtain ⟨l2, A2, c2', e2, -, v2, -⟩ := open_intsC (fun k hk => hwe k (DataW.weights_mem_each (j := 2) rfl rfl k hk)) g2
 obtain ⟨l3, A3, c3', e3, -, v3, -⟩ := open_intsC (fun k hk => hwe k (DataW.weights_mem_each (j := 3) rfl rfl k hk)) g3
 cases e0; cases e1; cases e2; cases e3
 exact ⟨⟨l0, l1, l2, l3⟩, A0, A1, A2, A3, c0', c1', c2', c3', rfl, ⟨v0, v1, v2, v3⟩⟩
end
end Go.Proofs.Ytnheioehadldmaa

/- PLAIN: Decode undoes Encode, every encoding is unique, Of undoes Entries. -/
namespace Go.Proofs.Ytnheioehadldmaa
theorem uI_put {u : Nat} (h : u ≤ 9223372036854775807) (t : List Nat) : uI (vi u ++ t) = .ok ((u : Int), t) := by unfold uI; rw [uE_put h]
theorem idM_at {base n x : Int} (h : base + n = x) (hx : idOk x) (hn : -1000000 ≤ n ∧ n ≤ 1000000) (r : List Nat) : idM base n r = .ok (x, r) := by
 subst h
 exact idM_yes (by omega) (by omega) (idB_iff.2 hx)
theorem nearM_put {base x : Int} (hx : idOk x) (h : -1000000 ≤ x - base ∧ x - base ≤ 1000000) (t : List Nat) : nearM base (vi (zig (x - base)) ++ t) = .ok (x, t) := by
 unfold nearM
 rw [iE_put (by omega)]
 exact idM_at (by omega) hx h t
theorem val_ids {c : Col} (h : validP c) : (∀ i, i < c.nodes.length → idOk c.nodes[i]!) ∧ ∀ k, k < c.tos.length → idOk c.tos[k]! ∧ idOk c.edges[k]! := by
 obtain ⟨⟨-, hs⟩, ht, -⟩ := (valid_ref c).1 h
 exact ⟨fun i hi => (hs i hi).1, ht⟩
theorem take_bang {l : List Int} {k : Nat} (h : k < l.length) : l.take k ++ [l[k]!] = l.take (k + 1) := by rw [List.take_succ_eq_append_getElem h, getElem!_pos l k h]
theorem ents_put {c : Col} (hv : validP c) (hse : c.tos.length = c.edges.length) {i : Nat} (hi : i < c.nodes.length) (t : List Nat) : ∀ d k, c.first[i]!.toNat ≤ k → k + d ≤ c.tos.length → entsE d (prevT c i k) (prevE c k) (c.tos.take k) (c.edges.take k) ((List.range' k d).flatMap (entB c i) ++ t) = .ok (prevE c (k + d), c.tos.take (k + d), c.edges.take (k + d), t)
 | 0, k, _, _ => rfl
 | d + 1, k, hk, hd => by
  obtain ⟨h1, h2⟩ := nb_ent hv hi (k := k) (by omega)
  obtain ⟨i1, i2⟩ := (val_ids hv).2 k (by omega)
  rw [List.range'_succ, List.flatMap_cons]
  have ih := ents_put hv hse hi t d (k + 1) (by omega) (by omega)
  unfold entsE
  have e1 : nearM (prevT c i k) ((entB c i k ++ (List.range' (k + 1) d).flatMap (entB c i)) ++ t) = .ok (c.tos[k]!, vi (zig (c.edges[k]! - prevE c k)) ++ ((List.range' (k + 1) d).flatMap (entB c i) ++ t)) := by
   unfold entB
   rw [List.append_assoc, List.append_assoc]
   exact nearM_put i1 h1 _
  rw [e1]
  simp only
  rw [nearM_put i2 h2 _]
  simp only
  rw [take_bang (by omega), take_bang (by omega), ← prevT_succ (i := i) hk, ← prevE_succ c k, ih]
  rw [show k + 1 + d = k + (d + 1) by omega]
theorem rows_put {c : Col} (hv : validP c) (hs : ShapeC c) (hm : c.tos.length ≤ 1000000) (t : List Nat) : ∀ d i, i + d = c.nodes.length → rowsE d (prevN c i) (prevE c c.first[i]!.toNat) ⟨c.nodes.take i, c.first.take i, c.tos.take c.first[i]!.toNat, c.edges.take c.first[i]!.toNat⟩ ((List.range' i d).flatMap (rowB c) ++ t) = .ok (⟨c.nodes, c.first.take c.nodes.length, c.tos, c.edges⟩, t)
 | 0, i, h => by
  have e : i = c.nodes.length := by omega
  subst e
  have hl : c.first[c.nodes.length]!.toNat = c.tos.length := by rw [hs.last]; omega
  have hse := hs.same
  show Except.ok (_, _) = _
  rw [hl, List.take_length, List.take_length, hse, List.take_length]
  rfl
 | d + 1, i, h => by
  have hi : i < c.nodes.length := by omega
  have ih := rows_put hv hs hm t d (i + 1) (by omega)
  have hnb := nb_node hv hi
  have hid := (val_ids hv).1 i hi
  have hlt := hs.lt (i := i) (j := i + 1) (by omega) (by omega)
  have hnn := hs.nn (i := i) (by omega)
  have hle := hs.le (i := i + 1) (by omega)
  have hfl := hs.len
  rw [List.range'_succ, List.flatMap_cons]
  unfold rowsE
  have hB : (rowB c i ++ (List.range' (i + 1) d).flatMap (rowB c)) ++ t = vi (c.nodes[i]! - prevN c i).toNat ++ (vi (c.first[i + 1]!.toNat - c.first[i]!.toNat) ++ (entsB c i c.first[i + 1]!.toNat ++ ((List.range' (i + 1) d).flatMap (rowB c) ++ t))) := by
   unfold rowB hdB
   simp only [List.append_assoc]
  rw [hB, uI_put (by omega)]
  simp only
  rw [idM_at (x := c.nodes[i]!) (by omega) hid (by omega)]
  simp only
  rw [uI_put (by omega)]
  simp only
  rw [if_neg (by omega)]
  have hE : entsE (c.first[i + 1]!.toNat - c.first[i]!.toNat) c.nodes[i]! (prevE c c.first[i]!.toNat) (c.tos.take c.first[i]!.toNat) (c.edges.take c.first[i]!.toNat) (entsB c i c.first[i + 1]!.toNat ++ ((List.range' (i + 1) d).flatMap (rowB c) ++ t)) = .ok (prevE c c.first[i + 1]!.toNat, c.tos.take c.first[i + 1]!.toNat, c.edges.take c.first[i + 1]!.toNat, (List.range' (i + 1) d).flatMap (rowB c) ++ t) := by
   have h1 := ents_put hv hs.same hi ((List.range' (i + 1) d).flatMap (rowB c) ++ t) (c.first[i + 1]!.toNat - c.first[i]!.toNat) c.first[i]!.toNat (Nat.le_refl _) (by omega)
   rw [prevT_start, show c.first[i]!.toNat + (c.first[i + 1]!.toNat - c.first[i]!.toNat) = c.first[i + 1]!.toNat by omega] at h1
   exact h1
  rw [show ((c.first[i + 1]!.toNat - c.first[i]!.toNat : Nat) : Int).toNat = c.first[i + 1]!.toNat - c.first[i]!.toNat by omega, hE]
  simp only
  have hF : c.first.take i ++ [((c.tos.take c.first[i]!.toNat).length : Int)] = c.first.take (i + 1) := by
   rw [List.length_take, Nat.min_eq_left (by omega), show ((c.first[i]!.toNat : Nat) : Int) = c.first[i]! by omega, take_bang (by omega)]
  rw [hF, take_bang hi, ← prevN_succ c i, ih]
theorem enc_rows (c : Col) : encC c = vi c.nodes.length ++ (List.range' 0 c.nodes.length).flatMap (rowB c) := by unfold encC rowsB; rw [List.range_eq_range']
theorem valid_norm {c : Col} (h : validP c) : validP (normC c) := by
 unfold normC
 split
 ·rename_i hn
  rcases h with ⟨h1, h2, h3, h4⟩ | ⟨h1, h2, h3⟩
  ·exact .inl ⟨h1, rfl, h3, h4⟩
  ·have hl : c.tos.length = 0 := by
    have h5 := h1.last
    rw [hn] at h5
    have h6 := h1.zero
    show c.tos.length = 0
    have h7 : c.first[0]! = (c.tos.length : Int) := h5
    omega
   have hse := h1.same
   exact .inl ⟨hn, rfl, List.eq_nil_of_length_eq_zero hl, List.eq_nil_of_length_eq_zero (show c.edges.length = 0 by omega)⟩
 ·exact h
theorem dec_enc {c : Col} (hv : validP c) (hm : c.tos.length ≤ 1000000) (hn : c.nodes.length ≤ 1000000) : decC (encC c) = .ok (normC c) := by
 by_cases h0 : c.nodes = []
 ·have hN : normC c = noCol := by
   have h1 := valid_norm hv
   rcases h1 with ⟨h1, h2, h3, h4⟩ | ⟨h1, -, -⟩
   ·generalize normC c = x at *
    obtain ⟨a, b, d, e⟩ := x
    cases h1; cases h2; cases h3; cases h4
    rfl
   ·have := h1.len
    unfold normC at this
    rw [if_pos h0, h0] at this
    cases this
  rw [hN, enc_rows, h0]
  show decC (vi 0 ++ []) = _
  unfold decC
  rw [uI_put (by decide)]
  show endC (.ok (noCol, [])) = _
  unfold endC
  simp only
  have hc : colB (finC noCol) = true := colB_iff.2 (.inl ⟨rfl, rfl, rfl, rfl⟩)
  rw [if_pos hc, if_pos trivial]
  rfl
 ·have hs : ShapeC c := by
   rcases hv with ⟨h1, -⟩ | ⟨h1, -⟩
   ·exact absurd h1 h0
   ·exact h1
  have hz : c.first[0]!.toNat = 0 := by rw [hs.zero]; rfl
  have h1 := rows_put hv hs hm [] c.nodes.length 0 (by omega)
  rw [hz, List.append_nil] at h1
  have h1' : rowsE c.nodes.length 0 0 noCol ((List.range' 0 c.nodes.length).flatMap (rowB c)) = .ok (⟨c.nodes, c.first.take c.nodes.length, c.tos, c.edges⟩, []) := h1
  have hfin : finC ⟨c.nodes, c.first.take c.nodes.length, c.tos, c.edges⟩ = c := by
   unfold finC
   rw [if_neg h0]
   have hfl := hs.len
   show (⟨c.nodes, c.first.take c.nodes.length ++ [(c.tos.length : Int)], c.tos, c.edges⟩ : Col) = c
   rw [← hs.last, take_bang (by omega), List.take_of_length_le (by omega)]
  rw [enc_rows]
  unfold decC
  rw [uI_put (by omega)]
  simp only
  rw [show ((c.nodes.length : Nat) : Int).toNat = c.nodes.length by omega, h1']
  unfold endC
  simp only
  rw [hfin, if_pos (colB_iff.2 hv), if_pos trivial]
  unfold normC
  rw [if_neg h0]
/-- the other way: what a sequence of bytes that is decoded looks like -/
def encEL : Int → Int → List (Int × Int) → List Nat
 | _, _, [] => []
 | tv, ed, (x, y) :: l => vi (zig (x - tv)) ++ (vi (zig (y - ed)) ++ encEL x y l)
def lastE : Int → List (Int × Int) → Int
 | ed, [] => ed
 | _, (_, y) :: l => lastE y l
def encRL : Int → Int → List (Int × List (Int × Int)) → List Nat
 | _, _, [] => []
 | nd, ed, (x, l) :: rs => vi (x - nd).toNat ++ (vi l.length ++ (encEL x ed l ++ encRL x (lastE ed l) rs))
def offsL : Nat → List (Int × List (Int × Int)) → List Int
 | _, [] => []
 | o, (_, l) :: rs => (o : Int) :: offsL (o + l.length) rs
def totL : List (Int × List (Int × Int)) → Nat
 | [] => 0
 | (_, l) :: rs => l.length + totL rs
theorem nearM_inv {base x : Int} {r s : List Nat} (hb : ∀ c ∈ r, c < 256) (h : nearM base r = .ok (x, s)) : r = vi (zig (x - base)) ++ s := by
 unfold nearM at h
 cases hi : iE r with
 | error e => rw [hi] at h; cases h
 | ok p =>
  obtain ⟨n, r1⟩ := p
  rw [hi] at h
  obtain ⟨h1, -, -⟩ := iE_inv hb hi
  have h2 : idM base n r1 = .ok (x, s) := h
  unfold idM at h2
  split at h2
  ·cases h2
  ·injection h2 with h2
   injection h2 with e1 e2
   subst e1; subst e2
   rw [h1, show base + n - base = n by omega]
theorem suf_byte {r a s : List Nat} (hb : ∀ c ∈ r, c < 256) (h : r = a ++ s) : ∀ c ∈ s, c < 256 := fun c hc => hb c (by rw [h]; exact List.mem_append.2 (.inr hc))
theorem ents_inv : ∀ n tv ed T E (r : List Nat) ed' T' E' s, (∀ c ∈ r, c < 256) → entsE n tv ed T E r = .ok (ed', T', E', s) → ∃ l : List (Int × Int), l.length = n ∧ T' = T ++ l.map Prod.fst ∧ E' = E ++ l.map Prod.snd ∧ ed' = lastE ed l ∧ r = encEL tv ed l ++ s
 | 0, tv, ed, T, E, r, ed', T', E', s, _, h => by
  unfold entsE at h
  injection h with h
  injection h with e1 h
  injection h with e2 h
  injection h with e3 e4
  exact ⟨[], rfl, by rw [← e2]; simp, by rw [← e3]; simp, e1.symm, e4⟩
 | n + 1, tv, ed, T, E, r, ed', T', E', s, hb, h => by
  unfold entsE at h
  cases h1 : nearM tv r with
  | error e => rw [h1] at h; cases h
  | ok p =>
   obtain ⟨x, r1⟩ := p
   rw [h1] at h
   simp only at h
   have k1 := nearM_inv hb h1
   have hb1 := suf_byte hb k1
   cases h2 : nearM ed r1 with
   | error e => rw [h2] at h; cases h
   | ok p =>
    obtain ⟨y, r2⟩ := p
    rw [h2] at h
    simp only at h
    have k2 := nearM_inv hb1 h2
    obtain ⟨l, a1, a2, a3, a4, a5⟩ := ents_inv n x y _ _ r2 ed' T' E' s (suf_byte hb1 k2) h
    refine ⟨(x, y) :: l, by rw [List.length_cons, a1], by rw [a2]; simp, by rw [a3]; simp, a4, ?_⟩
    rw [k1, k2, a5]
    show _ = (vi _ ++ (vi _ ++ encEL x y l)) ++ s
    simp only [List.append_assoc]
def flatF (rs : List (Int × List (Int × Int))) : List Int := rs.flatMap (fun x => x.2.map Prod.fst)
def flatS (rs : List (Int × List (Int × Int))) : List Int := rs.flatMap (fun x => x.2.map Prod.snd)
theorem rows_inv : ∀ n node ed (c : Col) (r : List Nat) C s, (∀ x ∈ r, x < 256) → rowsE n node ed c r = .ok (C, s) → ∃ rs : List (Int × List (Int × Int)), rs.length = n ∧ C = ⟨c.nodes ++ rs.map Prod.fst, c.first ++ offsL c.tos.length rs, c.tos ++ flatF rs, c.edges ++ flatS rs⟩ ∧ r = encRL node ed rs ++ s
 | 0, node, ed, c, r, C, s, _, h => by
  unfold rowsE at h
  injection h with h
  injection h with e1 e2
  exact ⟨[], rfl, by rw [← e1]; simp [offsL, flatF, flatS], e2⟩
 | n + 1, node, ed, c, r, C, s, hb, h => by
  unfold rowsE at h
  cases h1 : uI r with
  | error e => rw [h1] at h; cases h
  | ok p =>
   obtain ⟨d, r1⟩ := p
   rw [h1] at h
   simp only at h
   have k1 : ∃ u : Nat, d = (u : Int) ∧ r = vi u ++ r1 := by
    unfold uI at h1
    cases hu : uE r with
    | error e => rw [hu] at h1; cases h1
    | ok q => obtain ⟨u, r'⟩ := q; rw [hu] at h1; injection h1 with h1; injection h1 with e1 e2; subst e2; exact ⟨u, e1.symm, (uE_inv hb hu).1⟩
   obtain ⟨u, hu, k1⟩ := k1
   have hb1 := suf_byte hb k1
   cases h2 : idM node d r1 with
   | error e => rw [h2] at h; cases h
   | ok p =>
    obtain ⟨nd, r2⟩ := p
    rw [h2] at h
    simp only at h
    have k2 : nd = node + d ∧ r2 = r1 := by
     unfold idM at h2
     split at h2
     ·cases h2
     ·injection h2 with h2
      injection h2 with e1 e2
      exact ⟨e1.symm, e2.symm⟩
    obtain ⟨k2, rfl⟩ := k2
    cases h3 : uI r2 with
    | error e => rw [h3] at h; cases h
    | ok p =>
     obtain ⟨many, r3⟩ := p
     rw [h3] at h
     simp only at h
     have k3 : ∃ u : Nat, many = (u : Int) ∧ r2 = vi u ++ r3 := by
      unfold uI at h3
      cases hu : uE r2 with
      | error e => rw [hu] at h3; cases h3
      | ok q => obtain ⟨u, r'⟩ := q; rw [hu] at h3; injection h3 with h3; injection h3 with e1 e2; subst e2; exact ⟨u, e1.symm, (uE_inv hb1 hu).1⟩
     obtain ⟨u3, hu3, k3⟩ := k3
     have hb3 := suf_byte hb1 k3
     split at h
     ·cases h
     ·cases h4 : entsE many.toNat nd ed c.tos c.edges r3 with
      | error e => rw [h4] at h; cases h
      | ok p =>
       obtain ⟨ed', T, E, r4⟩ := p
       rw [h4] at h
       simp only at h
       obtain ⟨l, a1, a2, a3, a4, a5⟩ := ents_inv _ _ _ _ _ _ _ _ _ _ hb3 h4
       obtain ⟨rs, b1, b2, b3⟩ := rows_inv n nd ed' _ r4 C s (suf_byte hb3 a5) h
       refine ⟨(nd, l) :: rs, by rw [List.length_cons, b1], ?_, ?_⟩
       ·rw [b2, a2, a3]
        simp [offsL, flatF, flatS]
       ·rw [k1, k3, a5, b3]
        show _ = (vi _ ++ (vi _ ++ (encEL nd ed l ++ encRL nd (lastE ed l) rs))) ++ s
        rw [← a4, show (nd - node).toNat = u by omega, show l.length = u3 by omega]
        simp only [List.append_assoc]
theorem offs_head (o : Nat) (rs : List (Int × List (Int × Int))) : (offsL o rs ++ [((o + totL rs : Nat) : Int)])[0]? = some (o : Int) := by
 cases rs with
 | nil => rfl
 | cons x rs => rfl
theorem pairs_eq : ∀ {l m : List (Int × Int)}, l.map Prod.fst = m.map Prod.fst → l.map Prod.snd = m.map Prod.snd → l = m
 | [], [], _, _ => rfl
 | [], _ :: _, h, _ => by cases h
 | _ :: _, [], h, _ => by cases h
 | (x, y) :: l, (x', y') :: m, h1, h2 => by
  injection h1 with a1 a2
  injection h2 with b1 b2
  have a1' : x = x' := a1
  have b1' : y = y' := b1
  rw [a1', b1', pairs_eq a2 b2]
theorem rowsL_inj : ∀ (rs rs' : List (Int × List (Int × Int))) (o : Nat), rs.map Prod.fst = rs'.map Prod.fst → offsL o rs ++ [((o + totL rs : Nat) : Int)] = offsL o rs' ++ [((o + totL rs' : Nat) : Int)] → flatF rs = flatF rs' → flatS rs = flatS rs' → rs = rs'
 | [], [], _, _, _, _, _ => rfl
 | [], _ :: _, _, h, _, _, _ => by cases h
 | _ :: _, [], _, h, _, _, _ => by cases h
 | (x, l) :: rs, (x', l') :: rs', o, h1, h2, h3, h4 => by
  injection h1 with a1 a2
  have a1' : x = x' := a1
  have h2' : offsL (o + l.length) rs ++ [((o + l.length + totL rs : Nat) : Int)] = offsL (o + l'.length) rs' ++ [((o + l'.length + totL rs' : Nat) : Int)] := by
   have e : (o : Int) :: (offsL (o + l.length) rs ++ [((o + (l.length + totL rs) : Nat) : Int)]) = (o : Int) :: (offsL (o + l'.length) rs' ++ [((o + (l'.length + totL rs') : Nat) : Int)]) := h2
   injection e with _ e
   rw [Nat.add_assoc, Nat.add_assoc]
   exact e
  have hl : l.length = l'.length := by
   have e1 := offs_head (o + l.length) rs
   have e2 := offs_head (o + l'.length) rs'
   rw [h2', e2] at e1
   injection e1 with e1
   omega
  have f1 : l.map Prod.fst ++ flatF rs = l'.map Prod.fst ++ flatF rs' := h3
  have f2 : l.map Prod.snd ++ flatS rs = l'.map Prod.snd ++ flatS rs' := h4
  obtain ⟨g1, g2⟩ := List.append_inj f1 (by rw [List.length_map, List.length_map, hl])
  obtain ⟨g3, g4⟩ := List.append_inj f2 (by rw [List.length_map, List.length_map, hl])
  have hll := pairs_eq g1 g3
  subst hll
  rw [a1', rowsL_inj rs rs' (o + l.length) a2 h2' g2 g4]
theorem flat_tot : ∀ rs : List (Int × List (Int × Int)), (flatF rs).length = totL rs
 | [] => rfl
 | (x, l) :: rs => by
  show (l.map Prod.fst ++ flatF rs).length = l.length + totL rs
  rw [List.length_append, List.length_map, flat_tot rs]
def colL (rs : List (Int × List (Int × Int))) : Col := ⟨rs.map Prod.fst, offsL 0 rs, flatF rs, flatS rs⟩
theorem dec_inv {b : List Nat} {y : Col} (hb : ∀ x ∈ b, x < 256) (h : decC b = .ok y) : ∃ rs, b = vi rs.length ++ encRL 0 0 rs ∧ y = finC (colL rs) ∧ validP y := by
 unfold decC at h
 cases h1 : uI b with
 | error e => rw [h1] at h; cases h
 | ok p =>
  obtain ⟨cnt, r⟩ := p
  rw [h1] at h
  simp only at h
  have k1 : ∃ u : Nat, cnt = (u : Int) ∧ b = vi u ++ r := by
   unfold uI at h1
   cases hu : uE b with
   | error e => rw [hu] at h1; cases h1
   | ok q => obtain ⟨u, r'⟩ := q; rw [hu] at h1; injection h1 with h1; injection h1 with e1 e2; subst e2; exact ⟨u, e1.symm, (uE_inv hb hu).1⟩
  obtain ⟨u, hu, k1⟩ := k1
  cases h2 : rowsE cnt.toNat 0 0 noCol r with
  | error e => rw [h2] at h; cases h
  | ok p =>
   obtain ⟨C, s⟩ := p
   rw [h2] at h
   unfold endC at h
   simp only at h
   split at h
   ·rename_i hc
    split at h
    ·rename_i hs
     injection h with h
     obtain ⟨rs, a1, a2, a3⟩ := rows_inv _ _ _ _ _ _ _ (suf_byte hb k1) h2
     refine ⟨rs, ?_, ?_, by rw [← h]; exact colB_iff.1 hc⟩
     ·rw [k1, a3, hs, List.append_nil, a1, hu]; rfl
     ·rw [← h, a2]
      congr 1
    ·cases h
   ·cases h
theorem dec_uniq {b b' : List Nat} {y : Col} (hb : ∀ x ∈ b, x < 256) (hb' : ∀ x ∈ b', x < 256) (h : decC b = .ok y) (h' : decC b' = .ok y) : b = b' := by
 obtain ⟨rs, a1, a2, -⟩ := dec_inv hb h
 obtain ⟨rs', c1, c2, -⟩ := dec_inv hb' h'
 have e : finC (colL rs) = finC (colL rs') := a2.symm.trans c2
 have hn : rs.map Prod.fst = rs'.map Prod.fst := by
  have h1 : ∀ c : Col, (finC c).nodes = c.nodes := fun c => by unfold finC; split <;> rfl
  have := congrArg Col.nodes e
  rw [h1, h1] at this
  exact this
 have ht : flatF rs = flatF rs' := by
  have h1 : ∀ c : Col, (finC c).tos = c.tos := fun c => by unfold finC; split <;> rfl
  have := congrArg Col.tos e
  rw [h1, h1] at this
  exact this
 have he : flatS rs = flatS rs' := by
  have h1 : ∀ c : Col, (finC c).edges = c.edges := fun c => by unfold finC; split <;> rfl
  have := congrArg Col.edges e
  rw [h1, h1] at this
  exact this
 have hr : rs = rs' := by
  by_cases h0 : rs.map Prod.fst = []
  ·have h1 : rs = [] := List.map_eq_nil_iff.1 h0
   have h2 : rs' = [] := List.map_eq_nil_iff.1 (hn ▸ h0)
   rw [h1, h2]
  ·have hF := congrArg Col.first e
   unfold finC at hF
   rw [if_neg (show ¬ (colL rs).nodes = [] from h0), if_neg (show ¬ (colL rs').nodes = [] from fun h => h0 (hn.trans h))] at hF
   have hF' : offsL 0 rs ++ [((flatF rs).length : Int)] = offsL 0 rs' ++ [((flatF rs').length : Int)] := hF
   rw [flat_tot, flat_tot] at hF'
   exact rowsL_inj rs rs' 0 hn (by rw [Nat.zero_add, Nat.zero_add]; exact hF') ht he
 rw [a1, c1, hr]
theorem enc_byte (c : Col) : ∀ x ∈ encC c, x < 256 := fun x hx => by
 unfold encC rowsB at hx
 rcases List.mem_append.1 hx with hx | hx
 ·exact vi_byte _ x hx
 ·obtain ⟨i, -, hx⟩ := List.mem_flatMap.1 hx
  unfold rowB hdB entsB at hx
  rcases List.mem_append.1 hx with hx | hx
  ·rcases List.mem_append.1 hx with hx | hx
   ·exact vi_byte _ x hx
   ·exact vi_byte _ x hx
  ·obtain ⟨k, -, hx⟩ := List.mem_flatMap.1 hx
   unfold entB at hx
   rcases List.mem_append.1 hx with hx | hx
   ·exact vi_byte _ x hx
   ·exact vi_byte _ x hx
theorem fin_norm (c : Col) (h0 : c.nodes = [] → c.first = []) : normC (finC c) = finC c := by
 unfold normC finC
 by_cases h : c.nodes = []
 ·rw [if_pos h, if_pos h]
  obtain ⟨a, b, d, e⟩ := c
  have := h0 h
  simp only at this
  subst this
  rfl
 ·rw [if_neg h, if_neg h]
theorem dec_back {b : List Nat} {y : Col} (hb : ∀ x ∈ b, x < 256) (hl : y.tos.length ≤ 1000000) (hn : y.nodes.length ≤ 1000000) (h : decC b = .ok y) : validP y ∧ encC y = b := by
 obtain ⟨rs, -, a2, a3⟩ := dec_inv hb h
 refine ⟨a3, ?_⟩
 have h1 := dec_enc a3 hl hn
 have h2 : normC y = y := by
  rw [a2]
  refine fin_norm _ (fun h => ?_)
  have h3 : rs = [] := List.map_eq_nil_iff.1 h
  rw [h3]; rfl
 rw [h2] at h1
 exact dec_uniq (enc_byte y) hb h1 h
theorem of_ent {c : Col} (h : validP c) : ofR (flatC c) = (0, normC c) := by rw [of_good (valid_good h), valid_pack h]
end Go.Proofs.Ytnheioehadldmaa

/- THE WALK over the law ColumnBack. -/
namespace Go.Proofs.Ytnheioehadldmaa
open Go.RowKit
theorem box_colF (w : World) (v0 v1 v2 v3 : Value) (t : TypeId) : ∃ (q : Nat) (w1 : World), q = w.heap.size ∧ w1 = w.alloc (.cells #[v0, v1, v2, v3] t) ∧ Box4 w1 q v0 v1 v2 v3 ∧ Frz4 w1 q ∧ Ext w w1 :=
 ⟨_, _, rfl, rfl, ⟨by go_simp, by go_simp, by go_simp, by go_simp⟩, ⟨by go_simp, by go_simp, by go_simp, by go_simp⟩, (Ext.refl _).alloc _⟩
theorem SliceR.nil' {α : Type} (R : Nat → Nat → α → Prop) (size : Nat) (A : Option Addr) : SliceR R size A ([] : List α) := ⟨Nat.zero_le _, fun h => absurd h (Nat.lt_irrefl _)⟩
theorem Nums.low {w : World} {ok : Nat → Prop} {A : Option Addr} {l : List Int} (h : Nums w ok A l) : Nums w (fun b => b < w.heap.size) A l := SliceR.mono h (fun _ _ _ _ hx => ⟨block_lt_of_cell hx.2, hx.2⟩)
theorem ColAt.low {w : World} {ok : Nat → Prop} {A B C D : Option Addr} {c : Col} (h : ColAt w ok A B C D c) : ColAt w (fun b => b < w.heap.size) A B C D c := ⟨h.n.low, h.f.low, h.t.low, h.e.low⟩
theorem uI_ne {l : List Nat} {e : Int} (h : uI l = .error e) : e ≠ 0 := by
 cases hr : rdF 10 l with
 | error e' => rw [uI_err hr] at h; injection h with h; have := rdF_err 10 l e' hr; omega
 | ok p =>
  obtain ⟨u, r⟩ := p
  by_cases hu : u ≤ 9223372036854775807
  ·rw [uI_ok hr hu] at h; cases h
  ·rw [uI_big hr (by omega)] at h; injection h with h; omega
theorem idM_ne {b n : Int} {l : List Nat} {e : Int} (h : idM b n l = .error e) : e ≠ 0 := by
 unfold idM at h
 split at h
 ·injection h with h; omega
 ·cases h
theorem nearM_ne {b : Int} {l : List Nat} {e : Int} (h : nearM b l = .error e) : e ≠ 0 := by
 unfold nearM at h
 cases hr : rdF 10 l with
 | error e' => rw [iE_err hr] at h; injection h with h; have := rdF_err 10 l e' hr; omega
 | ok p => obtain ⟨u, r⟩ := p; rw [iE_ok hr] at h; exact idM_ne h
theorem ents_ne : ∀ n tv ed T E (r : List Nat) e, entsE n tv ed T E r = .error e → e ≠ 0
 | 0, _, _, _, _, _, _, h => by unfold entsE at h; cases h
 | n + 1, tv, ed, T, E, r, e, h => by
  unfold entsE at h
  cases h1 : nearM tv r with
  | error e' => rw [h1] at h; injection h with h; rw [← h]; exact nearM_ne h1
  | ok p =>
   rw [h1] at h
   simp only at h
   cases h2 : nearM ed p.2 with
   | error e' => rw [h2] at h; injection h with h; rw [← h]; exact nearM_ne h2
   | ok p2 => rw [h2] at h; exact ents_ne n _ _ _ _ _ e h
theorem rows_ne : ∀ n nd ed c (r : List Nat) e, rowsE n nd ed c r = .error e → e ≠ 0
 | 0, _, _, _, _, _, h => by unfold rowsE at h; cases h
 | n + 1, nd, ed, c, r, e, h => by
  unfold rowsE at h
  cases h1 : uI r with
  | error e' => rw [h1] at h; injection h with h; rw [← h]; exact uI_ne h1
  | ok p =>
   rw [h1] at h
   simp only at h
   cases h2 : idM nd p.1 p.2 with
   | error e' => rw [h2] at h; injection h with h; rw [← h]; exact idM_ne h2
   | ok p2 =>
    rw [h2] at h
    simp only at h
    cases h3 : uI p2.2 with
    | error e' => rw [h3] at h; injection h with h; rw [← h]; exact uI_ne h3
    | ok p3 =>
     rw [h3] at h
     simp only at h
     split at h
     ·injection h with h; omega
     ·cases h4 : entsE p3.1.toNat p2.1 ed c.tos c.edges p3.2 with
      | error e' => rw [h4] at h; injection h with h; rw [← h]; exact ents_ne _ _ _ _ _ _ _ h4
      | ok p4 => rw [h4] at h; exact rows_ne n _ _ _ _ e h
theorem dec_zero {l : List Nat} (h : (decR (decC l)).1 = 0) : decC l = .ok (decR (decC l)).2 := by
 cases hd : decC l with
 | ok c => rfl
 | error e =>
  rw [hd] at h
  have h0 : e = 0 := h
  exfalso
  unfold decC at hd
  cases h1 : uI l with
  | error e' => rw [h1] at hd; injection hd with hd; exact uI_ne h1 (hd.trans h0)
  | ok p =>
   rw [h1] at hd
   simp only at hd
   cases h2 : rowsE p.1.toNat 0 0 noCol p.2 with
   | error e' => rw [h2] at hd; injection hd with hd; exact rows_ne _ _ _ _ _ _ h2 (hd.trans h0)
   | ok p2 =>
    rw [h2] at hd
    unfold endC at hd
    simp only at hd
    split at hd
    ·split at hd
     ·cases hd
     ·injection hd with hd; omega
    ·injection hd with hd; omega
theorem encE_len : ∀ tv ed (l : List (Int × Int)), l.length ≤ (encEL tv ed l).length
 | _, _, [] => Nat.le_refl _
 | tv, ed, (x, y) :: l => by
  show l.length + 1 ≤ (vi _ ++ (vi _ ++ encEL x y l)).length
  rw [List.length_append, List.length_append]
  have h1 := encE_len x y l
  have h2 := List.length_pos_iff.2 (vi_ne (zig (x - tv)))
  omega
theorem encR_len : ∀ nd ed (rs : List (Int × List (Int × Int))), rs.length + totL rs ≤ (encRL nd ed rs).length
 | _, _, [] => Nat.le_refl _
 | nd, ed, (x, l) :: rs => by
  show rs.length + 1 + (l.length + totL rs) ≤ (vi _ ++ (vi _ ++ (encEL x ed l ++ encRL x (lastE ed l) rs))).length
  rw [List.length_append, List.length_append, List.length_append]
  have h1 := encR_len x (lastE ed l) rs
  have h2 := encE_len x ed l
  have h3 := List.length_pos_iff.2 (vi_ne (x - nd).toNat)
  omega
/-- what is decoded is valid, small, and encodes to what it came from -/
theorem dec_all {b : List Nat} {y : Col} (hb : ∀ x ∈ b, x < 256) (hl : b.length ≤ 1000000) (h : decC b = .ok y) : validP y ∧ encC y = b ∧ y.tos.length ≤ b.length ∧ y.nodes.length ≤ b.length := by
 obtain ⟨rs, a1, a2, -⟩ := dec_inv hb h
 have h1 := encR_len 0 0 rs
 have h2 : b.length = (vi rs.length).length + (encRL 0 0 rs).length := by rw [a1, List.length_append]
 have ht : y.tos.length = totL rs := by rw [a2, ← flat_tot]; unfold finC; split <;> rfl
 have hn : y.nodes.length = rs.length := by rw [a2]; unfold finC; split <;> exact List.length_map _
 obtain ⟨k1, k2⟩ := dec_back hb (by omega) (by omega) h
 exact ⟨k1, k2, by omega, by omega⟩
theorem norm_norm (c : Col) : normC (normC c) = normC c := by
 unfold normC
 by_cases h : c.nodes = []
 ·rw [if_pos h]; simp only; rw [if_pos h]
 ·rw [if_neg h, if_neg h]
/-- what the law looks at -/
theorem back_all {c : Col} (h : validP c) (hm : c.tos.length ≤ 1000) (hn : c.nodes.length ≤ 1000) : ofR (entR (normC c)) = (0, normC c) ∧ decR (decC (encR (normC c))) = (0, normC c) ∧ ((∀ x ∈ encR (normC c), x < 256) ∧ (encR (normC c)).length ≤ 1000000) ∧ (entR (normC c)).length ≤ 8000000 := by
 have hv := valid_norm h
 have hm' : (normC c).tos.length ≤ 1000 := by unfold normC; split <;> exact hm
 have hn' : (normC c).nodes.length ≤ 1000 := by unfold normC; split <;> exact hn
 have e1 : entR (normC c) = flatC (normC c) := by unfold entR; rw [if_pos (colB_iff.2 hv)]
 have e2 : encR (normC c) = encC (normC c) := by unfold encR; rw [if_pos (colB_iff.2 hv)]
 have hN := norm_norm c
 generalize normC c = C at *
 refine ⟨by rw [e1, of_ent hv, hN], by rw [e2, dec_enc hv (by omega) (by omega), hN]; rfl, ⟨by rw [e2]; exact enc_byte C, ?_⟩, ?_⟩
 ·rw [e2]
  unfold encC
  rw [List.length_append]
  have h1 := vi_len10 (u := C.nodes.length) (by omega)
  rcases hv with ⟨h2, h3, h4, h5⟩ | ⟨h2, h3, h4⟩
  ·have hz : (rowsB C C.nodes.length).length = 0 := by rw [h2]; rfl
   omega
  ·have h6 := rowsB_len (.inr ⟨h2, h3, h4⟩) h2 (by omega) (Nat.le_refl _)
   have h7 := h2.le (Nat.le_refl C.nodes.length)
   omega
 ·rw [e1]
  rcases hv with ⟨h2, h3, h4, h5⟩ | ⟨h2, h3, h4⟩
  ·unfold flatC; rw [h2]; exact Nat.zero_le _
  ·rw [flatC_len h2]; omega
set_option maxRecDepth 100000 in
set_option maxHeartbeats 6400000 in
theorem l_ColumnBack (c : Col) (b : List Nat) (ok ok' : Nat → Prop) (A B Cx D E : Option Addr) (k0 k1 k2 k3 ec : Nat) (w : World) (hv : ColAt w ok A B Cx D c) (hb : Byts w ok' E b) (hbb : ∀ x ∈ b, x < 256) (hbc : b.length ≤ ec) :
  Calls Try.prog 5 #[agC c A B Cx D k0 k1 k2 k3, .slice E b.length ec] w fun e w' => e = .returned (.bool true) ∧ Ext w w' := by
 obtain ⟨q, w1, hq, hw1, hbq, hfq, hx1⟩ := box_colF w (.slice A c.nodes.length k0) (.slice B c.first.length k1) (.slice Cx c.tos.length k2) (.slice D c.edges.length k3) 26
 have HW := Lib.hid hw1
 have HQQ := Lib.hid hq
 have HX1 := Lib.hid hx1
 have HBQ := Lib.hid hbq
 have HFQ := Lib.hid hfq
 have HVL := Lib.hid hv.low
 have HBY := Lib.hid (hb.ext hx1)
 obtain ⟨a0, a1, a2, a3⟩ := hbq
 have hs1 : q < w1.heap.size := by rw [hw1, hq]; simp
 have hq1 : w.heap.size ≤ q := by omega
 clear hw1 hq hv hx1 hfq hb
 unfold agC
 go_enter Try.func5, Try.ntmps5
 go_upto_region 1 with (fail)
 rw [← HW.out, ← HQQ.out]
 clear HW HQQ
 by_cases hl : 100 < c.tos.length
 ·have g1 : decide (100 < c.tos.length) = true := decide_eq_true hl
  have g2 : decide (100 < (c.tos.length : Int)) = true := decide_eq_true (by omega)
  go_wp2_with (go_at_call 7; ((with_reducible refine ((l_lives _)).mono ?_); rintro e v9 ⟨rfl, hy9⟩))
  go_ret
  exact ⟨rfl, HX1.out.trans hy9⟩
 ·have g1 : decide (100 < c.tos.length) = false := decide_eq_false hl
  have g2 : decide (100 < (c.tos.length : Int)) = false := decide_eq_false (by omega)
  by_cases hn : 100 < c.nodes.length
  ·have g3 : decide (100 < c.nodes.length) = true := decide_eq_true hn
   have g4 : decide (100 < (c.nodes.length : Int)) = true := decide_eq_true (by omega)
   go_wp2_with (go_at_call 7; ((with_reducible refine ((l_lives _)).mono ?_); rintro e v9 ⟨rfl, hy9⟩))
   go_ret
   exact ⟨rfl, HX1.out.trans hy9⟩
  ·have g3 : decide (100 < c.nodes.length) = false := decide_eq_false hn
   have g4 : decide (100 < (c.nodes.length : Int)) = false := decide_eq_false (by omega)
   by_cases h3 : 300 < b.length
   ·have g5 : decide (300 < b.length) = true := decide_eq_true h3
    have g6 : decide (300 < (b.length : Int)) = true := decide_eq_true (by omega)
    go_wp2_with (go_at_call 7; ((with_reducible refine ((l_lives _)).mono ?_); rintro e v9 ⟨rfl, hy9⟩))
    go_ret
    exact ⟨rfl, HX1.out.trans hy9⟩
   ·have g5 : decide (300 < b.length) = false := decide_eq_false h3
    have g6 : decide (300 < (b.length : Int)) = false := decide_eq_false (by omega)
    have HBK := Lib.hid (fun (h : validP c) => back_all h (by omega) (by omega))
    have HDA := Lib.hid (fun (h : (decR (decC b)).1 = 0) => dec_all hbb (by omega) (dec_zero h))
    have HBB := Lib.hid hbb
    have HDE := Lib.hid (co_Decode b _ E ec w1 HBY.out hbb hbc (by omega))
    have HBL := Lib.hid (show b.length ≤ 300 by omega)
    obtain ⟨R, hR⟩ : ∃ R, R = decR (decC b) := ⟨_, rfl⟩
    rw [← hR] at HDA HDE
    clear hR hbb hbc
    obtain ⟨e1, Y⟩ := R
    simp only at HDA HDE
    unfold agC at HDE
    go_upto_region 4 with (go_at_call 19; ((with_reducible refine (HDE.out).mono ?_); rintro e u2 ⟨A0, A1, A2, A3, j0, j1, j2, j3, rfl, hc2, hx2⟩; clear HDE))
    clear g1 g2 g3 g4 g5 g6 h3
    obtain ⟨p, w3, hp, hw3, hbp, hfp, hx3⟩ := box_colF u2 (.slice A0 Y.nodes.length j0) (.slice A1 Y.first.length j1) (.slice A2 Y.tos.length j2) (.slice A3 Y.edges.length j3) 26
    rw [← hw3, ← hp]
    have HX3 := Lib.hid (hx2.trans hx3)
    have HCY := Lib.hid (hc2.ext hx3)
    have HBP := Lib.hid hbp
    have HFP := Lib.hid hfp
    have HPB := Lib.hid (show p < w3.heap.size by rw [hw3, hp]; simp)
    have HQ := Lib.hid (show w.heap.size ≤ q ∧ q ≠ p from ⟨hq1, by have := hx2.le; omega⟩)
    have HPW := Lib.hid (show w.heap.size ≤ p by have := hx2.le; omega)
    clear hw3 hp hfp hx2 hx3 hc2 a0 a1 a2 a3 hs1 hq1
    obtain ⟨a0, a1, a2, a3⟩ := hbp
    go_cut [43] from 44 (fun s43 wx => s43 = .bool false ∧ Ext w3 wx)
    case first =>
     by_cases he : e1 = 0
     ·obtain ⟨hy1, hy2, hy3, hy4⟩ := HDA.out he
      have hYE : encR Y = b := by unfold encR; rw [if_pos (colB_iff.2 hy1)]; exact hy2
      have HVY := Lib.hid (co_Valid Y _ A0 A1 A2 A3 j0 j1 j2 j3 w3 HCY.out (by have := HBL.out; omega))
      rw [colB_iff.2 hy1] at HVY
      have HEY := Lib.hid (fun V (e : Ext w3 V) => co_Encode Y _ A0 A1 A2 A3 j0 j1 j2 j3 V (HCY.out.ext e) ⟨by have := HBL.out; omega, by have := HBL.out; omega⟩)
      rw [hYE] at HEY
      have HBS := Lib.hid (fun V A' c' ok2 (h : Byts V ok2 A' b) (e : Ext w3 V) => r12_Bytes b b ok2 _ A' E c' ec V h (HBY.out.ext (HX3.out.trans e)) HBB.out HBB.out)
      rw [show decide (b = b) = true from decide_eq_true rfl] at HBS
      unfold agC at HVY HEY
      have g : (e1 == 0) = true := beq_iff_eq.2 he
      clear he hy1 hy2 hy3 hy4 hYE HDA HBK
      go_wp2_with (first | (go_at_call 12; ((with_reducible refine (HVY.out).mono ?_); rintro e v4 ⟨rfl, hy4⟩; replace a0 := hy4.cell a0; replace a1 := hy4.cell a1; replace a2 := hy4.cell a2; replace a3 := hy4.cell a3; clear HVY)) | (go_at_call 21; ((with_reducible refine (HEY.out _ hy4).mono ?_); rintro e v5 ⟨A5, c5, rfl, -, hB5, hy5⟩; clear HEY; have HBS2 := Lib.hid (HBS.out v5 A5 c5 _ hB5 (hy4.trans hy5)); clear HBS hB5)) | (go_at_call 20; ((with_reducible refine (HBS2.out).mono ?_); rintro e v6 ⟨rfl, hy6⟩; clear HBS2)))
      go_meet
      case rel => exact ⟨rfl, (hy4.trans hy5).trans hy6⟩
     ·have g : (e1 == 0) = false := beq_eq_false_iff_ne.2 he
      have gx : decide (e1 = 0) = false := decide_eq_false he
      clear he HDA HBK
      go_wp2_with fail
      go_meet
      case rel => exact ⟨rfl, Ext.refl _⟩
    case rest =>
     clear HDA HCY HBL HBY HBB a0 a1 a2 a3
     obtain ⟨rfl, hx5⟩ := hcut
     obtain ⟨w5, hw5⟩ : ∃ W, W = wc := ⟨_, rfl⟩
     subst hw5
     have HX5 := Lib.hid (HX3.out.trans hx5)
     have HPB5 := Lib.hid (Nat.lt_of_lt_of_le HPB.out hx5.le)
     have HBP5 := Lib.hid (HBP.out.grown (hx5.gr none) (by simp))
     have HFP5 := Lib.hid (HFP.out.grown HBP.out (hx5.gr none) (by simp))
     clear hx5 HBP HFP HX3
     obtain ⟨a0, a1, a2, a3⟩ := HBQ.out.grown (HX5.out.gr none) (by simp)
     have HVA := Lib.hid (co_Valid c _ A B Cx D k0 k1 k2 k3 w5 (HVL.out.ext (HX1.out.trans HX5.out)) (by omega))
     cases hcb : colB c
     ·have HE0 := Lib.hid (by unfold encR; rw [hcb]; rfl : encR c = [])
      have HEN := Lib.hid (fun V (e : Ext w5 V) => co_Encode c _ A B Cx D k0 k1 k2 k3 V (HVL.out.ext ((HX1.out.trans HX5.out).trans e)) ⟨by omega, by omega⟩)
      rw [hcb] at HVA
      rw [HE0.out] at HEN
      unfold agC at HVA HEN
      clear hcb HBK
      go_wp2_with (first | (go_at_call 12; ((with_reducible refine (HVA.out).mono ?_); rintro e w6 ⟨rfl, hx6⟩; replace a0 := hx6.cell a0; replace a1 := hx6.cell a1; replace a2 := hx6.cell a2; replace a3 := hx6.cell a3; clear HVA)) | (go_at_call 21; ((with_reducible refine (HEN.out _ hx6).mono ?_); rintro e w7 ⟨A7, c7, rfl, -, -, hx7⟩; clear HEN)) | (go_at_call 7; ((with_reducible refine ((l_lives _)).mono ?_); rintro e v9 ⟨rfl, hy9⟩)))
      go_ret
      exact ⟨rfl, ((((HX1.out.trans HX5.out).trans hx6).trans hx7)).trans hy9⟩
     ·have hvp := colB_iff.1 hcb
      obtain ⟨hB1, hB2, hB3, hB4⟩ := HBK.out hvp
      rw [hcb] at HVA
      unfold agC at HVA
      have HNE := Lib.hid (show c.nodes = [] → normC c = ⟨[], [], [], []⟩ ∧ c.tos = [] ∧ c.edges = [] from fun h => by
       have h1 := valid_norm hvp
       have h2 : (normC c).nodes = [] := by unfold normC; split <;> exact h
       rcases h1 with ⟨h3, h4, h5, h6⟩ | ⟨h3, -, -⟩
       ·unfold normC at h4 h5 h6 ⊢
        rw [if_pos h] at h4 h5 h6 ⊢
        have h5' : c.tos = [] := h5
        have h6' : c.edges = [] := h6
        exact ⟨by rw [h, h5', h6'], h5', h6'⟩
       ·have h4 := h3.len
        unfold normC at h4
        rw [if_pos h, h] at h4
        cases h4)
      have HNN := Lib.hid (show c.nodes ≠ [] → normC c = c from fun h => by unfold normC; rw [if_neg h])
      have HB1 := Lib.hid hB1
      have HB2 := Lib.hid hB2
      have HB3 := Lib.hid hB3
      have hCl : (normC c).tos.length ≤ 100000 ∧ (normC c).nodes.length ≤ 100000 := by unfold normC; split <;> exact ⟨by show c.tos.length ≤ _; omega, by show c.nodes.length ≤ _; omega⟩
      clear hcb hvp HBK hB1 hB2 hB3
      go_upto_region 8 with (go_at_call 12; ((with_reducible refine (HVA.out).mono ?_); rintro e w6 ⟨rfl, hx6⟩; clear HVA))
      have HX6 := Lib.hid (HX5.out.trans hx6)
      have HPB6 := Lib.hid (Nat.lt_of_lt_of_le HPB5.out hx6.le)
      have HBP6 := Lib.hid (HBP5.out.grown (hx6.gr none) (by simp))
      have HFP6 := Lib.hid (HFP5.out.grown HBP5.out (hx6.gr none) (by simp))
      have hbq6 := HBQ.out.grown (HX6.out.gr none) (by simp)
      have HBQ6 := Lib.hid hbq6
      have HFQ6 := Lib.hid (HFQ.out.grown HBQ.out (HX6.out.gr none) (by simp))
      have HV6 := Lib.hid (HVL.out.ext (HX1.out.trans HX6.out))
      clear hx6 HBP5 HFP5 HX5 a0 a1 a2 a3 hbq6
      obtain ⟨bn, hbn⟩ : ∃ bn : Bool, bn = decide (c.nodes = []) := ⟨_, rfl⟩
      have HBN := Lib.hid hbn
      have g0 : ((c.nodes.length : Int) == 0) = bn := by
       rw [hbn]
       by_cases h : c.nodes = []
       ·rw [decide_eq_true h, h]; rfl
       ·rw [decide_eq_false h]; exact beq_eq_false_iff_ne.2 (by have := List.length_pos_iff.2 h; omega)
      have g1 : decide (c.nodes.length = 0) = bn := by rw [hbn]; exact decide_eq_decide.2 ⟨fun h => List.eq_nil_of_length_eq_zero h, fun h => by rw [h]; rfl⟩
      have g2 : (c.nodes.length == 0) = bn := g1
      clear hbn
      obtain ⟨a0, a1, a2, a3⟩ := HBQ6.out
      go_upto_if 57 with (fail)
      clear g0 g1 g2
      go_cut [4] from 58 (fun s4 wx => s4 = .bool false ∧ ∃ (B2 : Option Addr) (l1 : Nat), Hid (Box4 wx q (.slice A (normC c).nodes.length k0) (.slice B2 (normC c).first.length l1) (.slice Cx (normC c).tos.length k2) (.slice D (normC c).edges.length k3)) ∧ Hid (ColAt wx (fun b => b < w.heap.size) A B2 Cx D (normC c)) ∧ Hid (Ext w wx) ∧ Hid (Box4 wx p (.slice A0 Y.nodes.length j0) (.slice A1 Y.first.length j1) (.slice A2 Y.tos.length j2) (.slice A3 Y.edges.length j3)) ∧ Hid (Frz4 wx p) ∧ wx.heap.size = w6.heap.size)
      case first =>
       cases bn
       ·have K := Lib.hid (HNN.out (of_decide_eq_false HBN.out.symm))
        clear HBN
        go_wp2_with fail
        go_meet
        case rel => exact ⟨rfl, B, k1, Lib.hid (by rw [K.out]; exact HBQ6.out), Lib.hid (by rw [K.out]; exact HV6.out), Lib.hid (HX1.out.trans HX6.out), HBP6, HFP6, rfl⟩
       ·have hn0 := of_decide_eq_true HBN.out.symm
        have K := Lib.hid (HNE.out hn0)
        obtain ⟨f0, f1, f2, f3⟩ := HFQ6.out
        have hsq := gr_set w6 q 1 (.slice none 0 0)
        have HBQ7 := Lib.hid (by rw [K.out.1]; have h := HBQ6.out; rw [hn0, K.out.2.1, K.out.2.2] at h; exact ⟨cell_set_else (by decide) h.1, cell_set_self h.2.1, cell_set_else (by decide) h.2.2.1, cell_set_else (by decide) h.2.2.2⟩ : Box4 (w6.setCell ⟨q, 1, none⟩ (.slice none 0 0)) q (.slice A (normC c).nodes.length k0) (.slice none (normC c).first.length 0) (.slice Cx (normC c).tos.length k2) (.slice D (normC c).edges.length k3))
        have HC7 := Lib.hid (by rw [K.out.1]; exact ⟨SliceR.nil' _ _ _, SliceR.nil' _ _ _, SliceR.nil' _ _ _, SliceR.nil' _ _ _⟩ : ColAt (w6.setCell ⟨q, 1, none⟩ (.slice none 0 0)) (fun b => b < w.heap.size) A none Cx D (normC c))
        have HX7 := Lib.hid ((HX1.out.trans HX6.out).setCell HQ.out.1 (.slice none 0 0) : Ext w (w6.setCell ⟨q, 1, none⟩ (.slice none 0 0)))
        have HBP7 := Lib.hid (HBP6.out.grown hsq (fun e => HQ.out.2 (Option.some.inj e).symm))
        have HFP7 := Lib.hid (HFP6.out.grown HBP6.out hsq (fun e => HQ.out.2 (Option.some.inj e).symm))
        clear hsq HBN hn0
        go_wp2_with fail
        go_meet
        case rel => exact ⟨rfl, none, 0, HBQ7, HC7, HX7, HBP7, HFP7, by simp⟩
      case rest =>
       obtain ⟨rfl, B2, l1, HBQ8, HC8, HX8, HBP8, HFP8, hs8⟩ := hcut
       obtain ⟨w8, hw8⟩ : ∃ W, W = wc := ⟨_, rfl⟩
       subst hw8
       have HPL := Lib.hid (show ¬ w8.heap.size ≤ p by rw [hs8]; have h2 := HPB6.out; omega)
       clear HBQ6 HFQ6 HV6 HX6 HBP6 HFP6 HBN HNE HNN a0 a1 a2 a3 hs8 HBQ HFQ HVL HX1
       generalize normC c = C at *
       obtain ⟨a0, a1, a2, a3⟩ := HBQ8.out
       have HEN := Lib.hid (co_Entries C _ A B2 Cx D k0 l1 k2 k3 w8 HC8.out (by omega))
       have HEL := Lib.hid hB4
       have HOF := Lib.hid (fun V A' c' ok' (h : Shares V ok' A' (entR C)) => co_Of (entR C) ok' A' c' V h HEL.out)
       rw [HB1.out] at HOF
       unfold agC at HEN HOF
       clear hB4 HB1
       go_upto_region 11 with (first | (go_at_call 17; ((with_reducible refine (HEN.out).mono ?_); rintro e w9 ⟨A9, c9, rfl, -, hS9, hx9⟩; clear HEN; have HOF2 := Lib.hid (HOF.out w9 A9 c9 _ hS9); clear HOF hS9)) | (go_at_call 8; ((with_reducible refine (HOF2.out).mono ?_); rintro e w10 ⟨F0, F1, F2, F3, f0, f1, f2, f3, rfl, hc10, hx10⟩; clear HOF2)))
       obtain ⟨r, w11, hr, hw11, hb11, hx11⟩ := box_colV w10 (.slice F0 C.nodes.length f0) (.slice F1 C.first.length f1) (.slice F2 C.tos.length f2) (.slice F3 C.edges.length f3) 26
       rw [← hw11, ← hr]
       have hx8b := (hx9.trans hx10).trans hx11
       have HBR := Lib.hid hb11
       have HCR := Lib.hid (hc10.ext hx11)
       have HRP := Lib.hid (show ¬ w9.heap.size ≤ p from fun h => HPL.out (Nat.le_trans hx9.le h))
       have HRR := Lib.hid (show some r ≠ some p from fun e => HPL.out (by have h1 := Option.some.inj e; have h2 : w8.heap.size ≤ w9.heap.size := hx9.le; have h3 : w9.heap.size ≤ w10.heap.size := hx10.le; omega))
       have HX8B := Lib.hid hx8b
       clear hr hw11 hb11 hx9 hx10 hx11 hc10 a0 a1 a2 a3
       obtain ⟨a0, a1, a2, a3⟩ := HBQ8.out.grown (hx8b.gr none) (by simp)
       have HEC := Lib.hid (co_Encode C _ A B2 Cx D k0 l1 k2 k3 w11 (HC8.out.ext hx8b) ⟨by omega, by omega⟩)
       have HDC := Lib.hid (fun V A' c' ok' (h : Byts V ok' A' (encR C)) hc => co_Decode (encR C) ok' A' c' V h HB3.out.1 hc HB3.out.2)
       rw [HB2.out] at HDC
       unfold agC at HEC HDC
       clear hx8b
       go_upto_region 12 with (first | (go_at_call 21; ((with_reducible refine (HEC.out).mono ?_); rintro e w12 ⟨A12, c12, rfl, hle12, hB12, hx12⟩; clear HEC; have HDC2 := Lib.hid (HDC.out w12 A12 c12 _ hB12 hle12); clear HDC hB12 hle12)) | (go_at_call 19; ((with_reducible refine (HDC2.out).mono ?_); rintro e w13 ⟨G0, G1, G2, G3, g0, g1, g2, g3, rfl, hc13, hx13⟩; clear HDC2; obtain ⟨p0, p1, p2, p3⟩ := HBP8.out.grown ((HX8B.out.trans (hx12.trans hx13)).gr none) (by simp); obtain ⟨q0, q1, q2, q3⟩ := HFP8.out.grown HBP8.out ((HX8B.out.trans (hx12.trans hx13)).gr none) (by simp))))
       have HX13 := Lib.hid (HX8B.out.trans (hx12.trans hx13))
       have HX1R := Lib.hid (hx12.trans hx13)
       have hpd : ¬ w12.heap.size ≤ p := fun h => HPL.out (Nat.le_trans HX8B.out.le (Nat.le_trans hx12.le h))
       have hd := set4 (HBP8.out.grown (HX13.out.gr none) (by simp)) (.slice G0 C.nodes.length g0) (.slice G1 C.first.length g1) (.slice G2 C.tos.length g2) (.slice G3 C.edges.length g3)
       obtain ⟨w14, hw14⟩ : ∃ W, W = ((((w13.setCell ⟨p, 0, none⟩ (.slice G0 C.nodes.length g0)).setCell ⟨p, 1, none⟩ (.slice G1 C.first.length g1)).setCell ⟨p, 2, none⟩ (.slice G2 C.tos.length g2)).setCell ⟨p, 3, none⟩ (.slice G3 C.edges.length g3)) := ⟨_, rfl⟩
       have hg4 : w13.grownBy w14 (some p) := by rw [hw14]; exact (((gr_set _ _ _ _).trans (gr_set _ _ _ _)).trans (gr_set _ _ _ _)).trans (gr_set _ _ _ _)
       have HX14 := Lib.hid (by rw [hw14]; exact ((((HX8.out.trans HX13.out).setCell HPW.out _).setCell HPW.out _).setCell HPW.out _).setCell HPW.out _ : Ext w w14)
       have hqp : ¬ p < w.heap.size := by have := HPW.out; omega
       have HC14 := Lib.hid (by rw [hw14]; exact ((((HC8.out.ext HX13.out).put hqp 0 _).put hqp 1 _).put hqp 2 _).put hqp 3 _ : ColAt w14 (fun b => b < w.heap.size) A B2 Cx D C)
       have HCR14 := Lib.hid (by rw [hw14]; exact ((((HCR.out.ext HX1R.out).put HRP.out 0 _).put HRP.out 1 _).put HRP.out 2 _).put HRP.out 3 _ : ColAt w14 _ F0 F1 F2 F3 C)
       have HCD14 := Lib.hid (by rw [hw14]; exact (((hc13.put hpd 0 _).put hpd 1 _).put hpd 2 _).put hpd 3 _ : ColAt w14 _ G0 G1 G2 G3 C)
       have hbq14 := (HBQ8.out.grown (HX13.out.gr none) (by simp)).grown hg4 (fun e => HQ.out.2 (Option.some.inj e))
       have hbr14 := (HBR.out.grown (HX1R.out.gr none) (by simp)).grown hg4 HRR.out
       rw [← hw14] at hd
       clear a0 a1 a2 a3 p0 p1 p2 p3 q0 q1 q2 q3
       obtain ⟨a0, a1, a2, a3⟩ := hbq14
       obtain ⟨r0, r1, r2, r3⟩ := hbr14
       obtain ⟨p0, p1, p2, p3⟩ := hd
       rw [← hw14]
       have HSA := Lib.hid (same_self C _ _ F0 F1 F2 F3 A B2 Cx D f0 f1 f2 f3 k0 l1 k2 k3 w14 HCR14.out HC14.out)
       have HSB := Lib.hid (fun V (e : Ext w14 V) => same_self C _ _ G0 G1 G2 G3 A B2 Cx D g0 g1 g2 g3 k0 l1 k2 k3 V (HCD14.out.ext e) (HC14.out.ext e))
       unfold agC at HSA HSB
       have MK := Lib.hid (fun V (e : Ext w14 V) => (⟨⟨e.cell a0, e.cell a1, e.cell a2, e.cell a3⟩, ⟨e.cell p0, e.cell p1, e.cell p2, e.cell p3⟩⟩ : (V.cell? ⟨q, 0, none⟩ = some (.slice A C.nodes.length k0) ∧ V.cell? ⟨q, 1, none⟩ = some (.slice B2 C.first.length l1) ∧ V.cell? ⟨q, 2, none⟩ = some (.slice Cx C.tos.length k2) ∧ V.cell? ⟨q, 3, none⟩ = some (.slice D C.edges.length k3)) ∧ (V.cell? ⟨p, 0, none⟩ = some (.slice G0 C.nodes.length g0) ∧ V.cell? ⟨p, 1, none⟩ = some (.slice G1 C.first.length g1) ∧ V.cell? ⟨p, 2, none⟩ = some (.slice G2 C.tos.length g2) ∧ V.cell? ⟨p, 3, none⟩ = some (.slice G3 C.edges.length g3))))
       clear hw14 hg4 hpd hqp hc13 hx12 hx13 HX13 HX1R HC14 HCR14 HCD14 HBQ8 HBP8 HFP8 HC8 HBR HCR
       go_wp2_with (first | (go_at_call 10; ((with_reducible refine (HSA.out).mono ?_); rintro e w15 ⟨rfl, hx15⟩; clear HSA a0 a1 a2 a3 p0 p1 p2 p3; obtain ⟨⟨a0, a1, a2, a3⟩, ⟨p0, p1, p2, p3⟩⟩ := MK.out _ hx15)) | (go_at_call 10; ((with_reducible refine (HSB.out _ hx15).mono ?_); rintro e w16 ⟨rfl, hx16⟩; clear HSB)) | (go_at_call 7; ((with_reducible refine ((l_lives _)).mono ?_); rintro e v9 ⟨rfl, hy9⟩)))
       go_ret
       exact ⟨rfl, ((HX14.out.trans hx15).trans hx16).trans hy9⟩
end Go.Proofs.Ytnheioehadldmaa
