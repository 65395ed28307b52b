/- PARTS OF THE WALKS, joined: CpL, CpM, CLaid, CpP. -/
import Derived.Test.YtnheioehadldmaaT19
import Derived.Test.YtnheioehadldmaaT05
/- THE WALK over the law's lives. -/
namespace Go.Proofs.Ytnheioehadldmaa
open Go.RowKit
theorem sh_two (w : World) (x y : Sh) : Shares (w.alloc (.cells #[.int .i64 x.id, .int .i64 x.n, .int .i64 x.d, .int .i64 y.id, .int .i64 y.n, .int .i64 y.d] 54)) (fun _ => True) (some ⟨w.heap.size, 0, none⟩) [x, y] := by
 refine ⟨by show 2 ≤ 140737488355328; decide, fun _ => ⟨_, _, rfl, fun k hk => ?_⟩⟩
 have hk2 : k = 0 ∨ k = 1 := by have h : k < 2 := hk; omega
 rcases hk2 with rfl | rfl
 ·exact ⟨trivial, by go_simp, by go_simp, by go_simp⟩
 ·exact ⟨trivial, by go_simp, by go_simp, by go_simp⟩
theorem by_seven (w : World) : Byts (w.alloc (.cells #[.int .u8 1, .int .u8 1, .int .u8 2, .int .u8 2, .int .u8 2, .int .u8 2, .int .u8 2] 5)) (fun _ => True) (some ⟨w.heap.size, 0, none⟩) [1, 1, 2, 2, 2, 2, 2] := by
 refine ⟨by show 7 ≤ 140737488355328; decide, fun _ => ⟨_, _, rfl, fun k hk => ?_⟩⟩
 have hk7 : k = 0 ∨ k = 1 ∨ k = 2 ∨ k = 3 ∨ k = 4 ∨ k = 5 ∨ k = 6 := by have h : k < 7 := hk; omega
 rcases hk7 with rfl | rfl | rfl | rfl | rfl | rfl | rfl <;> exact ⟨trivial, by go_simp⟩
theorem by_three (w : World) : Byts (w.alloc (.cells #[.int .u8 1, .int .u8 1, .int .u8 0] 5)) (fun _ => True) (some ⟨w.heap.size, 0, none⟩) [1, 1, 0] := by
 refine ⟨by show 3 ≤ 140737488355328; decide, fun _ => ⟨_, _, rfl, fun k hk => ?_⟩⟩
 have hk3 : k = 0 ∨ k = 1 ∨ k = 2 := by have h : k < 3 := hk; omega
 rcases hk3 with rfl | rfl | rfl <;> exact ⟨trivial, by go_simp⟩
theorem nu_one (w : World) (x : Int) : Nums (w.alloc (.cells #[.int .i64 x] 3)) (fun _ => True) (some ⟨w.heap.size, 0, none⟩) [x] := by
 refine ⟨by show 1 ≤ 140737488355328; decide, fun _ => ⟨_, _, rfl, fun k hk => ?_⟩⟩
 have hk1 : k = 0 := by have h : k < 1 := hk; omega
 subst hk1
 exact ⟨trivial, by go_simp⟩
theorem nu_two (w : World) (x y : Int) : Nums (w.alloc (.cells #[.int .i64 x, .int .i64 y] 3)) (fun _ => True) (some ⟨w.heap.size, 0, none⟩) [x, y] := by
 refine ⟨by show 2 ≤ 140737488355328; decide, fun _ => ⟨_, _, rfl, fun k hk => ?_⟩⟩
 have hk2 : k = 0 ∨ k = 1 := by have h : k < 2 := hk; omega
 rcases hk2 with rfl | rfl <;> exact ⟨trivial, by go_simp⟩
theorem lv_Of1 (W : World) : Calls Try.prog 8 #[.slice (some ⟨W.heap.size, 0, none⟩) 2 2] (W.alloc (.cells #[.int .i64 1, .int .i64 3, .int .i64 2, .int .i64 1, .int .i64 2, .int .i64 1] 54)) fun e w' => ∃ A B C D k0 k1 k2 k3, e = .returned (.tuple #[.agg #[.slice A 1 k0, .slice B 2 k1, .slice C 2 k2, .slice D 2 k3], .int .i64 0]) ∧ ColAt w' (fun _ => True) A B C D wantC ∧ Ext (W.alloc (.cells #[.int .i64 1, .int .i64 3, .int .i64 2, .int .i64 1, .int .i64 2, .int .i64 1] 54)) w' := by
 have h := co_Of listL _ _ 2 _ (sh_two W ⟨1, 3, 2⟩ ⟨1, 2, 1⟩) (by decide)
 rw [live_0] at h
 exact h.mono (fun e w' ⟨A, B, C, D, k0, k1, k2, k3, h1, h2, h3⟩ => ⟨A, B, C, D, k0, k1, k2, k3, h1, h2.to (fun _ _ => trivial), h3⟩)
theorem lv_Of2 (W : World) : Calls Try.prog 8 #[.slice (some ⟨W.heap.size, 0, none⟩) 2 2] (W.alloc (.cells #[.int .i64 1, .int .i64 2, .int .i64 7, .int .i64 3, .int .i64 4, .int .i64 7] 54)) fun e w' => ∃ A B C D k0 k1 k2 k3, e = .returned (.tuple #[.agg #[.slice A 0 k0, .slice B 0 k1, .slice C 0 k2, .slice D 0 k3], .int .i64 7]) ∧ ColAt w' (fun _ => True) A B C D noCol ∧ Ext W w' := by
 have h := co_Of [⟨1, 2, 7⟩, ⟨3, 4, 7⟩] _ _ 2 _ (sh_two W ⟨1, 2, 7⟩ ⟨3, 4, 7⟩) (by decide)
 rw [live_1] at h
 exact h.mono (fun e w' ⟨A, B, C, D, k0, k1, k2, k3, h1, h2, h3⟩ => ⟨A, B, C, D, k0, k1, k2, k3, h1, h2.to (fun _ _ => trivial), ((Ext.refl W).alloc _).trans h3⟩)
theorem lv_Dec1 (W : World) : Calls Try.prog 19 #[.slice (some ⟨W.heap.size, 0, none⟩) 7 7] (W.alloc (.cells #[.int .u8 1, .int .u8 1, .int .u8 2, .int .u8 2, .int .u8 2, .int .u8 2, .int .u8 2] 5)) fun e w' => ∃ A B C D k0 k1 k2 k3, e = .returned (.tuple #[.agg #[.slice A 1 k0, .slice B 2 k1, .slice C 2 k2, .slice D 2 k3], .int .i64 0]) ∧ ColAt w' (fun _ => True) A B C D wantC ∧ Ext W w' := by
 have h := co_Decode [1, 1, 2, 2, 2, 2, 2] _ _ 7 _ (by_seven W) (by decide) (by decide) (by decide)
 rw [live_3] at h
 exact h.mono (fun e w' ⟨A, B, C, D, k0, k1, k2, k3, h1, h2, h3⟩ => ⟨A, B, C, D, k0, k1, k2, k3, h1, h2.to (fun _ _ => trivial), ((Ext.refl W).alloc _).trans h3⟩)
theorem lv_Dec2 (W : World) : Calls Try.prog 19 #[.slice (some ⟨W.heap.size, 0, none⟩) 3 3] (W.alloc (.cells #[.int .u8 1, .int .u8 1, .int .u8 0] 5)) fun e w' => ∃ A B C D k0 k1 k2 k3, e = .returned (.tuple #[.agg #[.slice A 0 k0, .slice B 0 k1, .slice C 0 k2, .slice D 0 k3], .int .i64 1]) ∧ ColAt w' (fun _ => True) A B C D noCol ∧ Ext W w' := by
 have h := co_Decode [1, 1, 0] _ _ 3 _ (by_three W) (by decide) (by decide) (by decide)
 rw [live_4] at h
 exact h.mono (fun e w' ⟨A, B, C, D, k0, k1, k2, k3, h1, h2, h3⟩ => ⟨A, B, C, D, k0, k1, k2, k3, h1, h2.to (fun _ _ => trivial), ((Ext.refl W).alloc _).trans h3⟩)
theorem lv_Bld (W : World) : Calls Try.prog 22 #[.agg #[.slice none 0 0, .slice none 0 0, .int .i64 1, .int .i64 1], .string ⟨#[]⟩, .int .i64 3] W fun e w' => ∃ A B C D k0 k1 k2 k3, e = .returned (.tuple #[.agg #[.slice A 0 k0, .slice B 0 k1, .slice C 0 k2, .slice D 0 k3], .int .i64 1]) ∧ ColAt w' (fun _ => True) A B C D noCol ∧ Ext W w' := by
 have h := co_Build ⟨[], [], 1, 1⟩ ByteArray.empty 3 (fun _ => True) none none 0 0 W ⟨SliceR.nil _ _ _, SliceR.nil _ _ _⟩ ⟨Nat.zero_le _, Nat.zero_le _⟩
 rw [live_5] at h
 exact h.mono (fun e w' ⟨A, B, C, D, k0, k1, k2, k3, h1, h2, h3⟩ => ⟨A, B, C, D, k0, k1, k2, k3, h1, h2.to (fun _ _ => trivial), h3⟩)
theorem lv_Enc (ok : Nat → Prop) (E0 E1 E2 E3 : Option Addr) (j0 j1 j2 j3 : Nat) (W : World) (hv : ColAt W ok E0 E1 E2 E3 wantC) : Calls Try.prog 21 #[.agg #[.slice E0 1 j0, .slice E1 2 j1, .slice E2 2 j2, .slice E3 2 j3]] W fun e w' => ∃ A' c', e = .returned (.slice A' 7 c') ∧ Byts w' (fun _ => True) A' [1, 1, 2, 2, 2, 2, 2] ∧ Ext W w' := by
 have h := co_Encode wantC ok E0 E1 E2 E3 j0 j1 j2 j3 W hv ⟨by decide, by decide⟩
 rw [live_2] at h
 exact h.mono (fun e w' ⟨A, c, h1, _, h2, h3⟩ => ⟨A, c, h1, SliceR.mono h2 (fun _ _ _ _ hx => ⟨trivial, hx.2⟩), h3⟩)
theorem lv_Same (ok : Nat → Prop) (E0 E1 E2 E3 : Option Addr) (j0 j1 j2 j3 : Nat) (W : World) (ok' : Nat → Prop) (A0 A1 A2 A3 : Option Addr) (k0 k1 k2 k3 : Nat) (hv : ColAt W ok E0 E1 E2 E3 wantC) (hu : ColAt W ok' A0 A1 A2 A3 wantC) : Calls Try.prog 10 #[.agg #[.slice A0 1 k0, .slice A1 2 k1, .slice A2 2 k2, .slice A3 2 k3], .agg #[.slice E0 1 j0, .slice E1 2 j1, .slice E2 2 j2, .slice E3 2 j3]] W fun e w' => e = .returned (.bool true) ∧ Ext W w' :=
 (r12_Same wantC wantC ok' ok A0 A1 A2 A3 E0 E1 E2 E3 k0 k1 k2 k3 j0 j1 j2 j3 W hu hv).mono (fun e w' ⟨h1, h2⟩ => ⟨h1.trans (by simp), h2⟩)
theorem lv_Byt (W : World) (ok : Nat → Prop) (A : Option Addr) (c : Nat) (hv : Byts W ok A [1, 1, 2, 2, 2, 2, 2]) : Calls Try.prog 20 #[.slice A 7 c, .slice (some ⟨W.heap.size, 0, none⟩) 7 7] (W.alloc (.cells #[.int .u8 1, .int .u8 1, .int .u8 2, .int .u8 2, .int .u8 2, .int .u8 2, .int .u8 2] 5)) fun e w' => e = .returned (.bool true) ∧ Ext W w' :=
 (r12_Bytes [1, 1, 2, 2, 2, 2, 2] [1, 1, 2, 2, 2, 2, 2] ok (fun _ => True) A _ c 7 _ (SliceR.mono hv (fun _ _ _ _ hx => ⟨hx.1, ((Ext.refl W).alloc _).cell hx.2⟩)) (by_seven W) (by decide) (by decide)).mono (fun e w' ⟨h1, h2⟩ => ⟨h1, ((Ext.refl W).alloc _).trans h2⟩)
theorem lv_Val (ok : Nat → Prop) (E0 E1 E2 E3 : Option Addr) (j0 j1 j2 j3 : Nat) (W : World) (hv : ColAt W ok E0 E1 E2 E3 wantC) : Calls Try.prog 12 #[.agg #[.slice E0 1 j0, .slice E1 2 j1, .slice E2 2 j2, .slice E3 2 j3]] W fun e w' => e = .returned (.bool true) ∧ Ext W w' :=
 (co_Valid wantC ok E0 E1 E2 E3 j0 j1 j2 j3 W hv (by decide)).mono (fun e w' ⟨h1, h2⟩ => ⟨by rw [h1, live_b], h2⟩)
theorem lv_Val2 (W : World) : Calls Try.prog 12 #[.agg #[.slice none 0 0, .slice (some ⟨W.heap.size, 0, none⟩) 1 1, .slice none 0 0, .slice none 0 0]] (W.alloc (.cells #[.int .i64 0] 3)) fun e w' => e = .returned (.bool true) ∧ Ext W w' :=
 (co_Valid ⟨[], [0], [], []⟩ (fun _ => True) none _ none none 0 1 0 0 _ ⟨SliceR.nil _ _ _, nu_one W 0, SliceR.nil _ _ _, SliceR.nil _ _ _⟩ (by decide)).mono (fun e w' ⟨h1, h2⟩ => ⟨by rw [h1, live_6], ((Ext.refl W).alloc _).trans h2⟩)
theorem lv_Val3 (W : World) : Calls Try.prog 12 #[.agg #[.slice (some ⟨W.heap.size, 0, none⟩) 1 1, .slice none 0 0, .slice none 0 0, .slice none 0 0]] (W.alloc (.cells #[.int .i64 1] 3)) fun e w' => e = .returned (.bool false) ∧ Ext W w' :=
 (co_Valid ⟨[1], [], [], []⟩ (fun _ => True) _ none none none 1 0 0 0 _ ⟨nu_one W 1, SliceR.nil _ _ _, SliceR.nil _ _ _, SliceR.nil _ _ _⟩ (by decide)).mono (fun e w' ⟨h1, h2⟩ => ⟨by rw [h1, live_7], ((Ext.refl W).alloc _).trans h2⟩)
def rowL : List Sh := [⟨1, 2, 1⟩, ⟨1, 3, 2⟩]
theorem lv_Row (ok : Nat → Prop) (E0 E1 E2 E3 : Option Addr) (j0 j1 j2 j3 : Nat) (W : World) (hv : ColAt W ok E0 E1 E2 E3 wantC) : Calls Try.prog 15 #[.agg #[.slice E0 1 j0, .slice E1 2 j1, .slice E2 2 j2, .slice E3 2 j3], .int .i64 1] W fun e w' => ∃ A' c', e = .returned (.slice A' 2 c') ∧ Shares w' (fun _ => True) A' rowL ∧ Ext W w' := by
 have h := co_Row wantC 1 ok E0 E1 E2 E3 j0 j1 j2 j3 W hv (by decide)
 rw [live_9] at h
 exact h.mono (fun e w' ⟨A, c, h1, h2, h3⟩ => ⟨A, c, h1, SliceR.mono h2 (fun _ _ _ _ hx => ⟨trivial, hx.2⟩), h3⟩)
theorem lv_RowZ (ok : Nat → Prop) (E0 E1 E2 E3 : Option Addr) (j0 j1 j2 j3 : Nat) (W : World) (hv : ColAt W ok E0 E1 E2 E3 wantC) : Calls Try.prog 15 #[.agg #[.slice E0 1 j0, .slice E1 2 j1, .slice E2 2 j2, .slice E3 2 j3], .int .i64 1] (W.alloc (.cells #[.int .i64 1, .int .i64 2, .int .i64 1, .int .i64 1, .int .i64 3, .int .i64 2] 54)) fun e w' => ∃ A' c', e = .returned (.slice A' 2 c') ∧ Shares w' (fun _ => True) A' rowL ∧ Shares w' (fun _ => True) (some ⟨W.heap.size, 0, none⟩) rowL ∧ Ext W w' :=
 (lv_Row ok E0 E1 E2 E3 j0 j1 j2 j3 _ (hv.ext ((Ext.refl W).alloc _))).mono (fun _ _ ⟨A, c, h1, h2, h3⟩ => ⟨A, c, h1, h2, (sh_two W ⟨1, 2, 1⟩ ⟨1, 3, 2⟩).ext h3, ((Ext.refl W).alloc _).trans h3⟩)
theorem lv_Deg (ok : Nat → Prop) (E0 E1 E2 E3 : Option Addr) (j0 j1 j2 j3 : Nat) (W : World) (hv : ColAt W ok E0 E1 E2 E3 wantC) : Calls Try.prog 16 #[.agg #[.slice E0 1 j0, .slice E1 2 j1, .slice E2 2 j2, .slice E3 2 j3], .int .i64 1] W fun e w' => e = .returned (.int .i64 2) ∧ Ext W w' := by
 have h := co_Degree wantC 1 ok E0 E1 E2 E3 j0 j1 j2 j3 W hv (by decide)
 rw [live_9] at h
 exact h
theorem lv_Ent (ok : Nat → Prop) (E0 E1 E2 E3 : Option Addr) (j0 j1 j2 j3 : Nat) (W : World) (hv : ColAt W ok E0 E1 E2 E3 wantC) : Calls Try.prog 17 #[.agg #[.slice E0 1 j0, .slice E1 2 j1, .slice E2 2 j2, .slice E3 2 j3]] W fun e w' => ∃ A' c', e = .returned (.slice A' 2 c') ∧ Ext W w' := by
 have h := co_Entries wantC ok E0 E1 E2 E3 j0 j1 j2 j3 W hv (by decide)
 rw [live_8] at h
 exact h.mono (fun e w' ⟨A, c, h1, _, _, h3⟩ => ⟨A, c, h1, h3⟩)
theorem lv_Adj (A B : Option Addr) (c d : Nat) (W : World) (ok ok' : Nat → Prop) (ha : Shares W ok A rowL) (hb : Shares W ok' B rowL) : Calls Try.prog 14 #[.slice A 2 c, .slice B 2 d] W fun e w' => e = .returned (.bool true) ∧ Ext W w' :=
 (r12_Adjs rowL rowL ok ok' A B c d W ha hb).mono (fun _ _ ⟨h1, h2⟩ => ⟨h1, h2⟩)
theorem lv_want (W : World) : ColAt ((((W.alloc (.cells #[.int .i64 1] 3)).alloc (.cells #[.int .i64 0, .int .i64 2] 3)).alloc (.cells #[.int .i64 2, .int .i64 3] 3)).alloc (.cells #[.int .i64 1, .int .i64 2] 3)) (fun _ => True) (some ⟨W.heap.size, 0, none⟩) (some ⟨W.heap.size + 1, 0, none⟩) (some ⟨W.heap.size + 1 + 1, 0, none⟩) (some ⟨W.heap.size + 1 + 1 + 1, 0, none⟩) wantC := by
 have h1 := nu_one W 1
 have h2 := nu_two (W.alloc (.cells #[.int .i64 1] 3)) 0 2
 have h3 := nu_two ((W.alloc (.cells #[.int .i64 1] 3)).alloc (.cells #[.int .i64 0, .int .i64 2] 3)) 2 3
 have h4 := nu_two (((W.alloc (.cells #[.int .i64 1] 3)).alloc (.cells #[.int .i64 0, .int .i64 2] 3)).alloc (.cells #[.int .i64 2, .int .i64 3] 3)) 1 2
 have e1 : (W.alloc (.cells #[.int .i64 1] 3)).heap.size = W.heap.size + 1 := by simp
 have e2 : ((W.alloc (.cells #[.int .i64 1] 3)).alloc (.cells #[.int .i64 0, .int .i64 2] 3)).heap.size = W.heap.size + 1 + 1 := by simp
 have e3 : (((W.alloc (.cells #[.int .i64 1] 3)).alloc (.cells #[.int .i64 0, .int .i64 2] 3)).alloc (.cells #[.int .i64 2, .int .i64 3] 3)).heap.size = W.heap.size + 1 + 1 + 1 := by simp
 rw [e1] at h2
 rw [e2] at h3
 rw [e3] at h4
 exact ⟨h1.ext ((((Ext.refl _).alloc _).alloc _).alloc _), h2.ext (((Ext.refl _).alloc _).alloc _), h3.ext ((Ext.refl _).alloc _), h4⟩
theorem box_colV (w : World) (v0 v1 v2 v3 : Value) (t : TypeId) : ∃ (q : Nat) (w1 : World), q = w.heap.size ∧ w1 = w.alloc (.cells #[v0, v1, v2, v3] t) ∧ Box4 w1 q v0 v1 v2 v3 ∧ Ext w w1 :=
 ⟨_, _, rfl, rfl, ⟨by go_simp, by go_simp, by go_simp, by go_simp⟩, (Ext.refl _).alloc _⟩
set_option maxRecDepth 100000 in
set_option maxHeartbeats 6400000 in
theorem l_lives (w : World) : Calls Try.prog 7 #[] w fun e w' => e = .returned (.bool true) ∧ Ext w w' := by
 go_enter Try.func7, Try.ntmps7
 go_upto_region 2 with (fail)
 have HO1 := Lib.hid (lv_Of1 w)
 obtain ⟨b0, w1, hb0, hw1, hcl, hx1⟩ : ∃ (b : Nat) (w1 : World), b = w.heap.size ∧ w1 = (w.alloc (.cells #[.int .i64 1, .int .i64 3, .int .i64 2, .int .i64 1, .int .i64 2, .int .i64 1] 54)) ∧ (w1.cell? ⟨b, 0, none⟩ = some (.int .i64 1) ∧ w1.cell? ⟨b, 1, none⟩ = some (.int .i64 3) ∧ w1.cell? ⟨b, 2, none⟩ = some (.int .i64 2) ∧ w1.cell? ⟨b, 3, none⟩ = some (.int .i64 1) ∧ w1.cell? ⟨b, 4, none⟩ = some (.int .i64 2) ∧ w1.cell? ⟨b, 5, none⟩ = some (.int .i64 1)) ∧ Ext w w1 := ⟨_, _, rfl, rfl, ⟨by go_simp, by go_simp, by go_simp, by go_simp, by go_simp, by go_simp⟩, (Ext.refl _).alloc _⟩
 rw [← hw1, ← hb0] at HO1 ⊢
 have HCL := Lib.hid hcl
 have HX1 := Lib.hid hx1
 clear hw1 hb0 hcl hx1
 go_upto_region 3 with (go_at_call 8; (go_loud ((with_reducible refine (HO1.out).mono ?_); rintro e u2 ⟨A0, A1, A2, A3, k0, k1, k2, k3, rfl, hca, hx2⟩; clear HO1)))
 obtain ⟨qa, w3, hqa, hw3, hba, hx3⟩ := box_colV u2 (.slice A0 1 k0) (.slice A1 2 k1) (.slice A2 2 k2) (.slice A3 2 k3) 26
 rw [← hw3, ← hqa]
 have HCA := Lib.hid (hca.ext hx3)
 have HBA := Lib.hid hba
 have HX3 := Lib.hid (hx2.trans hx3)
 clear hqa hw3 hba hx2 hx3 hca
 have HO2 := Lib.hid (lv_Of2 w3)
 go_upto_region 4 with (go_at_call 8; (go_loud ((with_reducible refine (HO2.out).mono ?_); rintro e u4 ⟨B0, B1, B2, B3, m0, m1, m2, m3, rfl, -, hx4⟩; clear HO2)))
 obtain ⟨qb, w5, hqb, hw5, -, hx5⟩ := box_colV u4 (.slice B0 0 m0) (.slice B1 0 m1) (.slice B2 0 m2) (.slice B3 0 m3) 26
 rw [← hw5, ← hqb]
 have HX5 := Lib.hid (hx4.trans hx5)
 clear hqb hw5 hx4 hx5
 go_upto_region 5 with (fail)
 obtain ⟨h6, hh6⟩ : ∃ h, h = w5.heap.size := ⟨_, rfl⟩
 have hwant := lv_want w5
 obtain ⟨w6, hw6⟩ : ∃ W, W = ((((w5.alloc (.cells #[.int .i64 1] 3)).alloc (.cells #[.int .i64 0, .int .i64 2] 3)).alloc (.cells #[.int .i64 2, .int .i64 3] 3)).alloc (.cells #[.int .i64 1, .int .i64 2] 3)) := ⟨_, rfl⟩
 have hx6 : Ext w5 w6 := by rw [hw6]; exact ((((Ext.refl _).alloc _).alloc _).alloc _).alloc _
 have hs6 : h6 + 1 + 1 + 1 + 1 = w6.heap.size := by rw [hw6, hh6]; simp
 rw [← hw6, ← hh6] at hwant
 obtain ⟨qw, w7, hqw, hw7, hbw, hx7⟩ := box_colV w6 (.slice (some ⟨h6, 0, none⟩) 1 1) (.slice (some ⟨h6 + 1, 0, none⟩) 2 2) (.slice (some ⟨h6 + 1 + 1, 0, none⟩) 2 2) (.slice (some ⟨h6 + 1 + 1 + 1, 0, none⟩) 2 2) 26
 rw [← hs6] at hqw
 rw [← hw6, ← hh6, ← hw7]
 rw [← hqw]
 have HWT := Lib.hid (hwant.ext hx7)
 have HBW := Lib.hid hbw
 have HX7 := Lib.hid (hx6.trans hx7)
 clear hwant hbw hx6 hx7 hw6 hw7 hqw hs6 hh6
 obtain ⟨z0, z1, z2, z3⟩ := HBW.out
 have HEN := Lib.hid (lv_Enc _ _ _ _ _ 1 2 2 2 w7 HWT.out)
 go_upto_region 6 with (go_at_call 21; (go_loud ((with_reducible refine (HEN.out).mono ?_); rintro e u8 ⟨A7, c7, rfl, hb7, hx8⟩; clear HEN)))
 have HBY := Lib.hid hb7
 have HX8 := Lib.hid hx8
 clear hb7 hx8 z0 z1 z2 z3
 have HD1 := Lib.hid (lv_Dec1 u8)
 go_upto_region 7 with (go_at_call 19; (go_loud ((with_reducible refine (HD1.out).mono ?_); rintro e u10 ⟨D0, D1, D2, D3, d0, d1, d2, d3, rfl, hcd, hx10⟩; clear HD1)))
 obtain ⟨qd, w11, hqd, hw11, hbd, hx11⟩ := box_colV u10 (.slice D0 1 d0) (.slice D1 2 d1) (.slice D2 2 d2) (.slice D3 2 d3) 26
 rw [← hw11, ← hqd]
 have HCD := Lib.hid (hcd.ext hx11)
 have HBD := Lib.hid hbd
 have HX11 := Lib.hid (hx10.trans hx11)
 clear hqd hw11 hbd hx10 hx11 hcd
 have HD2 := Lib.hid (lv_Dec2 w11)
 go_upto_region 8 with (go_at_call 19; (go_loud ((with_reducible refine (HD2.out).mono ?_); rintro e u12 ⟨F0, F1, F2, F3, f0, f1, f2, f3, rfl, -, hx12⟩; clear HD2)))
 obtain ⟨qf, w13, hqf, hw13, -, hx13⟩ := box_colV u12 (.slice F0 0 f0) (.slice F1 0 f1) (.slice F2 0 f2) (.slice F3 0 f3) 26
 rw [← hw13, ← hqf]
 have HX13 := Lib.hid (hx12.trans hx13)
 clear hqf hw13 hx12 hx13
 have HBL := Lib.hid (lv_Bld w13)
 go_upto_region 9 with (go_at_call 22; (go_loud ((with_reducible refine (HBL.out).mono ?_); rintro e u14 ⟨G0, G1, G2, G3, g0, g1, g2, g3, rfl, -, hx14⟩; clear HBL)))
 obtain ⟨qg, w9, hqg, hw9, -, hx15⟩ := box_colV u14 (.slice G0 0 g0) (.slice G1 0 g1) (.slice G2 0 g2) (.slice G3 0 g3) 26
 rw [← hw9, ← hqg]
 have HX15 := Lib.hid (hx14.trans hx15)
 clear hqg hw9 hx14 hx15
 have HY11 := Lib.hid (HX13.out.trans HX15.out)
 have HY8 := Lib.hid (HX11.out.trans HY11.out)
 have HY7 := Lib.hid (HX8.out.trans HY8.out)
 have HY5 := Lib.hid (HX7.out.trans HY7.out)
 have HY3 := Lib.hid (HX5.out.trans HY5.out)
 have HY1 := Lib.hid (HX3.out.trans HY3.out)
 have HX9 := Lib.hid (HX1.out.trans HY1.out)
 have hcl := HCL.out
 have hba := HBA.out.grown (HY3.out.gr none) (by simp)
 have hbw := HBW.out.grown (HY7.out.gr none) (by simp)
 have hbd := HBD.out.grown (HY11.out.gr none) (by simp)
 have MK9 := Lib.hid (fun V (e : Ext w9 V) => (⟨⟨e.cell hba.1, e.cell hba.2.1, e.cell hba.2.2.1, e.cell hba.2.2.2⟩, ⟨e.cell hbw.1, e.cell hbw.2.1, e.cell hbw.2.2.1, e.cell hbw.2.2.2⟩, ⟨e.cell hbd.1, e.cell hbd.2.1, e.cell hbd.2.2.1, e.cell hbd.2.2.2⟩, (HY1.out.trans e).cell hcl.1, (HY1.out.trans e).cell hcl.2.1, (HY1.out.trans e).cell hcl.2.2.1, (HY1.out.trans e).cell hcl.2.2.2.1, (HY1.out.trans e).cell hcl.2.2.2.2.1, (HY1.out.trans e).cell hcl.2.2.2.2.2⟩ : (V.cell? ⟨qa, 0, none⟩ = some (.slice A0 1 k0) ∧ V.cell? ⟨qa, 1, none⟩ = some (.slice A1 2 k1) ∧ V.cell? ⟨qa, 2, none⟩ = some (.slice A2 2 k2) ∧ V.cell? ⟨qa, 3, none⟩ = some (.slice A3 2 k3)) ∧ (V.cell? ⟨qw, 0, none⟩ = some (.slice (some ⟨h6, 0, none⟩) 1 1) ∧ V.cell? ⟨qw, 1, none⟩ = some (.slice (some ⟨h6 + 1, 0, none⟩) 2 2) ∧ V.cell? ⟨qw, 2, none⟩ = some (.slice (some ⟨h6 + 1 + 1, 0, none⟩) 2 2) ∧ V.cell? ⟨qw, 3, none⟩ = some (.slice (some ⟨h6 + 1 + 1 + 1, 0, none⟩) 2 2)) ∧ (V.cell? ⟨qd, 0, none⟩ = some (.slice D0 1 d0) ∧ V.cell? ⟨qd, 1, none⟩ = some (.slice D1 2 d1) ∧ V.cell? ⟨qd, 2, none⟩ = some (.slice D2 2 d2) ∧ V.cell? ⟨qd, 3, none⟩ = some (.slice D3 2 d3)) ∧ V.cell? ⟨b0, 0, none⟩ = some (.int .i64 1) ∧ V.cell? ⟨b0, 1, none⟩ = some (.int .i64 3) ∧ V.cell? ⟨b0, 2, none⟩ = some (.int .i64 2) ∧ V.cell? ⟨b0, 3, none⟩ = some (.int .i64 1) ∧ V.cell? ⟨b0, 4, none⟩ = some (.int .i64 2) ∧ V.cell? ⟨b0, 5, none⟩ = some (.int .i64 1)))
 have HS1 := Lib.hid (fun V (e : Ext w9 V) => lv_Same _ _ _ _ _ 1 2 2 2 V _ A0 A1 A2 A3 k0 k1 k2 k3 (HWT.out.ext (HY7.out.trans e)) (HCA.out.ext (HY3.out.trans e)))
 have HS2 := Lib.hid (fun V (e : Ext w9 V) => lv_Same _ _ _ _ _ 1 2 2 2 V _ D0 D1 D2 D3 d0 d1 d2 d3 (HWT.out.ext (HY7.out.trans e)) (HCD.out.ext (HY11.out.trans e)))
 have HB := Lib.hid (fun V (e : Ext w9 V) => lv_Byt V _ A7 c7 (HBY.out.ext (HY8.out.trans e)))
 have HV1 := Lib.hid (fun V (e : Ext w9 V) => lv_Val _ _ _ _ _ 1 2 2 2 V (HWT.out.ext (HY7.out.trans e)))
 have HR := Lib.hid (fun V (e : Ext w9 V) => lv_Row _ _ _ _ _ 1 2 2 2 V (HWT.out.ext (HY7.out.trans e)))
 have HRZ := Lib.hid (fun V (e : Ext w9 V) => lv_RowZ _ _ _ _ _ 1 2 2 2 V (HWT.out.ext (HY7.out.trans e)))
 have HD := Lib.hid (fun V (e : Ext w9 V) => lv_Deg _ _ _ _ _ 1 2 2 2 V (HWT.out.ext (HY7.out.trans e)))
 have HE := Lib.hid (fun V (e : Ext w9 V) => lv_Ent _ _ _ _ _ 1 2 2 2 V (HWT.out.ext (HY7.out.trans e)))
 clear hcl hba hbw hbd HCL HBA HBW HBD HWT HCA HCD HBY HX1 HX3 HX5 HX7 HX8 HX11 HX13 HX15 HY1 HY3 HY5 HY7 HY8 HY11
 refine wp_region_held_drew (S := (fun V => (V.cell? ⟨qa, 0, none⟩ = some (.slice A0 1 k0) ∧ V.cell? ⟨qa, 1, none⟩ = some (.slice A1 2 k1) ∧ V.cell? ⟨qa, 2, none⟩ = some (.slice A2 2 k2) ∧ V.cell? ⟨qa, 3, none⟩ = some (.slice A3 2 k3)) ∧ (V.cell? ⟨qw, 0, none⟩ = some (.slice (some ⟨h6, 0, none⟩) 1 1) ∧ V.cell? ⟨qw, 1, none⟩ = some (.slice (some ⟨h6 + 1, 0, none⟩) 2 2) ∧ V.cell? ⟨qw, 2, none⟩ = some (.slice (some ⟨h6 + 1 + 1, 0, none⟩) 2 2) ∧ V.cell? ⟨qw, 3, none⟩ = some (.slice (some ⟨h6 + 1 + 1 + 1, 0, none⟩) 2 2)) ∧ (V.cell? ⟨qd, 0, none⟩ = some (.slice D0 1 d0) ∧ V.cell? ⟨qd, 1, none⟩ = some (.slice D1 2 d1) ∧ V.cell? ⟨qd, 2, none⟩ = some (.slice D2 2 d2) ∧ V.cell? ⟨qd, 3, none⟩ = some (.slice D3 2 d3)) ∧ V.cell? ⟨b0, 0, none⟩ = some (.int .i64 1) ∧ V.cell? ⟨b0, 1, none⟩ = some (.int .i64 3) ∧ V.cell? ⟨b0, 2, none⟩ = some (.int .i64 2) ∧ V.cell? ⟨b0, 3, none⟩ = some (.int .i64 1) ∧ V.cell? ⟨b0, 4, none⟩ = some (.int .i64 2) ∧ V.cell? ⟨b0, 5, none⟩ = some (.int .i64 1))) (by kernel_rfl) ?hs70001 (fun hHeld => ?go70001)
 case hs70001 => (exact MK9.out _ (by solve_by_elim [X0, X1, X2, X3]))
 refine TK 0 (v := ?v70002) hHeld ?hy70002 ?_
 case hy70002 => (intro w hSw; (try dsimp only at hSw); go_simp <;> first | with_reducible rfl | rw [if_neg (by omega)] | rw [if_pos (by omega)])
 (try simp only [PU])
 refine TK 1 (v := ?v70003) hHeld ?hy70003 ?_
 case hy70003 => (intro w hSw; (try dsimp only at hSw); go_simp <;> first | with_reducible rfl | rw [if_neg (by omega)] | rw [if_pos (by omega)])
 (try simp only [PU])
 refine TK 2 (v := ?v70004) hHeld ?hy70004 ?_
 case hy70004 => (intro w hSw; (try dsimp only at hSw); go_simp <;> first | with_reducible rfl | rw [if_neg (by omega)] | rw [if_pos (by omega)])
 (try simp only [PU])
 refine TK 3 (v := ?v70005) hHeld ?hy70005 ?_
 case hy70005 => (intro w hSw; (try dsimp only at hSw); go_simp <;> first | with_reducible rfl | rw [if_neg (by omega)] | rw [if_pos (by omega)])
 (try simp only [PU])
 refine TK 4 (v := ?v70006) hHeld ?hy70006 ?_
 case hy70006 => (intro w hSw; (try dsimp only at hSw); go_simp <;> first | with_reducible rfl | rw [if_neg (by omega)] | rw [if_pos (by omega)])
 (try simp only [PU])
 refine wpAnyH_ready (rs := [5]) (by kernel_rfl) (by simp) ?_
 refine AllReadyH.cons (o := ⟨_, _, _, _, _, _⟩) rfl (fun K hK => ?step70007x0) ?more70007x0
 case more70007x0 => exact AllReadyH.nil
 go_simp
 ((with_reducible refine (HS1.out _ (by solve_by_elim [X0, X1, X2, X3])).mono ?_); rintro r v5 ⟨rfl, hy5⟩; replace hy5 : Ext w9 v5 := Ext.trans (a := w9) (by solve_by_elim [X0, X1, X2, X3]) hy5)
 refine hK.out _ _ ?hS70007x0 (fun H70007 => ?_)
 case hS70007x0 => first | (exact MK9.out _ (by solve_by_elim [X0, X1, X2, X3])) | ((try dsimp only); (exact MK9.out _ (by solve_by_elim [X0, X1, X2, X3])))
 clear hK K
 clear hHeld
 (try simp only [PU])
 refine TK 6 (v := ?v70008) H70007 ?hy70008 ?_
 case hy70008 => (intro w hSw; (try dsimp only at hSw); go_simp <;> first | with_reducible rfl | rw [if_neg (by omega)] | rw [if_pos (by omega)])
 (try simp only [PU])
 refine TK 7 (v := ?v70009) H70007 ?hy70009 ?_
 case hy70009 => (intro w hSw; (try dsimp only at hSw); go_simp <;> first | with_reducible rfl | rw [if_neg (by omega)] | rw [if_pos (by omega)])
 (try simp only [PU])
 refine TK 8 (v := ?v70010) H70007 ?hy70010 ?_
 case hy70010 => (intro w hSw; (try dsimp only at hSw); go_simp <;> first | with_reducible rfl | rw [if_neg (by omega)] | rw [if_pos (by omega)])
 (try simp only [PU])
 refine TK 9 (v := ?v70011) H70007 ?hy70011 ?_
 case hy70011 => (intro w hSw; (try dsimp only at hSw); go_simp <;> first | with_reducible rfl | rw [if_neg (by omega)] | rw [if_pos (by omega)])
 (try simp only [PU])
 refine TK 10 (v := ?v70012) H70007 ?hy70012 ?_
 case hy70012 => (intro w hSw; (try dsimp only at hSw); go_simp <;> first | with_reducible rfl | rw [if_neg (by omega)] | rw [if_pos (by omega)])
 (try simp only [PU])
 refine TK 11 (v := ?v70013) H70007 ?hy70013 ?_
 case hy70013 => (intro w hSw; (try dsimp only at hSw); go_simp <;> first | with_reducible rfl | rw [if_neg (by omega)] | rw [if_pos (by omega)])
 (try simp only [PU])
 refine TK 12 (v := ?v70014) H70007 ?hy70014 ?_
 case hy70014 => (intro w hSw; (try dsimp only at hSw); go_simp <;> first | with_reducible rfl | rw [if_neg (by omega)] | rw [if_pos (by omega)])
 (try simp only [PU])
 refine wpAnyH_ready (rs := [13]) (by kernel_rfl) (by simp) ?_
 refine AllReadyH.cons (o := ⟨_, _, _, _, _, _⟩) rfl (fun K hK => ?step70015x0) ?more70015x0
 case more70015x0 => exact AllReadyH.nil
 go_simp
 refine hK.out _ _ ?hS70015x0 (fun H70015 => ?_)
 case hS70015x0 => first | (exact MK9.out _ (by solve_by_elim [X0, X1, X2, X3])) | ((try dsimp only); (exact MK9.out _ (by solve_by_elim [X0, X1, X2, X3])))
 clear hK K
 clear H70007
 (try simp only [PU])
 refine wpAnyH_ready (rs := [14]) (by kernel_rfl) (by simp) ?_
 refine AllReadyH.cons (o := ⟨_, _, _, _, _, _⟩) rfl (fun K hK => ?step70016x0) ?more70016x0
 case more70016x0 => exact AllReadyH.nil
 go_simp
 ((with_reducible refine (HB.out _ (by solve_by_elim [X0, X1, X2, X3])).mono ?_); rintro r v14 ⟨rfl, hy14⟩; replace hy14 : Ext w9 v14 := Ext.trans (a := w9) (by solve_by_elim [X0, X1, X2, X3]) hy14)
 refine hK.out _ _ ?hS70016x0 (fun H70016 => ?_)
 case hS70016x0 => first | (exact MK9.out _ (by solve_by_elim [X0, X1, X2, X3])) | ((try dsimp only); (exact MK9.out _ (by solve_by_elim [X0, X1, X2, X3])))
 clear hK K
 clear H70015
 (try simp only [PU])
 refine TK 15 (v := ?v70017) H70016 ?hy70017 ?_
 case hy70017 => (intro w hSw; (try dsimp only at hSw); go_simp <;> first | with_reducible rfl | rw [if_neg (by omega)] | rw [if_pos (by omega)])
 (try simp only [PU])
 refine TK 16 (v := ?v70018) H70016 ?hy70018 ?_
 case hy70018 => (intro w hSw; (try dsimp only at hSw); go_simp <;> first | with_reducible rfl | rw [if_neg (by omega)] | rw [if_pos (by omega)])
 (try simp only [PU])
 refine TK 17 (v := ?v70019) H70016 ?hy70019 ?_
 case hy70019 => (intro w hSw; (try dsimp only at hSw); go_simp <;> first | with_reducible rfl | rw [if_neg (by omega)] | rw [if_pos (by omega)])
 (try simp only [PU])
 refine TK 18 (v := ?v70020) H70016 ?hy70020 ?_
 case hy70020 => (intro w hSw; (try dsimp only at hSw); go_simp <;> first | with_reducible rfl | rw [if_neg (by omega)] | rw [if_pos (by omega)])
 (try simp only [PU])
 refine TK 19 (v := ?v70021) H70016 ?hy70021 ?_
 case hy70021 => (intro w hSw; (try dsimp only at hSw); go_simp <;> first | with_reducible rfl | rw [if_neg (by omega)] | rw [if_pos (by omega)])
 (try simp only [PU])
 refine TK 20 (v := ?v70022) H70016 ?hy70022 ?_
 case hy70022 => (intro w hSw; (try dsimp only at hSw); go_simp <;> first | with_reducible rfl | rw [if_neg (by omega)] | rw [if_pos (by omega)])
 (try simp only [PU])
 refine TK 21 (v := ?v70023) H70016 ?hy70023 ?_
 case hy70023 => (intro w hSw; (try dsimp only at hSw); go_simp <;> first | with_reducible rfl | rw [if_neg (by omega)] | rw [if_pos (by omega)])
 (try simp only [PU])
 refine TK 22 (v := ?v70024) H70016 ?hy70024 ?_
 case hy70024 => (intro w hSw; (try dsimp only at hSw); go_simp <;> first | with_reducible rfl | rw [if_neg (by omega)] | rw [if_pos (by omega)])
 (try simp only [PU])
 refine wpAnyH_ready (rs := [23]) (by kernel_rfl) (by simp) ?_
 refine AllReadyH.cons (o := ⟨_, _, _, _, _, _⟩) rfl (fun K hK => ?step70025x0) ?more70025x0
 case more70025x0 => exact AllReadyH.nil
 go_simp
 ((with_reducible refine (HS2.out _ (by solve_by_elim [X0, X1, X2, X3])).mono ?_); rintro r v23 ⟨rfl, hy23⟩; replace hy23 : Ext w9 v23 := Ext.trans (a := w9) (by solve_by_elim [X0, X1, X2, X3]) hy23)
 refine hK.out _ _ ?hS70025x0 (fun H70025 => ?_)
 case hS70025x0 => first | (exact MK9.out _ (by solve_by_elim [X0, X1, X2, X3])) | ((try dsimp only); (exact MK9.out _ (by solve_by_elim [X0, X1, X2, X3])))
 clear hK K
 clear H70016
 (try simp only [PU])
 refine TK 24 (v := ?v70026) H70025 ?hy70026 ?_
 case hy70026 => (intro w hSw; (try dsimp only at hSw); go_simp <;> first | with_reducible rfl | rw [if_neg (by omega)] | rw [if_pos (by omega)])
 (try simp only [PU])
 refine TK 25 (v := ?v70027) H70025 ?hy70027 ?_
 case hy70027 => (intro w hSw; (try dsimp only at hSw); go_simp <;> first | with_reducible rfl | rw [if_neg (by omega)] | rw [if_pos (by omega)])
 (try simp only [PU])
 refine TK 26 (v := ?v70028) H70025 ?hy70028 ?_
 case hy70028 => (intro w hSw; (try dsimp only at hSw); go_simp <;> first | with_reducible rfl | rw [if_neg (by omega)] | rw [if_pos (by omega)])
 (try simp only [PU])
 refine TK 27 (v := ?v70029) H70025 ?hy70029 ?_
 case hy70029 => (intro w hSw; (try dsimp only at hSw); go_simp <;> first | with_reducible rfl | rw [if_neg (by omega)] | rw [if_pos (by omega)])
 (try simp only [PU])
 refine TK 28 (v := ?v70030) H70025 ?hy70030 ?_
 case hy70030 => (intro w hSw; (try dsimp only at hSw); go_simp <;> first | with_reducible rfl | rw [if_neg (by omega)] | rw [if_pos (by omega)])
 (try simp only [PU])
 refine TK 29 (v := ?v70031) H70025 ?hy70031 ?_
 case hy70031 => (intro w hSw; (try dsimp only at hSw); go_simp <;> first | with_reducible rfl | rw [if_neg (by omega)] | rw [if_pos (by omega)])
 (try simp only [PU])
 refine TK 30 (v := ?v70032) H70025 ?hy70032 ?_
 case hy70032 => (intro w hSw; (try dsimp only at hSw); go_simp <;> first | with_reducible rfl | rw [if_neg (by omega)] | rw [if_pos (by omega)])
 (try simp only [PU])
 refine TK 31 (v := ?v70033) H70025 ?hy70033 ?_
 case hy70033 => (intro w hSw; (try dsimp only at hSw); go_simp <;> first | with_reducible rfl | rw [if_neg (by omega)] | rw [if_pos (by omega)])
 (try simp only [PU])
 refine TK 32 (v := ?v70034) H70025 ?hy70034 ?_
 case hy70034 => (intro w hSw; (try dsimp only at hSw); go_simp <;> first | with_reducible rfl | rw [if_neg (by omega)] | rw [if_pos (by omega)])
 (try simp only [PU])
 refine TK 33 (v := ?v70035) H70025 ?hy70035 ?_
 case hy70035 => (intro w hSw; (try dsimp only at hSw); go_simp <;> first | with_reducible rfl | rw [if_neg (by omega)] | rw [if_pos (by omega)])
 (try simp only [PU])
 refine TK 34 (v := ?v70036) H70025 ?hy70036 ?_
 case hy70036 => (intro w hSw; (try dsimp only at hSw); go_simp <;> first | with_reducible rfl | rw [if_neg (by omega)] | rw [if_pos (by omega)])
 (try simp only [PU])
 refine wpAnyH_ready (rs := [35]) (by kernel_rfl) (by simp) ?_
 refine AllReadyH.cons (o := ⟨_, _, _, _, _, _⟩) rfl (fun K hK => ?step70037x0) ?more70037x0
 case more70037x0 => exact AllReadyH.nil
 go_simp
 ((with_reducible refine (HV1.out _ (by solve_by_elim [X0, X1, X2, X3])).mono ?_); rintro r v35 ⟨rfl, hy35⟩; replace hy35 : Ext w9 v35 := Ext.trans (a := w9) (by solve_by_elim [X0, X1, X2, X3]) hy35)
 refine hK.out _ _ ?hS70037x0 (fun H70037 => ?_)
 case hS70037x0 => first | (exact MK9.out _ (by solve_by_elim [X0, X1, X2, X3])) | ((try dsimp only); (exact MK9.out _ (by solve_by_elim [X0, X1, X2, X3])))
 clear hK K
 clear H70025
 (try simp only [PU])
 refine TK 36 (v := ?v70038) H70037 ?hy70038 ?_
 case hy70038 => (intro w hSw; (try dsimp only at hSw); go_simp <;> first | with_reducible rfl | rw [if_neg (by omega)] | rw [if_pos (by omega)])
 (try simp only [PU])
 refine TK 37 (v := ?v70039) H70037 ?hy70039 ?_
 case hy70039 => (intro w hSw; (try dsimp only at hSw); go_simp <;> first | with_reducible rfl | rw [if_neg (by omega)] | rw [if_pos (by omega)])
 (try simp only [PU])
 refine wpAnyH_ready (rs := [38]) (by kernel_rfl) (by simp) ?_
 refine AllReadyH.cons (o := ⟨_, _, _, _, _, _⟩) rfl (fun K hK => ?step70040x0) ?more70040x0
 case more70040x0 => exact AllReadyH.nil
 go_simp
 refine hK.out _ _ ?hS70040x0 (fun H70040 => ?_)
 case hS70040x0 => first | (exact MK9.out _ (by solve_by_elim [X0, X1, X2, X3])) | ((try dsimp only); (exact MK9.out _ (by solve_by_elim [X0, X1, X2, X3])))
 clear hK K
 clear H70037
 (try simp only [PU])
 refine TK 39 (v := ?v70041) H70040 ?hy70041 ?_
 case hy70041 => (intro w hSw; (try dsimp only at hSw); go_simp <;> first | with_reducible rfl | rw [if_neg (by omega)] | rw [if_pos (by omega)])
 (try simp only [PU])
 refine wpAnyH_ready (rs := [40]) (by kernel_rfl) (by simp) ?_
 refine AllReadyH.cons (o := ⟨_, _, _, _, _, _⟩) rfl (fun K hK => ?step70042x0) ?more70042x0
 case more70042x0 => exact AllReadyH.nil
 go_simp
 ((with_reducible refine (lv_Val2 _).mono ?_); rintro r v40 ⟨rfl, hy40⟩; replace hy40 : Ext w9 v40 := Ext.trans (a := w9) (by solve_by_elim [X0, X1, X2, X3]) hy40)
 refine hK.out _ _ ?hS70042x0 (fun H70042 => ?_)
 case hS70042x0 => first | (exact MK9.out _ (by solve_by_elim [X0, X1, X2, X3])) | ((try dsimp only); (exact MK9.out _ (by solve_by_elim [X0, X1, X2, X3])))
 clear hK K
 clear H70040
 (try simp only [PU])
 refine TK 41 (v := ?v70043) H70042 ?hy70043 ?_
 case hy70043 => (intro w hSw; (try dsimp only at hSw); go_simp <;> first | with_reducible rfl | rw [if_neg (by omega)] | rw [if_pos (by omega)])
 (try simp only [PU])
 refine TK 42 (v := ?v70044) H70042 ?hy70044 ?_
 case hy70044 => (intro w hSw; (try dsimp only at hSw); go_simp <;> first | with_reducible rfl | rw [if_neg (by omega)] | rw [if_pos (by omega)])
 (try simp only [PU])
 refine wpAnyH_ready (rs := [43]) (by kernel_rfl) (by simp) ?_
 refine AllReadyH.cons (o := ⟨_, _, _, _, _, _⟩) rfl (fun K hK => ?step70045x0) ?more70045x0
 case more70045x0 => exact AllReadyH.nil
 go_simp
 refine hK.out _ _ ?hS70045x0 (fun H70045 => ?_)
 case hS70045x0 => first | (exact MK9.out _ (by solve_by_elim [X0, X1, X2, X3])) | ((try dsimp only); (exact MK9.out _ (by solve_by_elim [X0, X1, X2, X3])))
 clear hK K
 clear H70042
 (try simp only [PU])
 refine TK 44 (v := ?v70046) H70045 ?hy70046 ?_
 case hy70046 => (intro w hSw; (try dsimp only at hSw); go_simp <;> first | with_reducible rfl | rw [if_neg (by omega)] | rw [if_pos (by omega)])
 (try simp only [PU])
 refine wpAnyH_ready (rs := [45]) (by kernel_rfl) (by simp) ?_
 refine AllReadyH.cons (o := ⟨_, _, _, _, _, _⟩) rfl (fun K hK => ?step70047x0) ?more70047x0
 case more70047x0 => exact AllReadyH.nil
 go_simp
 ((with_reducible refine (lv_Val3 _).mono ?_); rintro r v45 ⟨rfl, hy45⟩; replace hy45 : Ext w9 v45 := Ext.trans (a := w9) (by solve_by_elim [X0, X1, X2, X3]) hy45)
 refine hK.out _ _ ?hS70047x0 (fun H70047 => ?_)
 case hS70047x0 => first | (exact MK9.out _ (by solve_by_elim [X0, X1, X2, X3])) | ((try dsimp only); (exact MK9.out _ (by solve_by_elim [X0, X1, X2, X3])))
 clear hK K
 clear H70045
 (try simp only [PU])
 refine TK 46 (v := ?v70048) H70047 ?hy70048 ?_
 case hy70048 => (intro w hSw; (try dsimp only at hSw); go_simp <;> first | with_reducible rfl | rw [if_neg (by omega)] | rw [if_pos (by omega)])
 (try simp only [PU])
 refine TK 47 (v := ?v70049) H70047 ?hy70049 ?_
 case hy70049 => (intro w hSw; (try dsimp only at hSw); go_simp <;> first | with_reducible rfl | rw [if_neg (by omega)] | rw [if_pos (by omega)])
 (try simp only [PU])
 refine TK 48 (v := ?v70050) H70047 ?hy70050 ?_
 case hy70050 => (intro w hSw; (try dsimp only at hSw); go_simp <;> first | with_reducible rfl | rw [if_neg (by omega)] | rw [if_pos (by omega)])
 (try simp only [PU])
 refine TK 49 (v := ?v70051) H70047 ?hy70051 ?_
 case hy70051 => (intro w hSw; (try dsimp only at hSw); go_simp <;> first | with_reducible rfl | rw [if_neg (by omega)] | rw [if_pos (by omega)])
 (try simp only [PU])
 refine TK 51 (v := ?v70052) H70047 ?hy70052 ?_
 case hy70052 => (intro w hSw; (try dsimp only at hSw); go_simp <;> first | with_reducible rfl | rw [if_neg (by omega)] | rw [if_pos (by omega)])
 (try simp only [PU])
 refine TK 52 (v := ?v70053) H70047 ?hy70053 ?_
 case hy70053 => (intro w hSw; (try dsimp only at hSw); go_simp <;> first | with_reducible rfl | rw [if_neg (by omega)] | rw [if_pos (by omega)])
 (try simp only [PU])
 refine TK 53 (v := ?v70054) H70047 ?hy70054 ?_
 case hy70054 => (intro w hSw; (try dsimp only at hSw); go_simp <;> first | with_reducible rfl | rw [if_neg (by omega)] | rw [if_pos (by omega)])
 (try simp only [PU])
 refine TK 54 (v := ?v70055) H70047 ?hy70055 ?_
 case hy70055 => (intro w hSw; (try dsimp only at hSw); go_simp <;> first | with_reducible rfl | rw [if_neg (by omega)] | rw [if_pos (by omega)])
 (try simp only [PU])
 refine TK 55 (v := ?v70056) H70047 ?hy70056 ?_
 case hy70056 => (intro w hSw; (try dsimp only at hSw); go_simp <;> first | with_reducible rfl | rw [if_neg (by omega)] | rw [if_pos (by omega)])
 (try simp only [PU])
 refine TK 56 (v := ?v70057) H70047 ?hy70057 ?_
 case hy70057 => (intro w hSw; (try dsimp only at hSw); go_simp <;> first | with_reducible rfl | rw [if_neg (by omega)] | rw [if_pos (by omega)])
 (try simp only [PU])
 refine wpAnyH_ready (rs := [50, 57]) (by kernel_rfl) (by simp) ?_
 refine AllReadyH.cons (o := ⟨_, _, _, _, _, _⟩) rfl (fun K hK => ?step70058x0) ?more70058x0
 case more70058x0 =>
  refine AllReadyH.cons (o := ⟨_, _, _, _, _, _⟩) rfl (fun K hK => ?step70058x1) ?more70058x1
  case more70058x1 => exact AllReadyH.nil
  go_simp
  refine hK.out _ _ ?hS70058x1 (fun H70058 => ?_)
  case hS70058x1 => first | (exact MK9.out _ (by solve_by_elim [X0, X1, X2, X3])) | ((try dsimp only); (exact MK9.out _ (by solve_by_elim [X0, X1, X2, X3])))
  clear hK K
  clear H70047
  (try simp only [PU])
  refine wpAnyH_ready (rs := [50]) (by kernel_rfl) (by simp) ?_
  refine AllReadyH.cons (o := ⟨_, _, _, _, _, _⟩) rfl (fun K hK => ?step70059x0) ?more70059x0
  case more70059x0 => exact AllReadyH.nil
  go_simp
  ((with_reducible refine (HRZ.out _ (by solve_by_elim [X0, X1, X2, X3])).mono ?_); rintro r v50 ⟨A50, c50, rfl, hU50, hl57, hy50⟩; replace hy50 : Ext w9 v50 := Ext.trans (a := w9) (by solve_by_elim [X0, X1, X2, X3]) hy50)
  refine hK.out _ _ ?hS70059x0 (fun H70059 => ?_)
  case hS70059x0 => first | (exact MK9.out _ (by solve_by_elim [X0, X1, X2, X3])) | ((try dsimp only); (exact MK9.out _ (by solve_by_elim [X0, X1, X2, X3])))
  clear hK K
  clear H70058
  (try simp only [PU])
  refine wpAnyH_ready (rs := [58]) (by kernel_rfl) (by simp) ?_
  refine AllReadyH.cons (o := ⟨_, _, _, _, _, _⟩) rfl (fun K hK => ?step70060x0) ?more70060x0
  case more70060x0 => exact AllReadyH.nil
  go_simp
  ((with_reducible refine (lv_Adj _ _ _ _ _ _ _ (Shares.ext hU50 (by solve_by_elim [X0, X1, X2, X3])) (Shares.ext hl57 (by solve_by_elim [X0, X1, X2, X3]))).mono ?_); rintro r v58 ⟨rfl, hy58⟩; replace hy58 : Ext w9 v58 := Ext.trans (a := w9) (by solve_by_elim [X0, X1, X2, X3]) hy58)
  refine hK.out _ _ ?hS70060x0 (fun H70060 => ?_)
  case hS70060x0 => first | (exact MK9.out _ (by solve_by_elim [X0, X1, X2, X3])) | ((try dsimp only); (exact MK9.out _ (by solve_by_elim [X0, X1, X2, X3])))
  clear hK K
  clear H70059
  (try simp only [PU])
  refine TK 59 (v := ?v70061) H70060 ?hy70061 ?_
  case hy70061 => (intro w hSw; (try dsimp only at hSw); go_simp <;> first | with_reducible rfl | rw [if_neg (by omega)] | rw [if_pos (by omega)])
  (try simp only [PU])
  refine TK 60 (v := ?v70062) H70060 ?hy70062 ?_
  case hy70062 => (intro w hSw; (try dsimp only at hSw); go_simp <;> first | with_reducible rfl | rw [if_neg (by omega)] | rw [if_pos (by omega)])
  (try simp only [PU])
  refine TK 61 (v := ?v70063) H70060 ?hy70063 ?_
  case hy70063 => (intro w hSw; (try dsimp only at hSw); go_simp <;> first | with_reducible rfl | rw [if_neg (by omega)] | rw [if_pos (by omega)])
  (try simp only [PU])
  refine wpAnyH_ready (rs := [62]) (by kernel_rfl) (by simp) ?_
  refine AllReadyH.cons (o := ⟨_, _, _, _, _, _⟩) rfl (fun K hK => ?step70064x0) ?more70064x0
  case more70064x0 => exact AllReadyH.nil
  go_simp
  ((with_reducible refine (HD.out _ (by solve_by_elim [X0, X1, X2, X3])).mono ?_); rintro r v62 ⟨rfl, hy62⟩; replace hy62 : Ext w9 v62 := Ext.trans (a := w9) (by solve_by_elim [X0, X1, X2, X3]) hy62)
  refine hK.out _ _ ?hS70064x0 (fun H70064 => ?_)
  case hS70064x0 => first | (exact MK9.out _ (by solve_by_elim [X0, X1, X2, X3])) | ((try dsimp only); (exact MK9.out _ (by solve_by_elim [X0, X1, X2, X3])))
  clear hK K
  clear H70060
  (try simp only [PU])
  refine TK 63 (v := ?v70065) H70064 ?hy70065 ?_
  case hy70065 => (intro w hSw; (try dsimp only at hSw); go_simp <;> first | with_reducible rfl | rw [if_neg (by omega)] | rw [if_pos (by omega)])
  (try simp only [PU])
  refine TK 64 (v := ?v70066) H70064 ?hy70066 ?_
  case hy70066 => (intro w hSw; (try dsimp only at hSw); go_simp <;> first | with_reducible rfl | rw [if_neg (by omega)] | rw [if_pos (by omega)])
  (try simp only [PU])
  refine TK 65 (v := ?v70067) H70064 ?hy70067 ?_
  case hy70067 => (intro w hSw; (try dsimp only at hSw); go_simp <;> first | with_reducible rfl | rw [if_neg (by omega)] | rw [if_pos (by omega)])
  (try simp only [PU])
  refine TK 66 (v := ?v70068) H70064 ?hy70068 ?_
  case hy70068 => (intro w hSw; (try dsimp only at hSw); go_simp <;> first | with_reducible rfl | rw [if_neg (by omega)] | rw [if_pos (by omega)])
  (try simp only [PU])
  refine wpAnyH_ready (rs := [67]) (by kernel_rfl) (by simp) ?_
  refine AllReadyH.cons (o := ⟨_, _, _, _, _, _⟩) rfl (fun K hK => ?step70069x0) ?more70069x0
  case more70069x0 => exact AllReadyH.nil
  go_simp
  ((with_reducible refine (HE.out _ (by solve_by_elim [X0, X1, X2, X3])).mono ?_); rintro r v67 ⟨A67, c67, rfl, hy67⟩; replace hy67 : Ext w9 v67 := Ext.trans (a := w9) (by solve_by_elim [X0, X1, X2, X3]) hy67)
  refine hK.out _ _ ?hS70069x0 (fun H70069 => ?_)
  case hS70069x0 => first | (exact MK9.out _ (by solve_by_elim [X0, X1, X2, X3])) | ((try dsimp only); (exact MK9.out _ (by solve_by_elim [X0, X1, X2, X3])))
  clear hK K
  clear H70064
  (try simp only [PU])
  refine TK 68 (v := ?v70070) H70069 ?hy70070 ?_
  case hy70070 => (intro w hSw; (try dsimp only at hSw); go_simp <;> first | with_reducible rfl | rw [if_neg (by omega)] | rw [if_pos (by omega)])
  (try simp only [PU])
  refine TK 69 (v := ?v70071) H70069 ?hy70071 ?_
  case hy70071 => (intro w hSw; (try dsimp only at hSw); go_simp <;> first | with_reducible rfl | rw [if_neg (by omega)] | rw [if_pos (by omega)])
  (try simp only [PU])
  refine TK 70 (v := ?v70072) H70069 ?hy70072 ?_
  case hy70072 => (intro w hSw; (try dsimp only at hSw); go_simp <;> first | with_reducible rfl | rw [if_neg (by omega)] | rw [if_pos (by omega)])
  (try simp only [PU])
  refine TK 71 (v := ?v70073) H70069 ?hy70073 ?_
  case hy70073 => (intro w hSw; (try dsimp only at hSw); go_simp <;> first | with_reducible rfl | rw [if_neg (by omega)] | rw [if_pos (by omega)])
  (try simp only [PU])
  refine wpAnyH_done (by kernel_rfl) ?_ _
  clear H70069
  go_wp2_with fail
  go_ret
  exact ⟨rfl, HX9.out.trans (by solve_by_elim [X0, X1, X2, X3])⟩
 go_simp
 ((with_reducible refine (HR.out _ (by solve_by_elim [X0, X1, X2, X3])).mono ?_); rintro r v50 ⟨A50, c50, rfl, hU50, hy50⟩; replace hy50 : Ext w9 v50 := Ext.trans (a := w9) (by solve_by_elim [X0, X1, X2, X3]) hy50)
 refine hK.out _ _ ?hS70058x0 (fun H70058 => ?_)
 case hS70058x0 => first | (exact MK9.out _ (by solve_by_elim [X0, X1, X2, X3])) | ((try dsimp only); (exact MK9.out _ (by solve_by_elim [X0, X1, X2, X3])))
 clear hK K
 clear H70047
 (try simp only [PU])
 refine wpAnyH_ready (rs := [57]) (by kernel_rfl) (by simp) ?_
 refine AllReadyH.cons (o := ⟨_, _, _, _, _, _⟩) rfl (fun K hK => ?step70074x0) ?more70074x0
 case more70074x0 => exact AllReadyH.nil
 go_simp
 refine hK.out _ _ ?hS70074x0 (fun H70074 => ?_)
 case hS70074x0 => first | (exact MK9.out _ (by solve_by_elim [X0, X1, X2, X3])) | ((try dsimp only); (exact MK9.out _ (by solve_by_elim [X0, X1, X2, X3])))
 clear hK K
 clear H70058
 (try simp only [PU])
 refine wpAnyH_ready (rs := [58]) (by kernel_rfl) (by simp) ?_
 refine AllReadyH.cons (o := ⟨_, _, _, _, _, _⟩) rfl (fun K hK => ?step70075x0) ?more70075x0
 case more70075x0 => exact AllReadyH.nil
 go_simp
 ((with_reducible refine (lv_Adj _ _ _ _ _ _ _ (Shares.ext hU50 (by solve_by_elim [X0, X1, X2, X3])) (sh_two _ ⟨1, 2, 1⟩ ⟨1, 3, 2⟩)).mono ?_); rintro r v58 ⟨rfl, hy58⟩; replace hy58 : Ext w9 v58 := Ext.trans (a := w9) (by solve_by_elim [X0, X1, X2, X3]) hy58)
 refine hK.out _ _ ?hS70075x0 (fun H70075 => ?_)
 case hS70075x0 => first | (exact MK9.out _ (by solve_by_elim [X0, X1, X2, X3])) | ((try dsimp only); (exact MK9.out _ (by solve_by_elim [X0, X1, X2, X3])))
 clear hK K
 clear H70074
 (try simp only [PU])
 refine TK 59 (v := ?v70076) H70075 ?hy70076 ?_
 case hy70076 => (intro w hSw; (try dsimp only at hSw); go_simp <;> first | with_reducible rfl | rw [if_neg (by omega)] | rw [if_pos (by omega)])
 (try simp only [PU])
 refine TK 60 (v := ?v70077) H70075 ?hy70077 ?_
 case hy70077 => (intro w hSw; (try dsimp only at hSw); go_simp <;> first | with_reducible rfl | rw [if_neg (by omega)] | rw [if_pos (by omega)])
 (try simp only [PU])
 refine TK 61 (v := ?v70078) H70075 ?hy70078 ?_
 case hy70078 => (intro w hSw; (try dsimp only at hSw); go_simp <;> first | with_reducible rfl | rw [if_neg (by omega)] | rw [if_pos (by omega)])
 (try simp only [PU])
 refine wpAnyH_ready (rs := [62]) (by kernel_rfl) (by simp) ?_
 refine AllReadyH.cons (o := ⟨_, _, _, _, _, _⟩) rfl (fun K hK => ?step70079x0) ?more70079x0
 case more70079x0 => exact AllReadyH.nil
 go_simp
 ((with_reducible refine (HD.out _ (by solve_by_elim [X0, X1, X2, X3])).mono ?_); rintro r v62 ⟨rfl, hy62⟩; replace hy62 : Ext w9 v62 := Ext.trans (a := w9) (by solve_by_elim [X0, X1, X2, X3]) hy62)
 refine hK.out _ _ ?hS70079x0 (fun H70079 => ?_)
 case hS70079x0 => first | (exact MK9.out _ (by solve_by_elim [X0, X1, X2, X3])) | ((try dsimp only); (exact MK9.out _ (by solve_by_elim [X0, X1, X2, X3])))
 clear hK K
 clear H70075
 (try simp only [PU])
 refine TK 63 (v := ?v70080) H70079 ?hy70080 ?_
 case hy70080 => (intro w hSw; (try dsimp only at hSw); go_simp <;> first | with_reducible rfl | rw [if_neg (by omega)] | rw [if_pos (by omega)])
 (try simp only [PU])
 refine TK 64 (v := ?v70081) H70079 ?hy70081 ?_
 case hy70081 => (intro w hSw; (try dsimp only at hSw); go_simp <;> first | with_reducible rfl | rw [if_neg (by omega)] | rw [if_pos (by omega)])
 (try simp only [PU])
 refine TK 65 (v := ?v70082) H70079 ?hy70082 ?_
 case hy70082 => (intro w hSw; (try dsimp only at hSw); go_simp <;> first | with_reducible rfl | rw [if_neg (by omega)] | rw [if_pos (by omega)])
 (try simp only [PU])
 refine TK 66 (v := ?v70083) H70079 ?hy70083 ?_
 case hy70083 => (intro w hSw; (try dsimp only at hSw); go_simp <;> first | with_reducible rfl | rw [if_neg (by omega)] | rw [if_pos (by omega)])
 (try simp only [PU])
 refine wpAnyH_ready (rs := [67]) (by kernel_rfl) (by simp) ?_
 refine AllReadyH.cons (o := ⟨_, _, _, _, _, _⟩) rfl (fun K hK => ?step70084x0) ?more70084x0
 case more70084x0 => exact AllReadyH.nil
 go_simp
 ((with_reducible refine (HE.out _ (by solve_by_elim [X0, X1, X2, X3])).mono ?_); rintro r v67 ⟨A67, c67, rfl, hy67⟩; replace hy67 : Ext w9 v67 := Ext.trans (a := w9) (by solve_by_elim [X0, X1, X2, X3]) hy67)
 refine hK.out _ _ ?hS70084x0 (fun H70084 => ?_)
 case hS70084x0 => first | (exact MK9.out _ (by solve_by_elim [X0, X1, X2, X3])) | ((try dsimp only); (exact MK9.out _ (by solve_by_elim [X0, X1, X2, X3])))
 clear hK K
 clear H70079
 (try simp only [PU])
 refine TK 68 (v := ?v70085) H70084 ?hy70085 ?_
 case hy70085 => (intro w hSw; (try dsimp only at hSw); go_simp <;> first | with_reducible rfl | rw [if_neg (by omega)] | rw [if_pos (by omega)])
 (try simp only [PU])
 refine TK 69 (v := ?v70086) H70084 ?hy70086 ?_
 case hy70086 => (intro w hSw; (try dsimp only at hSw); go_simp <;> first | with_reducible rfl | rw [if_neg (by omega)] | rw [if_pos (by omega)])
 (try simp only [PU])
 refine TK 70 (v := ?v70087) H70084 ?hy70087 ?_
 case hy70087 => (intro w hSw; (try dsimp only at hSw); go_simp <;> first | with_reducible rfl | rw [if_neg (by omega)] | rw [if_pos (by omega)])
 (try simp only [PU])
 refine TK 71 (v := ?v70088) H70084 ?hy70088 ?_
 case hy70088 => (intro w hSw; (try dsimp only at hSw); go_simp <;> first | with_reducible rfl | rw [if_neg (by omega)] | rw [if_pos (by omega)])
 (try simp only [PU])
 refine wpAnyH_done (by kernel_rfl) ?_ _
 clear H70084
 go_wp2_with fail
 go_ret
 exact ⟨rfl, HX9.out.trans (by solve_by_elim [X0, X1, X2, X3])⟩
end Go.Proofs.Ytnheioehadldmaa

/- THE WALKS over the laws ColumnOfs, ColumnReads. -/
namespace Go.Proofs.Ytnheioehadldmaa
open Go.RowKit
theorem adjs_self (l : List Sh) (ok ok' : Nat → Prop) (A B : Option Addr) (c d : Nat) (w : World) (ha : Shares w ok A l) (hb : Shares w ok' B l) :
  Calls Try.prog 14 #[.slice A l.length c, .slice B l.length d] w fun e w' => e = .returned (.bool true) ∧ Ext w w' :=
 (r12_Adjs l l ok ok' A B c d w ha hb).mono (fun _ _ ⟨h1, h2⟩ => ⟨h1.trans (by simp), h2⟩)
end Go.Proofs.Ytnheioehadldmaa

/- WHAT THE ROWS OF CHAPTER 12 LIST (nothing); entries, columns, bytes that come in. -/
namespace Go.Proofs.Ytnheioehadldmaa
open Go.ChangeShapes Go.WideShapes Go.ChangeAt Go.RowKit
open Go.ChangeMaps (open_string shut_string)
abbrev laidList : List (String × DataW Unit) := Rows.columnOfsRow.laid
/-- The laid heap meets the condition. -/
theorem door_met (os : Os) (args : Array Value) : laidMetH Try.prog laidList ((World.laidAll Try.prog os laidList).forCall (fun _ _ => 0) ⟨#[], args, []⟩).memory := by
 rw [MakeChecks.laidMetH_plain _ _ _ (by kernel_rfl)]
 exact laidMet_laidAll _ (by kernel_rfl) (by kernel_rfl)
section
variable {H : Type} {enc : TypeId × Value → H} {w : World} {base : Nat} {spare : Nat → Bool} {held : Bool}
end
end Go.Proofs.Ytnheioehadldmaa

/- THE WALK over the law ColumnSteps. -/
namespace Go.Proofs.Ytnheioehadldmaa
open Go.RowKit Go.Sort
def nullA : Array Value := #[.int .i64 0, .int .i64 0, .int .i64 0]
theorem run_make_adj (n : Nat) (hn : n ≤ 1000000) (W : World) : (Instr.makeSlice 22 (.int .i64 (n : Int)) (.int .i64 (n : Int))).run Try.prog W = .ok (.slice (some ⟨W.heap.size, 0, none⟩) n n) (W.alloc (.cells (madeCells nullA (n * 3)) 54)) := by
 obtain ⟨i, hi, h0, h1, h2⟩ := info_parts (show (Try.prog.info? 54).map (fun i => (i.zero, i.size, i.bytes)) = some (some (.agg nullA), 3, 24) by kernel_rfl)
 have h := run_make (P := Try.prog) W 22 54 i (.agg nullA) Try.underlying22 hi h0 .i64 .i64 n n (by omega) (by omega) (by rw [h2]; omega) (by omega)
 rw [h1] at h
 simp only [Int.toNat_natCast] at h
 exact h
theorem made_adj : ∀ n : Nat, (madeCells nullA (n * 3)).toList = (List.replicate n (⟨0, 0, 0⟩ : Sh)).flatMap KA.enc := fun n => by
 have h1 : (madeCells nullA (n * 3)).toList = List.replicate (n * 3) (.int .i64 0) := by
  apply List.ext_getElem?
  intro j
  rcases Nat.lt_or_ge j (n * 3) with h | h
  ·rw [List.getElem?_replicate, if_pos h, Array.getElem?_toList]
   unfold madeCells
   rw [Array.getElem?_map, Array.getElem?_eq_getElem (by simpa using h)]
   simp only [Option.map_some, Array.getElem_range]
   have h5 : nullA.size = 3 := rfl
   rw [h5]
   have h6 : j % 3 = 0 ∨ j % 3 = 1 ∨ j % 3 = 2 := by omega
   rcases h6 with e | e | e <;> rw [e] <;> rfl
  ·rw [List.getElem?_eq_none (by simpa [madeCells] using h), List.getElem?_eq_none (by simpa using h)]
 have h2 : ∀ n : Nat, (List.replicate n (⟨0, 0, 0⟩ : Sh)).flatMap KA.enc = List.replicate (n * 3) (.int .i64 0) := fun n => by
  induction n with
  | zero => rfl
  | succ n ih => rw [List.replicate_succ, List.flatMap_cons, ih, show (n + 1) * 3 = n * 3 + 1 + 1 + 1 by omega, List.replicate_succ, List.replicate_succ, List.replicate_succ]; rfl
 rw [h1, h2]
theorem own_madeA (W : World) (base n : Nat) (hb : base ≤ W.heap.size) (hn : n ≤ 1000000) : OA (W.alloc (.cells (madeCells nullA (n * 3)) 54)) base (.slice (some ⟨W.heap.size, 0, none⟩) n n) (List.replicate n ⟨0, 0, 0⟩) := by
 refine ⟨?_, fun _ _ => trivial⟩
 have h := World.ownsRow_lit (e := 54) (size := 3) W (madeCells nullA (n * 3)) n hb (by unfold maxLen; omega) (size_madeCells _ _)
 rw [made_adj] at h
 rw [List.length_replicate]
 exact h
theorem rows_goodL {g : GraphG} (hg : GoodG g) (types : List ByteArray) {dir : Int} (hd : dir = 1 ∨ dir = 2) : GoodL (rowsG g types dir) := by rw [rows_sort hg types hd]; exact ents_good hg types dir
theorem ent_packR {g : GraphG} (hg : GoodG g) (types : List ByteArray) {dir : Int} (hd : dir = 1 ∨ dir = 2) : entR (packC (rowsG g types dir)) = rowsG g types dir := by
 unfold entR
 rw [if_pos (colB_iff.2 (pack_valid (rows_goodL hg types hd))), flat_pack]
theorem row_packR {g : GraphG} (hg : GoodG g) (types : List ByteArray) {dir : Int} (hd : dir = 1 ∨ dir = 2) {i : Nat} (hi : i < g.nodes.length) : (entR (packC (rowsG g types dir))).filter (fun a => decide (a.id = g.nodes[i]!.id)) = (stepsL g types dir g.nodes[i]!.id).map (adjOf g.nodes[i]!.id) := by
 rw [ent_packR hg types hd]
 exact rows_of hg types dir (by rw [getElem!_pos g.nodes i hi]; exact List.getElem_mem hi)
theorem turn_rows {g : GraphG} (hg : GoodG g) (types : List ByteArray) : rowsG g types 2 = sortO adjOrd ((rowsG g types 1).map turnS) := by
 rw [rows_sort hg types (.inr rfl), rows_sort hg types (.inl rfl)]
 exact turn_ents g types
theorem build_two (g : GraphG) (typ : ByteArray) : (∃ e : Int, e ≠ 0 ∧ buildR g typ 1 = (e, noCol) ∧ buildR g typ 2 = (e, noCol)) ∨ (GoodG g ∧ buildR g typ 1 = (0, packC (rowsG g (typsOf typ) 1)) ∧ buildR g typ 2 = (0, packC (rowsG g (typsOf typ) 2))) := by
 have hb : ∀ dir, dirB dir = false → chkG g = 0 → buildR g typ dir = if typE typ = true then (6, noCol) else (0, packC (rowsG g (typsOf typ) dir)) := fun dir h1 h => by
  unfold buildR
  rw [if_neg (fun e => e h), if_neg (by rw [h1]; exact Bool.false_ne_true)]
 by_cases h : chkG g = 0
 ·rw [hb 1 rfl h, hb 2 rfl h]
  cases ht : typE typ
  ·exact .inr ⟨good_of h, by rw [if_neg Bool.false_ne_true], by rw [if_neg Bool.false_ne_true]⟩
  ·exact .inl ⟨6, by decide, by rw [if_pos rfl], by rw [if_pos rfl]⟩
 ·exact .inl ⟨chkG g, h, by unfold buildR; rw [if_pos h], by unfold buildR; rw [if_pos h]⟩
theorem rowsG_len (g : GraphG) (types : List ByteArray) (dir : Int) : (rowsG g types dir).length ≤ g.nodes.length * g.edges.length := by rw [← rowsN_all]; exact rowsN_len g types dir (Nat.le_refl _)
theorem turn_step {T L : List Sh} {k : Nat} (hl : T.length = L.length) (hk : k < L.length) (h : T.take k = (L.map turnS).take k) : (T.set k (turnS L[k]!)).take (k + 1) = (L.map turnS).take (k + 1) := by
 rw [List.take_succ_eq_append_getElem (by rw [List.length_set]; omega), List.take_set_of_le (Nat.le_refl _), List.take_succ_eq_append_getElem (by rw [List.length_map]; exact hk), h]
 simp [getElem!_pos L k hk]
set_option maxRecDepth 100000 in
set_option maxHeartbeats 6400000 in
theorem l_ColumnSteps (g : GraphG) (typ : ByteArray) (ok : Nat → Prop) (A B : Option Addr) (c d : Nat) (w : World) (hg : GraphAt w ok A B g) :
  Calls Try.prog 6 #[.agg #[.slice A g.nodes.length c, .slice B g.edges.length d, .int .i64 g.nn, .int .i64 g.ne], .string typ] w fun e w' => e = .returned (.bool true) ∧ Ext w w' := by
 obtain ⟨qg, w1, hq, hw1, g0, g1, g2, g3, hx1⟩ := box_graph w A B c d g 46
 have HW := Lib.hid hw1
 have HQQ := Lib.hid hq
 have HX1 := Lib.hid hx1
 have HG := Lib.hid (hg.ext hx1)
 have MKG := Lib.hid (fun V (e : Ext w1 V) => (⟨e.cell g0, e.cell g1, e.cell g2, e.cell g3⟩ : V.cell? ⟨qg, 0, none⟩ = some (.slice A g.nodes.length c) ∧ V.cell? ⟨qg, 1, none⟩ = some (.slice B g.edges.length d) ∧ V.cell? ⟨qg, 2, none⟩ = some (.int .i64 g.nn) ∧ V.cell? ⟨qg, 3, none⟩ = some (.int .i64 g.ne)))
 clear hw1 hq hg hx1
 go_enter Try.func6, Try.ntmps6
 go_upto_region 1 with (fail)
 rw [← HW.out, ← HQQ.out]
 clear HW HQQ
 by_cases hl : 40 < g.nodes.length
 ·have k1 : decide (40 < g.nodes.length) = true := decide_eq_true hl
  have k2 : decide (40 < (g.nodes.length : Int)) = true := decide_eq_true (by omega)
  go_wp2_with (go_at_call 7; ((with_reducible refine ((l_lives _)).mono ?_); rintro e v9 ⟨rfl, hy9⟩))
  go_ret
  exact ⟨rfl, HX1.out.trans hy9⟩
 ·have k1 : decide (40 < g.nodes.length) = false := decide_eq_false hl
  have k2 : decide (40 < (g.nodes.length : Int)) = false := decide_eq_false (by omega)
  by_cases hn : 80 < g.edges.length
  ·have k3 : decide (80 < g.edges.length) = true := decide_eq_true hn
   have k4 : decide (80 < (g.edges.length : Int)) = true := decide_eq_true (by omega)
   go_wp2_with (go_at_call 7; ((with_reducible refine ((l_lives _)).mono ?_); rintro e v9 ⟨rfl, hy9⟩))
   go_ret
   exact ⟨rfl, HX1.out.trans hy9⟩
  ·have k3 : decide (80 < g.edges.length) = false := decide_eq_false hn
   have k4 : decide (80 < (g.edges.length : Int)) = false := decide_eq_false (by omega)
   have HB1 := Lib.hid (co_Build g typ 1 _ A B c d w1 HG.out ⟨by omega, by omega⟩)
   have HB2 := Lib.hid (fun V (e : Ext w1 V) => co_Build g typ 2 _ A B c d V (HG.out.ext e) ⟨by omega, by omega⟩)
   rcases build_two g typ with ⟨ec, he, hb1, hb2⟩ | ⟨hgd, hb1, hb2⟩
   ·rw [hb1] at HB1
    rw [hb2] at HB2
    unfold agC at HB1 HB2
    have k5 : (ec != 0) = true := bne_iff_ne.2 he
    have k6 : (ec == 0) = false := beq_eq_false_iff_ne.2 he
    clear hb1 hb2 he
    go_upto_region 4 with (go_at_call 22; ((with_reducible refine (HB1.out).mono ?_); rintro e u2 ⟨A0, A1, A2, A3, j0, j1, j2, j3, rfl, -, hx2⟩; clear HB1))
    obtain ⟨qo, w3, hqo, hw3, -, hx3⟩ := box_colV u2 (.slice A0 noCol.nodes.length j0) (.slice A1 noCol.first.length j1) (.slice A2 noCol.tos.length j2) (.slice A3 noCol.edges.length j3) 26
    rw [← hw3, ← hqo]
    have HX3 := Lib.hid (hx2.trans hx3)
    have HB3 := Lib.hid (HB2.out w3 HX3.out)
    clear HB2 hqo hw3 hx2 hx3 g0 g1 g2 g3
    obtain ⟨g0, g1, g2, g3⟩ := MKG.out _ HX3.out
    go_wp2_with (first | (go_at_call 22; ((with_reducible refine (HB3.out).mono ?_); rintro e u4 ⟨B0, B1, B2, B3, l0, l1, l2, l3, rfl, -, hx4⟩; clear HB3)) | (go_at_call 7; ((with_reducible refine ((l_lives _)).mono ?_); rintro e v9 ⟨rfl, hy9⟩; replace hy9 : Ext u4 v9 := Ext.trans (a := u4) (by solve_by_elim [X0, X1, X2, X3]) hy9)))
    go_ret
    exact ⟨rfl, ((HX1.out.trans HX3.out).trans hx4).trans hy9⟩
   ·rw [hb1] at HB1
    rw [hb2] at HB2
    have HLO := Lib.hid (show (entR (packC (rowsG g (typsOf typ) 1))).length ≤ 100000 ∧ (packC (rowsG g (typsOf typ) 1)).tos.length ≤ 100000 by
     have h1 := rowsG_len g (typsOf typ) 1
     have h2 : g.nodes.length * g.edges.length ≤ 40 * 80 := Nat.mul_le_mul (by omega) (by omega)
     rw [ent_packR hgd _ (.inl rfl), pack_tos, List.length_map]; omega)
    have HLI := Lib.hid (show (entR (packC (rowsG g (typsOf typ) 2))).length ≤ 100000 ∧ (packC (rowsG g (typsOf typ) 2)).tos.length ≤ 100000 by
     have h1 := rowsG_len g (typsOf typ) 2
     have h2 : g.nodes.length * g.edges.length ≤ 40 * 80 := Nat.mul_le_mul (by omega) (by omega)
     rw [ent_packR hgd _ (.inr rfl), pack_tos, List.length_map]; omega)
    have HRWO := Lib.hid (fun i (hi : i < g.nodes.length) => row_packR hgd (typsOf typ) (.inl rfl) hi)
    have HRWI := Lib.hid (fun i (hi : i < g.nodes.length) => row_packR hgd (typsOf typ) (.inr rfl) hi)
    have HTURN := Lib.hid (show entR (packC (rowsG g (typsOf typ) 2)) = sortO adjOrd ((entR (packC (rowsG g (typsOf typ) 1))).map turnS) by rw [ent_packR hgd _ (.inl rfl), ent_packR hgd _ (.inr rfl)]; exact turn_rows hgd _)
    have HST := Lib.hid (fun (dir n : Int) T e W (x : Ext w1 W) (ht : Strs W (fun _ => True) T (typsOf typ)) => gr_Steps g (typsOf typ) n dir ok _ A B T c d e W ((HG.out.ext x).edges) ht (by omega))
    have HNV := Lib.hid HG.out.nodes
    have hnl := HG.out.nodes.len
    have HTY := Lib.hid (by unfold typsOf; rfl : typsOf typ = if typ = ByteArray.empty then [] else [typ])
    clear hb1 hb2 hgd HG
    generalize packC (rowsG g (typsOf typ) 1) = O at *
    generalize packC (rowsG g (typsOf typ) 2) = I at *
    unfold agC at HB1 HB2
    go_upto_region 4 with (go_at_call 22; ((with_reducible refine (HB1.out).mono ?_); rintro e u2 ⟨A0, A1, A2, A3, j0, j1, j2, j3, rfl, hc2, hx2⟩; clear HB1))
    clear k1 k2 k3 k4
    obtain ⟨qo, w3, hqo, hw3, hbo, hx3⟩ := box_colV u2 (.slice A0 O.nodes.length j0) (.slice A1 O.first.length j1) (.slice A2 O.tos.length j2) (.slice A3 O.edges.length j3) 26
    rw [← hw3, ← hqo]
    have HX3 := Lib.hid (hx2.trans hx3)
    have HB3 := Lib.hid (HB2.out w3 HX3.out)
    have HBO := Lib.hid hbo
    have HCO := Lib.hid (hc2.ext hx3)
    clear HB2 hqo hw3 hx2 hx3 hbo hc2 g0 g1 g2 g3
    obtain ⟨g0, g1, g2, g3⟩ := MKG.out _ HX3.out
    go_upto_region 5 with (go_at_call 22; ((with_reducible refine (HB3.out).mono ?_); rintro e u4 ⟨B0, B1, B2, B3, l0, l1, l2, l3, rfl, hc4, hx4⟩; clear HB3))
    obtain ⟨qi, w5, hqi, hw5, hbi, hx5⟩ := box_colV u4 (.slice B0 I.nodes.length l0) (.slice B1 I.first.length l1) (.slice B2 I.tos.length l2) (.slice B3 I.edges.length l3) 26
    rw [← hw5, ← hqi]
    have hx35 := hx4.trans hx5
    have HX5 := Lib.hid (HX3.out.trans hx35)
    have HBI := Lib.hid hbi
    have HCI := Lib.hid (hc4.ext hx5)
    replace HBO := Lib.hid (HBO.out.grown (hx35.gr none) (by simp))
    replace HCO := Lib.hid (HCO.out.ext hx35)
    clear hqi hw5 hx4 hx5 hx35 hbi hc4 g0 g1 g2 g3
    obtain ⟨bt, hbt⟩ : ∃ bt : Bool, bt = decide (typ ≠ ByteArray.empty) := ⟨_, rfl⟩
    have hte : typ = ByteArray.empty ↔ typ.toList = [] := ⟨fun h => by rw [h, ByteArray.toList_eq]; rfl, fun h => by rw [ByteArray.toList_eq] at h; exact ba_ext h⟩
    have t1 : typ.toList.isEmpty = !bt := by
     rw [hbt]
     by_cases h : typ.toList = []
     ·rw [decide_eq_false (show ¬ typ ≠ ByteArray.empty from fun h2 => h2 (hte.2 h)), h]; rfl
     ·rw [decide_eq_true (show typ ≠ ByteArray.empty from fun h2 => h (hte.1 h2))]
      cases hl9 : typ.toList with
      | nil => exact absurd hl9 h
      | cons a l => rfl
    have HBT := Lib.hid hbt
    have HTE := Lib.hid (⟨fun h => by
     rw [hbt] at h
     exact hte.1 (Decidable.not_not.1 (of_decide_eq_false h)), fun h h2 => by
     rw [hbt] at h
     exact of_decide_eq_true h (hte.2 h2)⟩ : (bt = false → typ.toList = []) ∧ (bt = true → ¬ typ.toList = []))
    clear hte hbt
    go_upto_if 45 with (fail)
    clear t1
    go_cut [9] from 44 (fun s9 wx => ∃ (T : Option Addr) (e : Nat), s9 = .slice T (typsOf typ).length e ∧ Hid (Strs wx (fun _ => True) T (typsOf typ)) ∧ Hid (Ext w5 wx))
    case first =>
     cases bt
     ·have t2 := HTE.out.1 rfl
      have K := Lib.hid (HTY.out.trans (if_pos (by have h := HBT.out; simpa using h.symm)))
      clear HBT HTY HTE
      go_wp2_with fail
      go_meet
      case rel => exact ⟨none, 0, (by rw [K.out]; first | done | rfl), Lib.hid (by rw [K.out]; exact SliceR.nil _ _ _), Lib.hid (Ext.refl _)⟩
     ·have t2 := HTE.out.2 rfl
      have K := Lib.hid (HTY.out.trans (if_neg (by have h := HBT.out; simpa using h.symm)))
      clear HBT HTY HTE
      go_wp2_with (at_builtin; go_loud (refine own_push El_str rfl (.tmp 46) (.tmp 48) rfl w5 w5 (.slice none 0 0) 0 [] [.string typ] rfl (World.ownsRow_nil _ _ _ _) (Ext.refl _) rfl rfl rfl (by simp [Value.oneCell']) (by decide) (by decide) ?_); intro v6 w6 hown6 hE6)
      obtain ⟨T6, c6, rfl, -, hS6⟩ := strs_of_own (l := [typ]) (by simpa using hown6) rfl (by show 1 ≤ 140737488355328; decide)
      go_meet
      case rel => exact ⟨T6, c6, (by rw [K.out]; first | done | rfl), Lib.hid (by rw [K.out]; exact SliceR.mono hS6 (fun _ _ _ _ hx => ⟨trivial, hx.2⟩)), Lib.hid hE6⟩
    case rest =>
     obtain ⟨T, e, rfl, HSS, HX7⟩ := hcut
     obtain ⟨w7, hw7⟩ : ∃ W, W = wc := ⟨_, rfl⟩
     subst hw7
     clear HBT HTY HTE
     replace HBO := Lib.hid (HBO.out.grown (HX7.out.gr none) (by simp))
     replace HCO := Lib.hid (HCO.out.ext HX7.out)
     replace HBI := Lib.hid (HBI.out.grown (HX7.out.gr none) (by simp))
     replace HCI := Lib.hid (HCI.out.ext HX7.out)
     have HXA := Lib.hid (HX5.out.trans HX7.out)
     clear HX3 HX5 HX7
     have MK7 := Lib.hid (fun V (e : Ext w7 V) => (⟨MKG.out V (HXA.out.trans e), ⟨e.cell HBO.out.1, e.cell HBO.out.2.1, e.cell HBO.out.2.2.1, e.cell HBO.out.2.2.2⟩, ⟨e.cell HBI.out.1, e.cell HBI.out.2.1, e.cell HBI.out.2.2.1, e.cell HBI.out.2.2.2⟩⟩ : (V.cell? ⟨qg, 0, none⟩ = some (.slice A g.nodes.length c) ∧ V.cell? ⟨qg, 1, none⟩ = some (.slice B g.edges.length d) ∧ V.cell? ⟨qg, 2, none⟩ = some (.int .i64 g.nn) ∧ V.cell? ⟨qg, 3, none⟩ = some (.int .i64 g.ne)) ∧ (V.cell? ⟨qo, 0, none⟩ = some (.slice A0 O.nodes.length j0) ∧ V.cell? ⟨qo, 1, none⟩ = some (.slice A1 O.first.length j1) ∧ V.cell? ⟨qo, 2, none⟩ = some (.slice A2 O.tos.length j2) ∧ V.cell? ⟨qo, 3, none⟩ = some (.slice A3 O.edges.length j3)) ∧ (V.cell? ⟨qi, 0, none⟩ = some (.slice B0 I.nodes.length l0) ∧ V.cell? ⟨qi, 1, none⟩ = some (.slice B1 I.first.length l1) ∧ V.cell? ⟨qi, 2, none⟩ = some (.slice B2 I.tos.length l2) ∧ V.cell? ⟨qi, 3, none⟩ = some (.slice B3 I.edges.length l3))))
     clear MKG
     go_wp2_with fail
     go_loopw [10] (fun u W => ∃ i : Nat, u = .int .i64 i ∧ i ≤ g.nodes.length ∧ Hid (Ext w7 W)) (fun u _ => g.nodes.length - (intOf u).toNat)
     case atStart => exact ⟨0, rfl, Nat.zero_le _, Lib.hid (Ext.refl _)⟩
     case round =>
      obtain ⟨i, rfl, hi, HE9⟩ := hrel
      obtain ⟨⟨g0, g1, g2, g3⟩, ⟨a0, a1, a2, a3⟩, ⟨b0, b1, b2, b3⟩⟩ := MK7.out _ HE9.out
      by_cases hlt : i < g.nodes.length
      ·obtain ⟨b, o, rfl, hcn⟩ := HNV.out.2 (by omega)
       obtain ⟨-, n0, -⟩ := hcn i hlt
       replace n0 := (HXA.out.trans HE9.out).cell n0
       rw [← getElem!_pos g.nodes i hlt] at n0
       have HR1 := Lib.hid (HRWO.out i hlt)
       have HR2 := Lib.hid (HRWI.out i hlt)
       clear hcn HTURN
       generalize g.nodes[i]!.id = n at *
       go_upto_region 16 with (fail)
       obtain ⟨w9, hw9⟩ : ∃ W, W = wr := ⟨_, rfl⟩
       subst hw9
       have HRO := Lib.hid (fun V (x : Ext w9 V) => co_Row O n _ A0 A1 A2 A3 j0 j1 j2 j3 V (HCO.out.ext (HE9.out.trans x)) (by have := HLO.out.2; omega))
       have HRI := Lib.hid (fun V (x : Ext w9 V) => co_Row I n _ B0 B1 B2 B3 l0 l1 l2 l3 V (HCI.out.ext (HE9.out.trans x)) (by have := HLI.out.2; omega))
       have HS1 := Lib.hid (fun V (x : Ext w9 V) => HST.out 1 n T e V (HXA.out.trans (HE9.out.trans x)) (HSS.out.ext (HE9.out.trans x)))
       have HS2 := Lib.hid (fun V (x : Ext w9 V) => HST.out 2 n T e V (HXA.out.trans (HE9.out.trans x)) (HSS.out.ext (HE9.out.trans x)))
       rw [HR1.out] at HRO
       rw [HR2.out] at HRI
       obtain ⟨L1, hL1⟩ : ∃ L, L = (stepsL g (typsOf typ) 1 n).map (adjOf n) := ⟨_, rfl⟩
       obtain ⟨L2, hL2⟩ : ∃ L, L = (stepsL g (typsOf typ) 2 n).map (adjOf n) := ⟨_, rfl⟩
       have hl1 : (stepsL g (typsOf typ) 1 n).length = L1.length := by rw [hL1, List.length_map]
       have hl2 : (stepsL g (typsOf typ) 2 n).length = L2.length := by rw [hL2, List.length_map]
       rw [← hL1] at HRO HS1
       rw [← hL2] at HRI HS2
       rw [hl1] at HS1
       rw [hl2] at HS2
       unfold agC at HRO HRI
       have HA1 := Lib.hid (fun A1 c1 A2 c2 V ok1 ok2 (h1 : Shares V ok1 A1 L1) (h2 : Shares V ok2 A2 L1) => adjs_self L1 ok1 ok2 A1 A2 c1 c2 V h1 h2)
       have HA2 := Lib.hid (fun A1 c1 A2 c2 V ok1 ok2 (h1 : Shares V ok1 A1 L2) (h2 : Shares V ok2 A2 L2) => adjs_self L2 ok1 ok2 A1 A2 c1 c2 V h1 h2)
       have MK9 := Lib.hid (fun V (x : Ext w9 V) => MK7.out V (HE9.out.trans x))
       clear hL1 hL2 hl1 hl2 HR1 HR2 n0
       refine wp_region_held_drew (S := (fun V => (V.cell? ⟨qg, 0, none⟩ = some (.slice (some ⟨b, o, none⟩) g.nodes.length c) ∧ V.cell? ⟨qg, 1, none⟩ = some (.slice B g.edges.length d) ∧ V.cell? ⟨qg, 2, none⟩ = some (.int .i64 g.nn) ∧ V.cell? ⟨qg, 3, none⟩ = some (.int .i64 g.ne)) ∧ (V.cell? ⟨qo, 0, none⟩ = some (.slice A0 O.nodes.length j0) ∧ V.cell? ⟨qo, 1, none⟩ = some (.slice A1 O.first.length j1) ∧ V.cell? ⟨qo, 2, none⟩ = some (.slice A2 O.tos.length j2) ∧ V.cell? ⟨qo, 3, none⟩ = some (.slice A3 O.edges.length j3)) ∧ (V.cell? ⟨qi, 0, none⟩ = some (.slice B0 I.nodes.length l0) ∧ V.cell? ⟨qi, 1, none⟩ = some (.slice B1 I.first.length l1) ∧ V.cell? ⟨qi, 2, none⟩ = some (.slice B2 I.tos.length l2) ∧ V.cell? ⟨qi, 3, none⟩ = some (.slice B3 I.edges.length l3)))) (by kernel_rfl) ?hs78001 (fun hHeld => ?go78001)
       case hs78001 => (exact MK9.out _ (by solve_by_elim [X0, X1, X2, X3]))
       refine TK 0 (v := ?v78002) hHeld ?hy78002 ?_
       case hy78002 => (intro w hSw; (try dsimp only at hSw); go_simp <;> first | with_reducible rfl | rw [if_neg (by omega)] | rw [if_pos (by omega)])
       (try simp only [PU])
       refine TK 1 (v := ?v78003) hHeld ?hy78003 ?_
       case hy78003 => (intro w hSw; (try dsimp only at hSw); go_simp <;> first | with_reducible rfl | rw [if_neg (by omega)] | rw [if_pos (by omega)])
       (try simp only [PU])
       refine TK 3 (v := ?v78004) hHeld ?hy78004 ?_
       case hy78004 => (intro w hSw; (try dsimp only at hSw); go_simp <;> first | with_reducible rfl | rw [if_neg (by omega)] | rw [if_pos (by omega)])
       (try simp only [PU])
       refine TK 4 (v := ?v78005) hHeld ?hy78005 ?_
       case hy78005 => (intro w hSw; (try dsimp only at hSw); go_simp <;> first | with_reducible rfl | rw [if_neg (by omega)] | rw [if_pos (by omega)])
       (try simp only [PU])
       refine TK 5 (v := ?v78006) hHeld ?hy78006 ?_
       case hy78006 => (intro w hSw; (try dsimp only at hSw); go_simp <;> first | with_reducible rfl | rw [if_neg (by omega)] | rw [if_pos (by omega)])
       (try simp only [PU])
       refine wpAnyH_ready (rs := [2]) (by kernel_rfl) (by simp) ?_
       refine AllReadyH.cons (o := ⟨_, _, _, _, _, _⟩) rfl (fun K hK => ?step78007x0) ?more78007x0
       case more78007x0 => exact AllReadyH.nil
       go_simp
       ((with_reducible refine (HRO.out _ (by solve_by_elim [X0, X1, X2, X3])).mono ?_); rintro r v2 ⟨A12, c12, rfl, hS2, hy2⟩; replace hy2 : Ext w9 v2 := Ext.trans (a := w9) (by solve_by_elim [X0, X1, X2, X3]) hy2)
       refine hK.out _ _ ?hS78007x0 (fun H78007 => ?_)
       case hS78007x0 => first | (exact MK9.out _ (by solve_by_elim [X0, X1, X2, X3])) | ((try dsimp only); (exact MK9.out _ (by solve_by_elim [X0, X1, X2, X3])))
       clear hK K
       clear hHeld
       (try simp only [PU])
       refine wpAnyH_ready (rs := [6]) (by kernel_rfl) (by simp) ?_
       refine AllReadyH.cons (o := ⟨_, _, _, _, _, _⟩) rfl (fun K hK => ?step78008x0) ?more78008x0
       case more78008x0 => exact AllReadyH.nil
       go_simp
       ((with_reducible refine (HS1.out _ (by solve_by_elim [X0, X1, X2, X3])).mono ?_); rintro r v6 ⟨A16, c16, rfl, -, hS6, hy6⟩; have hz6 : Ext v2 v6 := Ext.trans (a := v2) (by solve_by_elim [X0, X1, X2, X3]) hy6; replace hy6 : Ext w9 v6 := Ext.trans (a := w9) (by solve_by_elim [X0, X1, X2, X3]) hy6)
       refine hK.out _ _ ?hS78008x0 (fun H78008 => ?_)
       case hS78008x0 => first | (exact MK9.out _ (by solve_by_elim [X0, X1, X2, X3])) | ((try dsimp only); (exact MK9.out _ (by solve_by_elim [X0, X1, X2, X3])))
       clear hK K
       clear H78007
       (try simp only [PU])
       refine wpAnyH_ready (rs := [7]) (by kernel_rfl) (by simp) ?_
       refine AllReadyH.cons (o := ⟨_, _, _, _, _, _⟩) rfl (fun K hK => ?step78009x0) ?more78009x0
       case more78009x0 => exact AllReadyH.nil
       go_simp
       ((with_reducible refine (HA1.out _ _ _ _ _ _ _ (Shares.ext hS2 (by solve_by_elim [X0, X1, X2, X3])) (Shares.ext hS6 (by solve_by_elim [X0, X1, X2, X3]))).mono ?_); rintro r v7 ⟨rfl, hy7⟩; replace hy7 : Ext w9 v7 := Ext.trans (a := w9) (by solve_by_elim [X0, X1, X2, X3]) hy7)
       refine hK.out _ _ ?hS78009x0 (fun H78009 => ?_)
       case hS78009x0 => first | (exact MK9.out _ (by solve_by_elim [X0, X1, X2, X3])) | ((try dsimp only); (exact MK9.out _ (by solve_by_elim [X0, X1, X2, X3])))
       clear hK K
       clear H78008
       (try simp only [PU])
       refine TK 8 (v := ?v78010) H78009 ?hy78010 ?_
       case hy78010 => (intro w hSw; (try dsimp only at hSw); go_simp <;> first | with_reducible rfl | rw [if_neg (by omega)] | rw [if_pos (by omega)])
       (try simp only [PU])
       refine TK 9 (v := ?v78011) H78009 ?hy78011 ?_
       case hy78011 => (intro w hSw; (try dsimp only at hSw); go_simp <;> first | with_reducible rfl | rw [if_neg (by omega)] | rw [if_pos (by omega)])
       (try simp only [PU])
       refine TK 10 (v := ?v78012) H78009 ?hy78012 ?_
       case hy78012 => (intro w hSw; (try dsimp only at hSw); go_simp <;> first | with_reducible rfl | rw [if_neg (by omega)] | rw [if_pos (by omega)])
       (try simp only [PU])
       refine TK 11 (v := ?v78013) H78009 ?hy78013 ?_
       case hy78013 => (intro w hSw; (try dsimp only at hSw); go_simp <;> first | with_reducible rfl | rw [if_neg (by omega)] | rw [if_pos (by omega)])
       (try simp only [PU])
       refine TK 13 (v := ?v78014) H78009 ?hy78014 ?_
       case hy78014 => (intro w hSw; (try dsimp only at hSw); go_simp <;> first | with_reducible rfl | rw [if_neg (by omega)] | rw [if_pos (by omega)])
       (try simp only [PU])
       refine TK 14 (v := ?v78015) H78009 ?hy78015 ?_
       case hy78015 => (intro w hSw; (try dsimp only at hSw); go_simp <;> first | with_reducible rfl | rw [if_neg (by omega)] | rw [if_pos (by omega)])
       (try simp only [PU])
       refine TK 15 (v := ?v78016) H78009 ?hy78016 ?_
       case hy78016 => (intro w hSw; (try dsimp only at hSw); go_simp <;> first | with_reducible rfl | rw [if_neg (by omega)] | rw [if_pos (by omega)])
       (try simp only [PU])
       refine wpAnyH_ready (rs := [12]) (by kernel_rfl) (by simp) ?_
       refine AllReadyH.cons (o := ⟨_, _, _, _, _, _⟩) rfl (fun K hK => ?step78017x0) ?more78017x0
       case more78017x0 => exact AllReadyH.nil
       go_simp
       ((with_reducible refine (HRI.out _ (by solve_by_elim [X0, X1, X2, X3])).mono ?_); rintro r v12 ⟨A22, c22, rfl, hS12, hy12⟩; replace hy12 : Ext w9 v12 := Ext.trans (a := w9) (by solve_by_elim [X0, X1, X2, X3]) hy12)
       refine hK.out _ _ ?hS78017x0 (fun H78017 => ?_)
       case hS78017x0 => first | (exact MK9.out _ (by solve_by_elim [X0, X1, X2, X3])) | ((try dsimp only); (exact MK9.out _ (by solve_by_elim [X0, X1, X2, X3])))
       clear hK K
       clear H78009
       (try simp only [PU])
       refine wpAnyH_ready (rs := [16]) (by kernel_rfl) (by simp) ?_
       refine AllReadyH.cons (o := ⟨_, _, _, _, _, _⟩) rfl (fun K hK => ?step78018x0) ?more78018x0
       case more78018x0 => exact AllReadyH.nil
       go_simp
       ((with_reducible refine (HS2.out _ (by solve_by_elim [X0, X1, X2, X3])).mono ?_); rintro r v16 ⟨A26, c26, rfl, -, hS16, hy16⟩; have hz16 : Ext v12 v16 := Ext.trans (a := v12) (by solve_by_elim [X0, X1, X2, X3]) hy16; replace hy16 : Ext w9 v16 := Ext.trans (a := w9) (by solve_by_elim [X0, X1, X2, X3]) hy16)
       refine hK.out _ _ ?hS78018x0 (fun H78018 => ?_)
       case hS78018x0 => first | (exact MK9.out _ (by solve_by_elim [X0, X1, X2, X3])) | ((try dsimp only); (exact MK9.out _ (by solve_by_elim [X0, X1, X2, X3])))
       clear hK K
       clear H78017
       (try simp only [PU])
       refine wpAnyH_ready (rs := [17]) (by kernel_rfl) (by simp) ?_
       refine AllReadyH.cons (o := ⟨_, _, _, _, _, _⟩) rfl (fun K hK => ?step78019x0) ?more78019x0
       case more78019x0 => exact AllReadyH.nil
       go_simp
       ((with_reducible refine (HA2.out _ _ _ _ _ _ _ (Shares.ext hS12 (by solve_by_elim [X0, X1, X2, X3])) (Shares.ext hS16 (by solve_by_elim [X0, X1, X2, X3]))).mono ?_); rintro r v17 ⟨rfl, hy17⟩; replace hy17 : Ext w9 v17 := Ext.trans (a := w9) (by solve_by_elim [X0, X1, X2, X3]) hy17)
       refine hK.out _ _ ?hS78019x0 (fun H78019 => ?_)
       case hS78019x0 => first | (exact MK9.out _ (by solve_by_elim [X0, X1, X2, X3])) | ((try dsimp only); (exact MK9.out _ (by solve_by_elim [X0, X1, X2, X3])))
       clear hK K
       clear H78018
       (try simp only [PU])
       refine TK 18 (v := ?v78020) H78019 ?hy78020 ?_
       case hy78020 => (intro w hSw; (try dsimp only at hSw); go_simp <;> first | with_reducible rfl | rw [if_neg (by omega)] | rw [if_pos (by omega)])
       (try simp only [PU])
       refine TK 19 (v := ?v78021) H78019 ?hy78021 ?_
       case hy78021 => (intro w hSw; (try dsimp only at hSw); go_simp <;> first | with_reducible rfl | rw [if_neg (by omega)] | rw [if_pos (by omega)])
       (try simp only [PU])
       refine wpAnyH_done (by kernel_rfl) ?_ _
       clear H78019
       go_wp2_with fail
       go_roundw
       case rel => exact ⟨i + 1, by go_num, by omega, Lib.hid (HE9.out.trans (by solve_by_elim [X0, X1, X2, X3]))⟩
       case measure => simp [intOf]; omega
      ·clear HRWO HRWI HNV HST HSS
       have HEN := Lib.hid (co_Entries O _ A0 A1 A2 A3 j0 j1 j2 j3 wr (HCO.out.ext HE9.out) (by have := HLO.out.2; omega))
       have HEI := Lib.hid (fun V (x : Ext w7 V) => co_Entries I _ B0 B1 B2 B3 l0 l1 l2 l3 V (HCI.out.ext x) (by have := HLI.out.2; omega))
       rw [HTURN.out] at HEI
       have hLL : (entR O).length ≤ 100000 := HLO.out.1
       unfold agC at HEN HEI
       clear HTURN HLO HLI
       generalize entR O = L at *
       have MKI := Lib.hid (fun V (x : Ext w7 V) => (MK7.out V x).2.2)
       go_upto_region 19 with (go_at_call 17; ((with_reducible refine (HEN.out).mono ?_); rintro e2 u8 ⟨Ae, ce, rfl, -, hSe, hx8⟩; clear HEN))
       have HSE := Lib.hid hSe
       have HX8 := Lib.hid (HE9.out.trans hx8)
       clear hSe hx8 HE9 MK7 g0 g1 g2 g3 a0 a1 a2 a3 b0 b1 b2 b3
       have hmk := run_make_adj L.length (by omega) u8
       obtain ⟨gt, hgt⟩ : ∃ gt, gt = u8.heap.size := ⟨_, rfl⟩
       obtain ⟨w10, hw10⟩ : ∃ W, W = u8.alloc (.cells (madeCells nullA (L.length * 3)) 54) := ⟨_, rfl⟩
       have hown := own_madeA u8 u8.heap.size L.length (Nat.le_refl _) (by omega)
       have hx10 : Ext u8 w10 := by rw [hw10]; exact (Ext.refl _).alloc _
       rw [← hw10, ← hgt] at hmk
       rw [← hw10] at hown
       rw [show (some (⟨u8.heap.size, 0, none⟩ : Addr)) = some ⟨gt, 0, none⟩ by rw [hgt]] at hown
       have HOW := Lib.hid hown
       have HX10 := Lib.hid hx10
       have HGT := Lib.hid (show u8.heap.size ≤ gt by omega)
       clear hw10 hgt hown hx10
       go_upto_region 20 with (fail)
       clear hmk
       go_wp2_with fail
       go_loopw [14] (fun u W => ∃ (k : Nat) (T : List Sh), u = .int .i64 k ∧ k ≤ L.length ∧ Hid (T.length = L.length) ∧ Hid (T.take k = (L.map turnS).take k) ∧ Hid (OA W u8.heap.size (.slice (some ⟨gt, 0, none⟩) L.length L.length) T) ∧ Hid (Ext u8 W)) (fun u _ => L.length - (intOf u).toNat)
       case atStart => exact ⟨0, _, rfl, Nat.zero_le _, Lib.hid (List.length_replicate ..), Lib.hid (by rw [List.take_zero, List.take_zero]), HOW, HX10⟩
       case round =>
        clear HOW HX10
        obtain ⟨k, T, rfl, hk, HTL, HT, HO, hE⟩ := hrel
        by_cases hlt : k < L.length
        ·obtain ⟨b, o, rfl, hc⟩ := HSE.out.at_ hlt
         obtain ⟨-, d0, d1, d2⟩ := hc k hlt
         have hbl := block_lt_of_cell d0
         have HNE := Lib.hid (show some b ≠ some gt from fun h => by have h2 := HGT.out; have h3 := Option.some.inj h; have h4 : b < u8.heap.size := hbl; omega)
         clear hbl
         replace d0 := hE.out.cell d0
         replace d1 := hE.out.cell d1
         replace d2 := hE.out.cell d2
         obtain ⟨⟨q0, q1, q2⟩, f0, f1, f2⟩ := own_cells3 HO.out (i := k) (by rw [HTL.out]; exact hlt)
         have HTK := Lib.hid (show (T.set k ⟨L[k]!.n, L[k]!.id, L[k]!.d⟩).take (k + 1) = (L.map turnS).take (k + 1) from turn_step HTL.out hlt HT.out)
         clear hc
         generalize T[k]'(by rw [HTL.out]; exact hlt) = tk at *
         generalize L[k]!.id = x0 at *
         generalize L[k]!.n = x1 at *
         generalize L[k]!.d = x2 at *
         obtain ⟨hO8, hG8⟩ := OwnG.put3 (K := KA) rfl HO.out (i := k) (by rw [HTL.out]; exact hlt) ⟨x1, x0, x2⟩ (a0 := .int .i64 x1) (a1 := .int .i64 x0) (a2 := .int .i64 x2) rfl trivial
         obtain ⟨w8, hw8⟩ : ∃ W, W = ((wr.setCell ⟨gt, k * 3, none⟩ (.int .i64 x1)).setCell ⟨gt, k * 3 + 1, none⟩ (.int .i64 x0)).setCell ⟨gt, k * 3 + 2, none⟩ (.int .i64 x2) := ⟨_, rfl⟩
         rw [← hw8] at hO8 hG8
         have HO8 := Lib.hid hO8
         have HE8 := Lib.hid (hE.out.grown hG8 (fun j hj => by cases hj; exact HGT.out))
         have MK := Lib.hid (fun V (x : Ext wr V) => (⟨x.cell d0, x.cell d1, x.cell d2⟩ : V.cell? ⟨b, o + k * 3, none⟩ = some (.int .i64 x0) ∧ V.cell? ⟨b, o + k * 3 + 1, none⟩ = some (.int .i64 x1) ∧ V.cell? ⟨b, o + k * 3 + 2, none⟩ = some (.int .i64 x2)))
         have MK8 := Lib.hid (fun V (x : Ext w8 V) => (⟨x.cell (hG8.cell d0 HNE.out), x.cell (hG8.cell d1 HNE.out), x.cell (hG8.cell d2 HNE.out)⟩ : V.cell? ⟨b, o + k * 3, none⟩ = some (.int .i64 x0) ∧ V.cell? ⟨b, o + k * 3 + 1, none⟩ = some (.int .i64 x1) ∧ V.cell? ⟨b, o + k * 3 + 2, none⟩ = some (.int .i64 x2)))
         clear hO8 hG8 HO HT
         go_upto_region 23 with (fail)
         refine AnyT.start (S := (fun V => V.cell? ⟨b, o + k * 3, none⟩ = some (.int .i64 x0) ∧ V.cell? ⟨b, o + k * 3 + 1, none⟩ = some (.int .i64 x1) ∧ V.cell? ⟨b, o + k * 3 + 2, none⟩ = some (.int .i64 x2))) (T := (fun V => V.cell? ⟨b, o + k * 3, none⟩ = some (.int .i64 x0) ∧ V.cell? ⟨b, o + k * 3 + 1, none⟩ = some (.int .i64 x1) ∧ V.cell? ⟨b, o + k * 3 + 2, none⟩ = some (.int .i64 x2))) (E := 19) (by kernel_rfl) ?hs78022 (fun hHeld => ?go78022)
         case hs78022 => exact ⟨by (first | exact MK.out _ (by solve_by_elim [X0, X1, X2, X3]) | exact MK8.out _ (by solve_by_elim [X0, X1, X2, X3])), by (first | exact MK.out _ (by solve_by_elim [X0, X1, X2, X3]) | exact MK8.out _ (by solve_by_elim [X0, X1, X2, X3]))⟩
         refine TB 0 (v := ?v78023) ⟨fun _ => hHeld.1, hHeld.2⟩ ?hy78023 ?_
         case hy78023 => (intro w hSw; (try dsimp only at hSw); go_simp <;> first | with_reducible rfl | rw [if_neg (by omega)] | rw [if_pos (by omega)])
         (try simp only [PU])
         refine TB 1 (v := ?v78024) ⟨fun _ => hHeld.1, hHeld.2⟩ ?hy78024 ?_
         case hy78024 => (intro w hSw; (try dsimp only at hSw); go_simp <;> first | with_reducible rfl | rw [if_neg (by omega)] | rw [if_pos (by omega)])
         (try simp only [PU])
         refine TB 2 (v := ?v78025) ⟨fun _ => hHeld.1, hHeld.2⟩ ?hy78025 ?_
         case hy78025 => (intro w hSw; (try dsimp only at hSw); go_simp <;> first | with_reducible rfl | rw [if_neg (by omega)] | rw [if_pos (by omega)])
         (try simp only [PU])
         refine TB 3 (v := ?v78026) ⟨fun _ => hHeld.1, hHeld.2⟩ ?hy78026 ?_
         case hy78026 => (intro w hSw; (try dsimp only at hSw); go_simp <;> first | with_reducible rfl | rw [if_neg (by omega)] | rw [if_pos (by omega)])
         (try simp only [PU])
         refine TB 4 (v := ?v78027) ⟨fun _ => hHeld.1, hHeld.2⟩ ?hy78027 ?_
         case hy78027 => (intro w hSw; (try dsimp only at hSw); go_simp <;> first | with_reducible rfl | rw [if_neg (by omega)] | rw [if_pos (by omega)])
         (try simp only [PU])
         refine TB 5 (v := ?v78028) ⟨fun _ => hHeld.1, hHeld.2⟩ ?hy78028 ?_
         case hy78028 => (intro w hSw; (try dsimp only at hSw); go_simp <;> first | with_reducible rfl | rw [if_neg (by omega)] | rw [if_pos (by omega)])
         (try simp only [PU])
         refine TA 6 (v := ?v78029) hHeld ?hy78029 ?_
         case hy78029 => (intro w hSw; (try dsimp only at hSw); go_simp <;> first | with_reducible rfl | rw [if_neg (by omega)] | rw [if_pos (by omega)])
         (try simp only [PU])
         refine TB 7 (v := ?v78030) ⟨fun _ => hHeld.1, hHeld.2⟩ ?hy78030 ?_
         case hy78030 => (intro w hSw; (try dsimp only at hSw); go_simp <;> first | with_reducible rfl | rw [if_neg (by omega)] | rw [if_pos (by omega)])
         (try simp only [PU])
         refine TB 8 (v := ?v78031) ⟨fun _ => hHeld.1, hHeld.2⟩ ?hy78031 ?_
         case hy78031 => (intro w hSw; (try dsimp only at hSw); go_simp <;> first | with_reducible rfl | rw [if_neg (by omega)] | rw [if_pos (by omega)])
         (try simp only [PU])
         refine TB 9 (v := ?v78032) ⟨fun _ => hHeld.1, hHeld.2⟩ ?hy78032 ?_
         case hy78032 => (intro w hSw; (try dsimp only at hSw); go_simp <;> first | with_reducible rfl | rw [if_neg (by omega)] | rw [if_pos (by omega)])
         (try simp only [PU])
         refine TB 10 (v := ?v78033) ⟨fun _ => hHeld.1, hHeld.2⟩ ?hy78033 ?_
         case hy78033 => (intro w hSw; (try dsimp only at hSw); go_simp <;> first | with_reducible rfl | rw [if_neg (by omega)] | rw [if_pos (by omega)])
         (try simp only [PU])
         refine TA 11 (v := ?v78034) hHeld ?hy78034 ?_
         case hy78034 => (intro w hSw; (try dsimp only at hSw); go_simp <;> first | with_reducible rfl | rw [if_neg (by omega)] | rw [if_pos (by omega)])
         (try simp only [PU])
         refine TB 12 (v := ?v78035) ⟨fun _ => hHeld.1, hHeld.2⟩ ?hy78035 ?_
         case hy78035 => (intro w hSw; (try dsimp only at hSw); go_simp <;> first | with_reducible rfl | rw [if_neg (by omega)] | rw [if_pos (by omega)])
         (try simp only [PU])
         refine TB 13 (v := ?v78036) ⟨fun _ => hHeld.1, hHeld.2⟩ ?hy78036 ?_
         case hy78036 => (intro w hSw; (try dsimp only at hSw); go_simp <;> first | with_reducible rfl | rw [if_neg (by omega)] | rw [if_pos (by omega)])
         (try simp only [PU])
         refine TB 14 (v := ?v78037) ⟨fun _ => hHeld.1, hHeld.2⟩ ?hy78037 ?_
         case hy78037 => (intro w hSw; (try dsimp only at hSw); go_simp <;> first | with_reducible rfl | rw [if_neg (by omega)] | rw [if_pos (by omega)])
         (try simp only [PU])
         refine TB 15 (v := ?v78038) ⟨fun _ => hHeld.1, hHeld.2⟩ ?hy78038 ?_
         case hy78038 => (intro w hSw; (try dsimp only at hSw); go_simp <;> first | with_reducible rfl | rw [if_neg (by omega)] | rw [if_pos (by omega)])
         (try simp only [PU])
         refine TA 16 (v := ?v78039) hHeld ?hy78039 ?_
         case hy78039 => (intro w hSw; (try dsimp only at hSw); go_simp <;> first | with_reducible rfl | rw [if_neg (by omega)] | rw [if_pos (by omega)])
         (try simp only [PU])
         refine TB 17 (v := ?v78040) ⟨fun _ => hHeld.1, hHeld.2⟩ ?hy78040 ?_
         case hy78040 => (intro w hSw; (try dsimp only at hSw); go_simp <;> first | with_reducible rfl | rw [if_neg (by omega)] | rw [if_pos (by omega)])
         (try simp only [PU])
         refine TB 18 (v := ?v78041) ⟨fun _ => hHeld.1, hHeld.2⟩ ?hy78041 ?_
         case hy78041 => (intro w hSw; (try dsimp only at hSw); go_simp <;> first | with_reducible rfl | rw [if_neg (by omega)] | rw [if_pos (by omega)])
         (try simp only [PU])
         refine AnyT.ready (rs := [19]) (by kernel_rfl) (by simp) ?_
         refine AllT.cons (o := ⟨_, _, _, _, _, _⟩) rfl (fun K hK => ?step78042x0) ?more78042x0
         case more78042x0 => exact AllT.nil
         go_simp
         (rw [← hw8]; clear hw8 q0 q1 q2 f0 f1 f2)
         refine hK.out _ _ ?hS78042x0 (fun H78042 => ?_)
         case hS78042x0 => exact ⟨fun h => (by first | exact absurd h (by decide) | simp at h), by (first | exact MK.out _ (by solve_by_elim [X0, X1, X2, X3]) | exact MK8.out _ (by solve_by_elim [X0, X1, X2, X3]))⟩
         clear hK K
         clear hHeld
         refine AnyT.done (by kernel_rfl) ?_ _
         clear H78042
         go_wp2_with fail
         go_roundw
         case rel => exact ⟨k + 1, T.set k ⟨x1, x0, x2⟩, by go_num, by omega, Lib.hid (by rw [List.length_set]; exact HTL.out), HTK, Lib.hid (OwnG.ext HO8.out (by solve_by_elim [X0, X1, X2, X3])), Lib.hid (HE8.out.trans (by solve_by_elim [X0, X1, X2, X3]))⟩
         case measure => simp [intOf]; omega
        ·have hke : k = L.length := by omega
         have HTE := Lib.hid (by have h := HT.out; rw [hke, List.take_of_length_le (by rw [HTL.out]; omega), List.take_of_length_le (by rw [List.length_map]; omega)] at h; exact h : T = L.map turnS)
         clear hke HT
         obtain ⟨b0, b1, b2, b3⟩ := MKI.out _ (HX8.out.trans hE.out)
         have HEI2 := Lib.hid (HEI.out wr (HX8.out.trans hE.out))
         rw [← HTE.out] at HEI2
         obtain ⟨A9, c9, e9, -, hV9⟩ := OA.shares HO.out (by rw [HTL.out]; omega)
         have hsl := sortO_len TotC.adj T
         have HSO := Lib.hid (fun V (x : Ext wr V) => r12_Sorted T _ A9 c9 V (hV9.ext x) (by rw [HTL.out]; omega))
         have e9' : Value.slice (some ⟨gt, 0, none⟩) L.length L.length = .slice A9 L.length c9 := by rw [e9, HTL.out]
         injection e9' with e91 e92 e93
         subst e91 e93
         rw [← hsl] at HSO
         rw [show T.length = (sortO adjOrd T).length from hsl.symm] at HTL
         have HAA := Lib.hid (fun A1 c1 A2 c2 V ok1 ok2 (h1 : Shares V ok1 A1 (sortO adjOrd T)) (h2 : Shares V ok2 A2 (sortO adjOrd T)) => adjs_self (sortO adjOrd T) ok1 ok2 A1 A2 c1 c2 V h1 h2)
         rw [HTL.out] at HSO HEI2 HAA
         generalize sortO adjOrd T = S at *
         clear hsl hV9 HO HTE HEI HSE MKI e9 HTL
         go_wp2_with (first | (go_at_call 17; ((with_reducible refine (HEI2.out).mono ?_); rintro e2 v2 ⟨A2, c2, rfl, -, hS2, hy2⟩; clear HEI2; have HSO2 := Lib.hid (HSO.out v2 hy2); clear HSO)) | (go_at_call 24; ((with_reducible refine (HSO2.out).mono ?_); rintro e3 v3 ⟨A3, c3, rfl, -, hS3, hy3⟩; clear HSO2; have HAA2 := Lib.hid (HAA.out A2 c2 A3 c3 v3 _ _ (hS2.ext hy3) hS3); clear HAA)) | (go_at_call 14; ((with_reducible refine (HAA2.out).mono ?_); rintro e4 v4 ⟨rfl, hy4⟩; clear HAA2)) | (go_at_call 7; ((with_reducible refine ((l_lives _)).mono ?_); rintro e5 v9 ⟨rfl, hy9⟩)))
         go_ret
         exact ⟨rfl, (((((HX1.out.trans HXA.out).trans (HX8.out.trans hE.out)).trans hy2).trans hy3).trans hy4).trans hy9⟩
end Go.Proofs.Ytnheioehadldmaa
