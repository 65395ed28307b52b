/- PARTS OF THE WALKS, joined: CpL, CqH, CLaidZ. -/
import Derived.Test.YtnheioehadldmaaGreatS20
import Derived.Test.YtnheioehadldmaaGreatS18
import Derived.Test.YtnheioehadldmaaGreatS05
/- THE WALK over the law's lives. -/
namespace Go.Proofs.YtnheioehadldmaaGreat
open Go.RowKit
theorem sh_two (w : World) (x y : Sh) : Shares (w.alloc (.cells #[.int .i64 x.id, .int .i64 x.n, .int .i64 x.d, .int .i64 y.id, .int .i64 y.n, .int .i64 y.d] 41)) (fun _ => True) (some ⟨w.heap.size, 0, none⟩) [x, y] := by
 refine ⟨by show 2 ≤ 140737488355328; decide, fun _ => ⟨_, _, rfl, fun k hk => ?_⟩⟩
 have hk2 : k = 0 ∨ k = 1 := by have h : k < 2 := hk; omega
 rcases hk2 with rfl | rfl
 ·exact ⟨trivial, by go_simp, by go_simp, by go_simp⟩
 ·exact ⟨trivial, by go_simp, by go_simp, by go_simp⟩
theorem by_seven (w : World) : Byts (w.alloc (.cells #[.int .u8 1, .int .u8 1, .int .u8 2, .int .u8 2, .int .u8 2, .int .u8 2, .int .u8 2] 5)) (fun _ => True) (some ⟨w.heap.size, 0, none⟩) [1, 1, 2, 2, 2, 2, 2] := by
 refine ⟨by show 7 ≤ 140737488355328; decide, fun _ => ⟨_, _, rfl, fun k hk => ?_⟩⟩
 have hk7 : k = 0 ∨ k = 1 ∨ k = 2 ∨ k = 3 ∨ k = 4 ∨ k = 5 ∨ k = 6 := by have h : k < 7 := hk; omega
 rcases hk7 with rfl | rfl | rfl | rfl | rfl | rfl | rfl <;> exact ⟨trivial, by go_simp⟩
theorem by_three (w : World) : Byts (w.alloc (.cells #[.int .u8 1, .int .u8 1, .int .u8 0] 5)) (fun _ => True) (some ⟨w.heap.size, 0, none⟩) [1, 1, 0] := by
 refine ⟨by show 3 ≤ 140737488355328; decide, fun _ => ⟨_, _, rfl, fun k hk => ?_⟩⟩
 have hk3 : k = 0 ∨ k = 1 ∨ k = 2 := by have h : k < 3 := hk; omega
 rcases hk3 with rfl | rfl | rfl <;> exact ⟨trivial, by go_simp⟩
theorem nu_one (w : World) (x : Int) : Nums (w.alloc (.cells #[.int .i64 x] 3)) (fun _ => True) (some ⟨w.heap.size, 0, none⟩) [x] := by
 refine ⟨by show 1 ≤ 140737488355328; decide, fun _ => ⟨_, _, rfl, fun k hk => ?_⟩⟩
 have hk1 : k = 0 := by have h : k < 1 := hk; omega
 subst hk1
 exact ⟨trivial, by go_simp⟩
theorem nu_two (w : World) (x y : Int) : Nums (w.alloc (.cells #[.int .i64 x, .int .i64 y] 3)) (fun _ => True) (some ⟨w.heap.size, 0, none⟩) [x, y] := by
 refine ⟨by show 2 ≤ 140737488355328; decide, fun _ => ⟨_, _, rfl, fun k hk => ?_⟩⟩
 have hk2 : k = 0 ∨ k = 1 := by have h : k < 2 := hk; omega
 rcases hk2 with rfl | rfl <;> exact ⟨trivial, by go_simp⟩
theorem lv_Of1 (W : World) : Calls Tryz.prog 14 #[.slice (some ⟨W.heap.size, 0, none⟩) 2 2] (W.alloc (.cells #[.int .i64 1, .int .i64 3, .int .i64 2, .int .i64 1, .int .i64 2, .int .i64 1] 41)) fun e w' => ∃ A B C D k0 k1 k2 k3, e = .returned (.tuple #[.agg #[.slice A 1 k0, .slice B 2 k1, .slice C 2 k2, .slice D 2 k3], .int .i64 0]) ∧ ColAt w' (fun _ => True) A B C D wantC ∧ Ext (W.alloc (.cells #[.int .i64 1, .int .i64 3, .int .i64 2, .int .i64 1, .int .i64 2, .int .i64 1] 41)) w' := by
 have h := co_Of listL _ _ 2 _ (sh_two W ⟨1, 3, 2⟩ ⟨1, 2, 1⟩) (by decide)
 rw [live_0] at h
 exact h.mono (fun e w' ⟨A, B, C, D, k0, k1, k2, k3, h1, h2, h3⟩ => ⟨A, B, C, D, k0, k1, k2, k3, h1, h2.to (fun _ _ => trivial), h3⟩)
theorem lv_Of2 (W : World) : Calls Tryz.prog 14 #[.slice (some ⟨W.heap.size, 0, none⟩) 2 2] (W.alloc (.cells #[.int .i64 1, .int .i64 2, .int .i64 7, .int .i64 3, .int .i64 4, .int .i64 7] 41)) fun e w' => ∃ A B C D k0 k1 k2 k3, e = .returned (.tuple #[.agg #[.slice A 0 k0, .slice B 0 k1, .slice C 0 k2, .slice D 0 k3], .int .i64 7]) ∧ ColAt w' (fun _ => True) A B C D noCol ∧ Ext W w' := by
 have h := co_Of [⟨1, 2, 7⟩, ⟨3, 4, 7⟩] _ _ 2 _ (sh_two W ⟨1, 2, 7⟩ ⟨3, 4, 7⟩) (by decide)
 rw [live_1] at h
 exact h.mono (fun e w' ⟨A, B, C, D, k0, k1, k2, k3, h1, h2, h3⟩ => ⟨A, B, C, D, k0, k1, k2, k3, h1, h2.to (fun _ _ => trivial), ((Ext.refl W).alloc _).trans h3⟩)
theorem lv_Dec1 (W : World) : Calls Tryz.prog 9 #[.slice (some ⟨W.heap.size, 0, none⟩) 7 7] (W.alloc (.cells #[.int .u8 1, .int .u8 1, .int .u8 2, .int .u8 2, .int .u8 2, .int .u8 2, .int .u8 2] 5)) fun e w' => ∃ A B C D k0 k1 k2 k3, e = .returned (.tuple #[.agg #[.slice A 1 k0, .slice B 2 k1, .slice C 2 k2, .slice D 2 k3], .int .i64 0]) ∧ ColAt w' (fun _ => True) A B C D wantC ∧ Ext W w' := by
 have h := co_Decode [1, 1, 2, 2, 2, 2, 2] _ _ 7 _ (by_seven W) (by decide) (by decide) (by decide)
 rw [live_3] at h
 exact h.mono (fun e w' ⟨A, B, C, D, k0, k1, k2, k3, h1, h2, h3⟩ => ⟨A, B, C, D, k0, k1, k2, k3, h1, h2.to (fun _ _ => trivial), ((Ext.refl W).alloc _).trans h3⟩)
theorem lv_Dec2 (W : World) : Calls Tryz.prog 9 #[.slice (some ⟨W.heap.size, 0, none⟩) 3 3] (W.alloc (.cells #[.int .u8 1, .int .u8 1, .int .u8 0] 5)) fun e w' => ∃ A B C D k0 k1 k2 k3, e = .returned (.tuple #[.agg #[.slice A 0 k0, .slice B 0 k1, .slice C 0 k2, .slice D 0 k3], .int .i64 1]) ∧ ColAt w' (fun _ => True) A B C D noCol ∧ Ext W w' := by
 have h := co_Decode [1, 1, 0] _ _ 3 _ (by_three W) (by decide) (by decide) (by decide)
 rw [live_4] at h
 exact h.mono (fun e w' ⟨A, B, C, D, k0, k1, k2, k3, h1, h2, h3⟩ => ⟨A, B, C, D, k0, k1, k2, k3, h1, h2.to (fun _ _ => trivial), ((Ext.refl W).alloc _).trans h3⟩)
theorem lv_Bld (W : World) : Calls Tryz.prog 6 #[.agg #[.slice none 0 0, .slice none 0 0, .int .i64 1, .int .i64 1], .string ⟨#[]⟩, .int .i64 3] W fun e w' => ∃ A B C D k0 k1 k2 k3, e = .returned (.tuple #[.agg #[.slice A 0 k0, .slice B 0 k1, .slice C 0 k2, .slice D 0 k3], .int .i64 1]) ∧ ColAt w' (fun _ => True) A B C D noCol ∧ Ext W w' := by
 have h := co_Build ⟨[], [], 1, 1⟩ ByteArray.empty 3 (fun _ => True) none none 0 0 W ⟨SliceR.nil _ _ _, SliceR.nil _ _ _⟩ ⟨Nat.zero_le _, Nat.zero_le _⟩
 rw [live_5] at h
 exact h.mono (fun e w' ⟨A, B, C, D, k0, k1, k2, k3, h1, h2, h3⟩ => ⟨A, B, C, D, k0, k1, k2, k3, h1, h2.to (fun _ _ => trivial), h3⟩)
theorem lv_Enc (ok : Nat → Prop) (E0 E1 E2 E3 : Option Addr) (j0 j1 j2 j3 : Nat) (W : World) (hv : ColAt W ok E0 E1 E2 E3 wantC) : Calls Tryz.prog 12 #[.agg #[.slice E0 1 j0, .slice E1 2 j1, .slice E2 2 j2, .slice E3 2 j3]] W fun e w' => ∃ A' c', e = .returned (.slice A' 7 c') ∧ Byts w' (fun _ => True) A' [1, 1, 2, 2, 2, 2, 2] ∧ Ext W w' := by
 have h := co_Encode wantC ok E0 E1 E2 E3 j0 j1 j2 j3 W hv ⟨by decide, by decide⟩
 rw [live_2] at h
 exact h.mono (fun e w' ⟨A, c, h1, _, h2, h3⟩ => ⟨A, c, h1, SliceR.mono h2 (fun _ _ _ _ hx => ⟨trivial, hx.2⟩), h3⟩)
theorem lv_Same (ok : Nat → Prop) (E0 E1 E2 E3 : Option Addr) (j0 j1 j2 j3 : Nat) (W : World) (ok' : Nat → Prop) (A0 A1 A2 A3 : Option Addr) (k0 k1 k2 k3 : Nat) (hv : ColAt W ok E0 E1 E2 E3 wantC) (hu : ColAt W ok' A0 A1 A2 A3 wantC) : Calls Tryz.prog 8 #[.agg #[.slice A0 1 k0, .slice A1 2 k1, .slice A2 2 k2, .slice A3 2 k3], .agg #[.slice E0 1 j0, .slice E1 2 j1, .slice E2 2 j2, .slice E3 2 j3]] W fun e w' => e = .returned (.bool true) ∧ Ext W w' :=
 (r12_Same wantC wantC ok' ok A0 A1 A2 A3 E0 E1 E2 E3 k0 k1 k2 k3 j0 j1 j2 j3 W hu hv).mono (fun e w' ⟨h1, h2⟩ => ⟨h1.trans (by simp), h2⟩)
theorem lv_Byt (W : World) (ok : Nat → Prop) (A : Option Addr) (c : Nat) (hv : Byts W ok A [1, 1, 2, 2, 2, 2, 2]) : Calls Tryz.prog 11 #[.slice A 7 c, .slice (some ⟨W.heap.size, 0, none⟩) 7 7] (W.alloc (.cells #[.int .u8 1, .int .u8 1, .int .u8 2, .int .u8 2, .int .u8 2, .int .u8 2, .int .u8 2] 5)) fun e w' => e = .returned (.bool true) ∧ Ext W w' :=
 (r12_Bytes [1, 1, 2, 2, 2, 2, 2] [1, 1, 2, 2, 2, 2, 2] ok (fun _ => True) A _ c 7 _ (SliceR.mono hv (fun _ _ _ _ hx => ⟨hx.1, ((Ext.refl W).alloc _).cell hx.2⟩)) (by_seven W) (by decide) (by decide)).mono (fun e w' ⟨h1, h2⟩ => ⟨h1, ((Ext.refl W).alloc _).trans h2⟩)
theorem lv_Val (ok : Nat → Prop) (E0 E1 E2 E3 : Option Addr) (j0 j1 j2 j3 : Nat) (W : World) (hv : ColAt W ok E0 E1 E2 E3 wantC) : Calls Tryz.prog 15 #[.agg #[.slice E0 1 j0, .slice E1 2 j1, .slice E2 2 j2, .slice E3 2 j3]] W fun e w' => e = .returned (.bool true) ∧ Ext W w' :=
 (co_Valid wantC ok E0 E1 E2 E3 j0 j1 j2 j3 W hv (by decide)).mono (fun e w' ⟨h1, h2⟩ => ⟨by rw [h1, live_b], h2⟩)
theorem lv_Val2 (W : World) : Calls Tryz.prog 15 #[.agg #[.slice none 0 0, .slice (some ⟨W.heap.size, 0, none⟩) 1 1, .slice none 0 0, .slice none 0 0]] (W.alloc (.cells #[.int .i64 0] 3)) fun e w' => e = .returned (.bool true) ∧ Ext W w' :=
 (co_Valid ⟨[], [0], [], []⟩ (fun _ => True) none _ none none 0 1 0 0 _ ⟨SliceR.nil _ _ _, nu_one W 0, SliceR.nil _ _ _, SliceR.nil _ _ _⟩ (by decide)).mono (fun e w' ⟨h1, h2⟩ => ⟨by rw [h1, live_6], ((Ext.refl W).alloc _).trans h2⟩)
theorem lv_Val3 (W : World) : Calls Tryz.prog 15 #[.agg #[.slice (some ⟨W.heap.size, 0, none⟩) 1 1, .slice none 0 0, .slice none 0 0, .slice none 0 0]] (W.alloc (.cells #[.int .i64 1] 3)) fun e w' => e = .returned (.bool false) ∧ Ext W w' :=
 (co_Valid ⟨[1], [], [], []⟩ (fun _ => True) _ none none none 1 0 0 0 _ ⟨nu_one W 1, SliceR.nil _ _ _, SliceR.nil _ _ _, SliceR.nil _ _ _⟩ (by decide)).mono (fun e w' ⟨h1, h2⟩ => ⟨by rw [h1, live_7], ((Ext.refl W).alloc _).trans h2⟩)
def rowL : List Sh := [⟨1, 2, 1⟩, ⟨1, 3, 2⟩]
theorem lv_Row (ok : Nat → Prop) (E0 E1 E2 E3 : Option Addr) (j0 j1 j2 j3 : Nat) (W : World) (hv : ColAt W ok E0 E1 E2 E3 wantC) : Calls Tryz.prog 17 #[.agg #[.slice E0 1 j0, .slice E1 2 j1, .slice E2 2 j2, .slice E3 2 j3], .int .i64 1] W fun e w' => ∃ A' c', e = .returned (.slice A' 2 c') ∧ Shares w' (fun _ => True) A' rowL ∧ Ext W w' := by
 have h := co_Row wantC 1 ok E0 E1 E2 E3 j0 j1 j2 j3 W hv (by decide)
 rw [live_9] at h
 exact h.mono (fun e w' ⟨A, c, h1, h2, h3⟩ => ⟨A, c, h1, SliceR.mono h2 (fun _ _ _ _ hx => ⟨trivial, hx.2⟩), h3⟩)
theorem lv_RowZ (ok : Nat → Prop) (E0 E1 E2 E3 : Option Addr) (j0 j1 j2 j3 : Nat) (W : World) (hv : ColAt W ok E0 E1 E2 E3 wantC) : Calls Tryz.prog 17 #[.agg #[.slice E0 1 j0, .slice E1 2 j1, .slice E2 2 j2, .slice E3 2 j3], .int .i64 1] (W.alloc (.cells #[.int .i64 1, .int .i64 2, .int .i64 1, .int .i64 1, .int .i64 3, .int .i64 2] 41)) fun e w' => ∃ A' c', e = .returned (.slice A' 2 c') ∧ Shares w' (fun _ => True) A' rowL ∧ Shares w' (fun _ => True) (some ⟨W.heap.size, 0, none⟩) rowL ∧ Ext W w' :=
 (lv_Row ok E0 E1 E2 E3 j0 j1 j2 j3 _ (hv.ext ((Ext.refl W).alloc _))).mono (fun _ _ ⟨A, c, h1, h2, h3⟩ => ⟨A, c, h1, h2, (sh_two W ⟨1, 2, 1⟩ ⟨1, 3, 2⟩).ext h3, ((Ext.refl W).alloc _).trans h3⟩)
theorem lv_Deg (ok : Nat → Prop) (E0 E1 E2 E3 : Option Addr) (j0 j1 j2 j3 : Nat) (W : World) (hv : ColAt W ok E0 E1 E2 E3 wantC) : Calls Tryz.prog 18 #[.agg #[.slice E0 1 j0, .slice E1 2 j1, .slice E2 2 j2, .slice E3 2 j3], .int .i64 1] W fun e w' => e = .returned (.int .i64 2) ∧ Ext W w' := by
 have h := co_Degree wantC 1 ok E0 E1 E2 E3 j0 j1 j2 j3 W hv (by decide)
 rw [live_9] at h
 exact h
theorem lv_Ent (ok : Nat → Prop) (E0 E1 E2 E3 : Option Addr) (j0 j1 j2 j3 : Nat) (W : World) (hv : ColAt W ok E0 E1 E2 E3 wantC) : Calls Tryz.prog 19 #[.agg #[.slice E0 1 j0, .slice E1 2 j1, .slice E2 2 j2, .slice E3 2 j3]] W fun e w' => ∃ A' c', e = .returned (.slice A' 2 c') ∧ Ext W w' := by
 have h := co_Entries wantC ok E0 E1 E2 E3 j0 j1 j2 j3 W hv (by decide)
 rw [live_8] at h
 exact h.mono (fun e w' ⟨A, c, h1, _, _, h3⟩ => ⟨A, c, h1, h3⟩)
theorem lv_Adj (A B : Option Addr) (c d : Nat) (W : World) (ok ok' : Nat → Prop) (ha : Shares W ok A rowL) (hb : Shares W ok' B rowL) : Calls Tryz.prog 16 #[.slice A 2 c, .slice B 2 d] W fun e w' => e = .returned (.bool true) ∧ Ext W w' :=
 (r12_Adjs rowL rowL ok ok' A B c d W ha hb).mono (fun _ _ ⟨h1, h2⟩ => ⟨h1, h2⟩)
theorem lv_want (W : World) : ColAt ((((W.alloc (.cells #[.int .i64 1] 3)).alloc (.cells #[.int .i64 0, .int .i64 2] 3)).alloc (.cells #[.int .i64 2, .int .i64 3] 3)).alloc (.cells #[.int .i64 1, .int .i64 2] 3)) (fun _ => True) (some ⟨W.heap.size, 0, none⟩) (some ⟨W.heap.size + 1, 0, none⟩) (some ⟨W.heap.size + 1 + 1, 0, none⟩) (some ⟨W.heap.size + 1 + 1 + 1, 0, none⟩) wantC := by
 have h1 := nu_one W 1
 have h2 := nu_two (W.alloc (.cells #[.int .i64 1] 3)) 0 2
 have h3 := nu_two ((W.alloc (.cells #[.int .i64 1] 3)).alloc (.cells #[.int .i64 0, .int .i64 2] 3)) 2 3
 have h4 := nu_two (((W.alloc (.cells #[.int .i64 1] 3)).alloc (.cells #[.int .i64 0, .int .i64 2] 3)).alloc (.cells #[.int .i64 2, .int .i64 3] 3)) 1 2
 have e1 : (W.alloc (.cells #[.int .i64 1] 3)).heap.size = W.heap.size + 1 := by simp
 have e2 : ((W.alloc (.cells #[.int .i64 1] 3)).alloc (.cells #[.int .i64 0, .int .i64 2] 3)).heap.size = W.heap.size + 1 + 1 := by simp
 have e3 : (((W.alloc (.cells #[.int .i64 1] 3)).alloc (.cells #[.int .i64 0, .int .i64 2] 3)).alloc (.cells #[.int .i64 2, .int .i64 3] 3)).heap.size = W.heap.size + 1 + 1 + 1 := by simp
 rw [e1] at h2
 rw [e2] at h3
 rw [e3] at h4
 exact ⟨h1.ext ((((Ext.refl _).alloc _).alloc _).alloc _), h2.ext (((Ext.refl _).alloc _).alloc _), h3.ext ((Ext.refl _).alloc _), h4⟩
theorem box_colV (w : World) (v0 v1 v2 v3 : Value) (t : TypeId) : ∃ (q : Nat) (w1 : World), q = w.heap.size ∧ w1 = w.alloc (.cells #[v0, v1, v2, v3] t) ∧ Box4 w1 q v0 v1 v2 v3 ∧ Ext w w1 :=
 ⟨_, _, rfl, rfl, ⟨by go_simp, by go_simp, by go_simp, by go_simp⟩, (Ext.refl _).alloc _⟩
set_option maxRecDepth 100000 in
set_option maxHeartbeats 6400000 in
theorem l_lives (w : World) : Calls Tryz.prog 5 #[] w fun e w' => e = .returned (.bool true) ∧ Ext w w' := by
 go_enter Tryz.func5, Tryz.ntmps5
 go_upto_region 2 with (fail)
 have HO1 := Lib.hid (lv_Of1 w)
 obtain ⟨b0, w1, hb0, hw1, hcl, hx1⟩ : ∃ (b : Nat) (w1 : World), b = w.heap.size ∧ w1 = (w.alloc (.cells #[.int .i64 1, .int .i64 3, .int .i64 2, .int .i64 1, .int .i64 2, .int .i64 1] 41)) ∧ (w1.cell? ⟨b, 0, none⟩ = some (.int .i64 1) ∧ w1.cell? ⟨b, 1, none⟩ = some (.int .i64 3) ∧ w1.cell? ⟨b, 2, none⟩ = some (.int .i64 2) ∧ w1.cell? ⟨b, 3, none⟩ = some (.int .i64 1) ∧ w1.cell? ⟨b, 4, none⟩ = some (.int .i64 2) ∧ w1.cell? ⟨b, 5, none⟩ = some (.int .i64 1)) ∧ Ext w w1 := ⟨_, _, rfl, rfl, ⟨by go_simp, by go_simp, by go_simp, by go_simp, by go_simp, by go_simp⟩, (Ext.refl _).alloc _⟩
 rw [← hw1, ← hb0] at HO1 ⊢
 have HCL := Lib.hid hcl
 have HX1 := Lib.hid hx1
 clear hw1 hb0 hcl hx1
 go_upto_region 3 with (go_at_call 14; (go_loud ((with_reducible refine (HO1.out).mono ?_); rintro e u2 ⟨A0, A1, A2, A3, k0, k1, k2, k3, rfl, hca, hx2⟩; clear HO1)))
 obtain ⟨qa, w3, hqa, hw3, hba, hx3⟩ := box_colV u2 (.slice A0 1 k0) (.slice A1 2 k1) (.slice A2 2 k2) (.slice A3 2 k3) 29
 rw [← hw3, ← hqa]
 have HCA := Lib.hid (hca.ext hx3)
 have HBA := Lib.hid hba
 have HX3 := Lib.hid (hx2.trans hx3)
 clear hqa hw3 hba hx2 hx3 hca
 have HO2 := Lib.hid (lv_Of2 w3)
 go_upto_region 4 with (go_at_call 14; (go_loud ((with_reducible refine (HO2.out).mono ?_); rintro e u4 ⟨B0, B1, B2, B3, m0, m1, m2, m3, rfl, -, hx4⟩; clear HO2)))
 obtain ⟨qb, w5, hqb, hw5, -, hx5⟩ := box_colV u4 (.slice B0 0 m0) (.slice B1 0 m1) (.slice B2 0 m2) (.slice B3 0 m3) 29
 rw [← hw5, ← hqb]
 have HX5 := Lib.hid (hx4.trans hx5)
 clear hqb hw5 hx4 hx5
 go_upto_region 5 with (fail)
 obtain ⟨h6, hh6⟩ : ∃ h, h = w5.heap.size := ⟨_, rfl⟩
 have hwant := lv_want w5
 obtain ⟨w6, hw6⟩ : ∃ W, W = ((((w5.alloc (.cells #[.int .i64 1] 3)).alloc (.cells #[.int .i64 0, .int .i64 2] 3)).alloc (.cells #[.int .i64 2, .int .i64 3] 3)).alloc (.cells #[.int .i64 1, .int .i64 2] 3)) := ⟨_, rfl⟩
 have hx6 : Ext w5 w6 := by rw [hw6]; exact ((((Ext.refl _).alloc _).alloc _).alloc _).alloc _
 have hs6 : h6 + 1 + 1 + 1 + 1 = w6.heap.size := by rw [hw6, hh6]; simp
 rw [← hw6, ← hh6] at hwant
 obtain ⟨qw, w7, hqw, hw7, hbw, hx7⟩ := box_colV w6 (.slice (some ⟨h6, 0, none⟩) 1 1) (.slice (some ⟨h6 + 1, 0, none⟩) 2 2) (.slice (some ⟨h6 + 1 + 1, 0, none⟩) 2 2) (.slice (some ⟨h6 + 1 + 1 + 1, 0, none⟩) 2 2) 29
 rw [← hs6] at hqw
 rw [← hw6, ← hh6, ← hw7]
 rw [← hqw]
 have HWT := Lib.hid (hwant.ext hx7)
 have HBW := Lib.hid hbw
 have HX7 := Lib.hid (hx6.trans hx7)
 clear hwant hbw hx6 hx7 hw6 hw7 hqw hs6 hh6
 obtain ⟨z0, z1, z2, z3⟩ := HBW.out
 have HEN := Lib.hid (lv_Enc _ _ _ _ _ 1 2 2 2 w7 HWT.out)
 go_upto_region 6 with (go_at_call 12; (go_loud ((with_reducible refine (HEN.out).mono ?_); rintro e u8 ⟨A7, c7, rfl, hb7, hx8⟩; clear HEN)))
 have HBY := Lib.hid hb7
 have HX8 := Lib.hid hx8
 clear hb7 hx8 z0 z1 z2 z3
 have HD1 := Lib.hid (lv_Dec1 u8)
 go_upto_region 7 with (go_at_call 9; (go_loud ((with_reducible refine (HD1.out).mono ?_); rintro e u10 ⟨D0, D1, D2, D3, d0, d1, d2, d3, rfl, hcd, hx10⟩; clear HD1)))
 obtain ⟨qd, w11, hqd, hw11, hbd, hx11⟩ := box_colV u10 (.slice D0 1 d0) (.slice D1 2 d1) (.slice D2 2 d2) (.slice D3 2 d3) 29
 rw [← hw11, ← hqd]
 have HCD := Lib.hid (hcd.ext hx11)
 have HBD := Lib.hid hbd
 have HX11 := Lib.hid (hx10.trans hx11)
 clear hqd hw11 hbd hx10 hx11 hcd
 have HD2 := Lib.hid (lv_Dec2 w11)
 go_upto_region 8 with (go_at_call 9; (go_loud ((with_reducible refine (HD2.out).mono ?_); rintro e u12 ⟨F0, F1, F2, F3, f0, f1, f2, f3, rfl, -, hx12⟩; clear HD2)))
 obtain ⟨qf, w13, hqf, hw13, -, hx13⟩ := box_colV u12 (.slice F0 0 f0) (.slice F1 0 f1) (.slice F2 0 f2) (.slice F3 0 f3) 29
 rw [← hw13, ← hqf]
 have HX13 := Lib.hid (hx12.trans hx13)
 clear hqf hw13 hx12 hx13
 have HBL := Lib.hid (lv_Bld w13)
 go_upto_region 9 with (go_at_call 6; (go_loud ((with_reducible refine (HBL.out).mono ?_); rintro e u14 ⟨G0, G1, G2, G3, g0, g1, g2, g3, rfl, -, hx14⟩; clear HBL)))
 obtain ⟨qg, w9, hqg, hw9, -, hx15⟩ := box_colV u14 (.slice G0 0 g0) (.slice G1 0 g1) (.slice G2 0 g2) (.slice G3 0 g3) 29
 rw [← hw9, ← hqg]
 have HX15 := Lib.hid (hx14.trans hx15)
 clear hqg hw9 hx14 hx15
 have HY11 := Lib.hid (HX13.out.trans HX15.out)
 have HY8 := Lib.hid (HX11.out.trans HY11.out)
 have HY7 := Lib.hid (HX8.out.trans HY8.out)
 have HY5 := Lib.hid (HX7.out.trans HY7.out)
 have HY3 := Lib.hid (HX5.out.trans HY5.out)
 have HY1 := Lib.hid (HX3.out.trans HY3.out)
 have HX9 := Lib.hid (HX1.out.trans HY1.out)
 have hcl := HCL.out
 have hba := HBA.out.grown (HY3.out.gr none) (by simp)
 have hbw := HBW.out.grown (HY7.out.gr none) (by simp)
 have hbd := HBD.out.grown (HY11.out.gr none) (by simp)
 have MK9 := Lib.hid (fun V (e : Ext w9 V) => (⟨⟨e.cell hba.1, e.cell hba.2.1, e.cell hba.2.2.1, e.cell hba.2.2.2⟩, ⟨e.cell hbw.1, e.cell hbw.2.1, e.cell hbw.2.2.1, e.cell hbw.2.2.2⟩, ⟨e.cell hbd.1, e.cell hbd.2.1, e.cell hbd.2.2.1, e.cell hbd.2.2.2⟩, (HY1.out.trans e).cell hcl.1, (HY1.out.trans e).cell hcl.2.1, (HY1.out.trans e).cell hcl.2.2.1, (HY1.out.trans e).cell hcl.2.2.2.1, (HY1.out.trans e).cell hcl.2.2.2.2.1, (HY1.out.trans e).cell hcl.2.2.2.2.2⟩ : (V.cell? ⟨qa, 0, none⟩ = some (.slice A0 1 k0) ∧ V.cell? ⟨qa, 1, none⟩ = some (.slice A1 2 k1) ∧ V.cell? ⟨qa, 2, none⟩ = some (.slice A2 2 k2) ∧ V.cell? ⟨qa, 3, none⟩ = some (.slice A3 2 k3)) ∧ (V.cell? ⟨qw, 0, none⟩ = some (.slice (some ⟨h6, 0, none⟩) 1 1) ∧ V.cell? ⟨qw, 1, none⟩ = some (.slice (some ⟨h6 + 1, 0, none⟩) 2 2) ∧ V.cell? ⟨qw, 2, none⟩ = some (.slice (some ⟨h6 + 1 + 1, 0, none⟩) 2 2) ∧ V.cell? ⟨qw, 3, none⟩ = some (.slice (some ⟨h6 + 1 + 1 + 1, 0, none⟩) 2 2)) ∧ (V.cell? ⟨qd, 0, none⟩ = some (.slice D0 1 d0) ∧ V.cell? ⟨qd, 1, none⟩ = some (.slice D1 2 d1) ∧ V.cell? ⟨qd, 2, none⟩ = some (.slice D2 2 d2) ∧ V.cell? ⟨qd, 3, none⟩ = some (.slice D3 2 d3)) ∧ V.cell? ⟨b0, 0, none⟩ = some (.int .i64 1) ∧ V.cell? ⟨b0, 1, none⟩ = some (.int .i64 3) ∧ V.cell? ⟨b0, 2, none⟩ = some (.int .i64 2) ∧ V.cell? ⟨b0, 3, none⟩ = some (.int .i64 1) ∧ V.cell? ⟨b0, 4, none⟩ = some (.int .i64 2) ∧ V.cell? ⟨b0, 5, none⟩ = some (.int .i64 1)))
 have HS1 := Lib.hid (fun V (e : Ext w9 V) => lv_Same _ _ _ _ _ 1 2 2 2 V _ A0 A1 A2 A3 k0 k1 k2 k3 (HWT.out.ext (HY7.out.trans e)) (HCA.out.ext (HY3.out.trans e)))
 have HS2 := Lib.hid (fun V (e : Ext w9 V) => lv_Same _ _ _ _ _ 1 2 2 2 V _ D0 D1 D2 D3 d0 d1 d2 d3 (HWT.out.ext (HY7.out.trans e)) (HCD.out.ext (HY11.out.trans e)))
 have HB := Lib.hid (fun V (e : Ext w9 V) => lv_Byt V _ A7 c7 (HBY.out.ext (HY8.out.trans e)))
 have HV1 := Lib.hid (fun V (e : Ext w9 V) => lv_Val _ _ _ _ _ 1 2 2 2 V (HWT.out.ext (HY7.out.trans e)))
 have HR := Lib.hid (fun V (e : Ext w9 V) => lv_Row _ _ _ _ _ 1 2 2 2 V (HWT.out.ext (HY7.out.trans e)))
 have HRZ := Lib.hid (fun V (e : Ext w9 V) => lv_RowZ _ _ _ _ _ 1 2 2 2 V (HWT.out.ext (HY7.out.trans e)))
 have HD := Lib.hid (fun V (e : Ext w9 V) => lv_Deg _ _ _ _ _ 1 2 2 2 V (HWT.out.ext (HY7.out.trans e)))
 have HE := Lib.hid (fun V (e : Ext w9 V) => lv_Ent _ _ _ _ _ 1 2 2 2 V (HWT.out.ext (HY7.out.trans e)))
 clear hcl hba hbw hbd HCL HBA HBW HBD HWT HCA HCD HBY HX1 HX3 HX5 HX7 HX8 HX11 HX13 HX15 HY1 HY3 HY5 HY7 HY8 HY11
 refine wp_region_held_drew (S := (fun V => (V.cell? ⟨qa, 0, none⟩ = some (.slice A0 1 k0) ∧ V.cell? ⟨qa, 1, none⟩ = some (.slice A1 2 k1) ∧ V.cell? ⟨qa, 2, none⟩ = some (.slice A2 2 k2) ∧ V.cell? ⟨qa, 3, none⟩ = some (.slice A3 2 k3)) ∧ (V.cell? ⟨qw, 0, none⟩ = some (.slice (some ⟨h6, 0, none⟩) 1 1) ∧ V.cell? ⟨qw, 1, none⟩ = some (.slice (some ⟨h6 + 1, 0, none⟩) 2 2) ∧ V.cell? ⟨qw, 2, none⟩ = some (.slice (some ⟨h6 + 1 + 1, 0, none⟩) 2 2) ∧ V.cell? ⟨qw, 3, none⟩ = some (.slice (some ⟨h6 + 1 + 1 + 1, 0, none⟩) 2 2)) ∧ (V.cell? ⟨qd, 0, none⟩ = some (.slice D0 1 d0) ∧ V.cell? ⟨qd, 1, none⟩ = some (.slice D1 2 d1) ∧ V.cell? ⟨qd, 2, none⟩ = some (.slice D2 2 d2) ∧ V.cell? ⟨qd, 3, none⟩ = some (.slice D3 2 d3)) ∧ V.cell? ⟨b0, 0, none⟩ = some (.int .i64 1) ∧ V.cell? ⟨b0, 1, none⟩ = some (.int .i64 3) ∧ V.cell? ⟨b0, 2, none⟩ = some (.int .i64 2) ∧ V.cell? ⟨b0, 3, none⟩ = some (.int .i64 1) ∧ V.cell? ⟨b0, 4, none⟩ = some (.int .i64 2) ∧ V.cell? ⟨b0, 5, none⟩ = some (.int .i64 1))) (by kernel_rfl) ?hs70001 (fun hHeld => ?go70001)
 case hs70001 => (exact MK9.out _ (by solve_by_elim [X0, X1, X2, X3]))
 refine TK 0 (v := ?v70002) hHeld ?hy70002 ?_
 case hy70002 => (intro w hSw; (try dsimp only at hSw); go_simp <;> first | with_reducible rfl | rw [if_neg (by omega)] | rw [if_pos (by omega)])
 (try simp only [PU])
 refine TK 1 (v := ?v70003) hHeld ?hy70003 ?_
 case hy70003 => (intro w hSw; (try dsimp only at hSw); go_simp <;> first | with_reducible rfl | rw [if_neg (by omega)] | rw [if_pos (by omega)])
 (try simp only [PU])
 refine TK 2 (v := ?v70004) hHeld ?hy70004 ?_
 case hy70004 => (intro w hSw; (try dsimp only at hSw); go_simp <;> first | with_reducible rfl | rw [if_neg (by omega)] | rw [if_pos (by omega)])
 (try simp only [PU])
 refine TK 3 (v := ?v70005) hHeld ?hy70005 ?_
 case hy70005 => (intro w hSw; (try dsimp only at hSw); go_simp <;> first | with_reducible rfl | rw [if_neg (by omega)] | rw [if_pos (by omega)])
 (try simp only [PU])
 refine TK 4 (v := ?v70006) hHeld ?hy70006 ?_
 case hy70006 => (intro w hSw; (try dsimp only at hSw); go_simp <;> first | with_reducible rfl | rw [if_neg (by omega)] | rw [if_pos (by omega)])
 (try simp only [PU])
 refine wpAnyH_ready (rs := [5]) (by kernel_rfl) (by simp) ?_
 refine AllReadyH.cons (o := ⟨_, _, _, _, _, _⟩) rfl (fun K hK => ?step70007x0) ?more70007x0
 case more70007x0 => exact AllReadyH.nil
 go_simp
 ((with_reducible refine (HS1.out _ (by solve_by_elim [X0, X1, X2, X3])).mono ?_); rintro r v5 ⟨rfl, hy5⟩; replace hy5 : Ext w9 v5 := Ext.trans (a := w9) (by solve_by_elim [X0, X1, X2, X3]) hy5)
 refine hK.out _ _ ?hS70007x0 (fun H70007 => ?_)
 case hS70007x0 => first | (exact MK9.out _ (by solve_by_elim [X0, X1, X2, X3])) | ((try dsimp only); (exact MK9.out _ (by solve_by_elim [X0, X1, X2, X3])))
 clear hK K
 clear hHeld
 (try simp only [PU])
 refine TK 6 (v := ?v70008) H70007 ?hy70008 ?_
 case hy70008 => (intro w hSw; (try dsimp only at hSw); go_simp <;> first | with_reducible rfl | rw [if_neg (by omega)] | rw [if_pos (by omega)])
 (try simp only [PU])
 refine TK 7 (v := ?v70009) H70007 ?hy70009 ?_
 case hy70009 => (intro w hSw; (try dsimp only at hSw); go_simp <;> first | with_reducible rfl | rw [if_neg (by omega)] | rw [if_pos (by omega)])
 (try simp only [PU])
 refine TK 8 (v := ?v70010) H70007 ?hy70010 ?_
 case hy70010 => (intro w hSw; (try dsimp only at hSw); go_simp <;> first | with_reducible rfl | rw [if_neg (by omega)] | rw [if_pos (by omega)])
 (try simp only [PU])
 refine TK 9 (v := ?v70011) H70007 ?hy70011 ?_
 case hy70011 => (intro w hSw; (try dsimp only at hSw); go_simp <;> first | with_reducible rfl | rw [if_neg (by omega)] | rw [if_pos (by omega)])
 (try simp only [PU])
 refine TK 10 (v := ?v70012) H70007 ?hy70012 ?_
 case hy70012 => (intro w hSw; (try dsimp only at hSw); go_simp <;> first | with_reducible rfl | rw [if_neg (by omega)] | rw [if_pos (by omega)])
 (try simp only [PU])
 refine TK 11 (v := ?v70013) H70007 ?hy70013 ?_
 case hy70013 => (intro w hSw; (try dsimp only at hSw); go_simp <;> first | with_reducible rfl | rw [if_neg (by omega)] | rw [if_pos (by omega)])
 (try simp only [PU])
 refine TK 12 (v := ?v70014) H70007 ?hy70014 ?_
 case hy70014 => (intro w hSw; (try dsimp only at hSw); go_simp <;> first | with_reducible rfl | rw [if_neg (by omega)] | rw [if_pos (by omega)])
 (try simp only [PU])
 refine wpAnyH_ready (rs := [13]) (by kernel_rfl) (by simp) ?_
 refine AllReadyH.cons (o := ⟨_, _, _, _, _, _⟩) rfl (fun K hK => ?step70015x0) ?more70015x0
 case more70015x0 => exact AllReadyH.nil
 go_simp
 refine hK.out _ _ ?hS70015x0 (fun H70015 => ?_)
 case hS70015x0 => first | (exact MK9.out _ (by solve_by_elim [X0, X1, X2, X3])) | ((try dsimp only); (exact MK9.out _ (by solve_by_elim [X0, X1, X2, X3])))
 clear hK K
 clear H70007
 (try simp only [PU])
 refine wpAnyH_ready (rs := [14]) (by kernel_rfl) (by simp) ?_
 refine AllReadyH.cons (o := ⟨_, _, _, _, _, _⟩) rfl (fun K hK => ?step70016x0) ?more70016x0
 case more70016x0 => exact AllReadyH.nil
 go_simp
 ((with_reducible refine (HB.out _ (by solve_by_elim [X0, X1, X2, X3])).mono ?_); rintro r v14 ⟨rfl, hy14⟩; replace hy14 : Ext w9 v14 := Ext.trans (a := w9) (by solve_by_elim [X0, X1, X2, X3]) hy14)
 refine hK.out _ _ ?hS70016x0 (fun H70016 => ?_)
 case hS70016x0 => first | (exact MK9.out _ (by solve_by_elim [X0, X1, X2, X3])) | ((try dsimp only); (exact MK9.out _ (by solve_by_elim [X0, X1, X2, X3])))
 clear hK K
 clear H70015
 (try simp only [PU])
 refine TK 15 (v := ?v70017) H70016 ?hy70017 ?_
 case hy70017 => (intro w hSw; (try dsimp only at hSw); go_simp <;> first | with_reducible rfl | rw [if_neg (by omega)] | rw [if_pos (by omega)])
 (try simp only [PU])
 refine TK 16 (v := ?v70018) H70016 ?hy70018 ?_
 case hy70018 => (intro w hSw; (try dsimp only at hSw); go_simp <;> first | with_reducible rfl | rw [if_neg (by omega)] | rw [if_pos (by omega)])
 (try simp only [PU])
 refine TK 17 (v := ?v70019) H70016 ?hy70019 ?_
 case hy70019 => (intro w hSw; (try dsimp only at hSw); go_simp <;> first | with_reducible rfl | rw [if_neg (by omega)] | rw [if_pos (by omega)])
 (try simp only [PU])
 refine TK 18 (v := ?v70020) H70016 ?hy70020 ?_
 case hy70020 => (intro w hSw; (try dsimp only at hSw); go_simp <;> first | with_reducible rfl | rw [if_neg (by omega)] | rw [if_pos (by omega)])
 (try simp only [PU])
 refine TK 19 (v := ?v70021) H70016 ?hy70021 ?_
 case hy70021 => (intro w hSw; (try dsimp only at hSw); go_simp <;> first | with_reducible rfl | rw [if_neg (by omega)] | rw [if_pos (by omega)])
 (try simp only [PU])
 refine TK 20 (v := ?v70022) H70016 ?hy70022 ?_
 case hy70022 => (intro w hSw; (try dsimp only at hSw); go_simp <;> first | with_reducible rfl | rw [if_neg (by omega)] | rw [if_pos (by omega)])
 (try simp only [PU])
 refine TK 21 (v := ?v70023) H70016 ?hy70023 ?_
 case hy70023 => (intro w hSw; (try dsimp only at hSw); go_simp <;> first | with_reducible rfl | rw [if_neg (by omega)] | rw [if_pos (by omega)])
 (try simp only [PU])
 refine TK 22 (v := ?v70024) H70016 ?hy70024 ?_
 case hy70024 => (intro w hSw; (try dsimp only at hSw); go_simp <;> first | with_reducible rfl | rw [if_neg (by omega)] | rw [if_pos (by omega)])
 (try simp only [PU])
 refine wpAnyH_ready (rs := [23]) (by kernel_rfl) (by simp) ?_
 refine AllReadyH.cons (o := ⟨_, _, _, _, _, _⟩) rfl (fun K hK => ?step70025x0) ?more70025x0
 case more70025x0 => exact AllReadyH.nil
 go_simp
 ((with_reducible refine (HS2.out _ (by solve_by_elim [X0, X1, X2, X3])).mono ?_); rintro r v23 ⟨rfl, hy23⟩; replace hy23 : Ext w9 v23 := Ext.trans (a := w9) (by solve_by_elim [X0, X1, X2, X3]) hy23)
 refine hK.out _ _ ?hS70025x0 (fun H70025 => ?_)
 case hS70025x0 => first | (exact MK9.out _ (by solve_by_elim [X0, X1, X2, X3])) | ((try dsimp only); (exact MK9.out _ (by solve_by_elim [X0, X1, X2, X3])))
 clear hK K
 clear H70016
 (try simp only [PU])
 refine TK 24 (v := ?v70026) H70025 ?hy70026 ?_
 case hy70026 => (intro w hSw; (try dsimp only at hSw); go_simp <;> first | with_reducible rfl | rw [if_neg (by omega)] | rw [if_pos (by omega)])
 (try simp only [PU])
 refine TK 25 (v := ?v70027) H70025 ?hy70027 ?_
 case hy70027 => (intro w hSw; (try dsimp only at hSw); go_simp <;> first | with_reducible rfl | rw [if_neg (by omega)] | rw [if_pos (by omega)])
 (try simp only [PU])
 refine TK 26 (v := ?v70028) H70025 ?hy70028 ?_
 case hy70028 => (intro w hSw; (try dsimp only at hSw); go_simp <;> first | with_reducible rfl | rw [if_neg (by omega)] | rw [if_pos (by omega)])
 (try simp only [PU])
 refine TK 27 (v := ?v70029) H70025 ?hy70029 ?_
 case hy70029 => (intro w hSw; (try dsimp only at hSw); go_simp <;> first | with_reducible rfl | rw [if_neg (by omega)] | rw [if_pos (by omega)])
 (try simp only [PU])
 refine TK 28 (v := ?v70030) H70025 ?hy70030 ?_
 case hy70030 => (intro w hSw; (try dsimp only at hSw); go_simp <;> first | with_reducible rfl | rw [if_neg (by omega)] | rw [if_pos (by omega)])
 (try simp only [PU])
 refine TK 29 (v := ?v70031) H70025 ?hy70031 ?_
 case hy70031 => (intro w hSw; (try dsimp only at hSw); go_simp <;> first | with_reducible rfl | rw [if_neg (by omega)] | rw [if_pos (by omega)])
 (try simp only [PU])
 refine TK 30 (v := ?v70032) H70025 ?hy70032 ?_
 case hy70032 => (intro w hSw; (try dsimp only at hSw); go_simp <;> first | with_reducible rfl | rw [if_neg (by omega)] | rw [if_pos (by omega)])
 (try simp only [PU])
 refine TK 31 (v := ?v70033) H70025 ?hy70033 ?_
 case hy70033 => (intro w hSw; (try dsimp only at hSw); go_simp <;> first | with_reducible rfl | rw [if_neg (by omega)] | rw [if_pos (by omega)])
 (try simp only [PU])
 refine TK 32 (v := ?v70034) H70025 ?hy70034 ?_
 case hy70034 => (intro w hSw; (try dsimp only at hSw); go_simp <;> first | with_reducible rfl | rw [if_neg (by omega)] | rw [if_pos (by omega)])
 (try simp only [PU])
 refine TK 33 (v := ?v70035) H70025 ?hy70035 ?_
 case hy70035 => (intro w hSw; (try dsimp only at hSw); go_simp <;> first | with_reducible rfl | rw [if_neg (by omega)] | rw [if_pos (by omega)])
 (try simp only [PU])
 refine TK 34 (v := ?v70036) H70025 ?hy70036 ?_
 case hy70036 => (intro w hSw; (try dsimp only at hSw); go_simp <;> first | with_reducible rfl | rw [if_neg (by omega)] | rw [if_pos (by omega)])
 (try simp only [PU])
 refine wpAnyH_ready (rs := [35]) (by kernel_rfl) (by simp) ?_
 refine AllReadyH.cons (o := ⟨_, _, _, _, _, _⟩) rfl (fun K hK => ?step70037x0) ?more70037x0
 case more70037x0 => exact AllReadyH.nil
 go_simp
 ((with_reducible refine (HV1.out _ (by solve_by_elim [X0, X1, X2, X3])).mono ?_); rintro r v35 ⟨rfl, hy35⟩; replace hy35 : Ext w9 v35 := Ext.trans (a := w9) (by solve_by_elim [X0, X1, X2, X3]) hy35)
 refine hK.out _ _ ?hS70037x0 (fun H70037 => ?_)
 case hS70037x0 => first | (exact MK9.out _ (by solve_by_elim [X0, X1, X2, X3])) | ((try dsimp only); (exact MK9.out _ (by solve_by_elim [X0, X1, X2, X3])))
 clear hK K
 clear H70025
 (try simp only [PU])
 refine TK 36 (v := ?v70038) H70037 ?hy70038 ?_
 case hy70038 => (intro w hSw; (try dsimp only at hSw); go_simp <;> first | with_reducible rfl | rw [if_neg (by omega)] | rw [if_pos (by omega)])
 (try simp only [PU])
 refine TK 37 (v := ?v70039) H70037 ?hy70039 ?_
 case hy70039 => (intro w hSw; (try dsimp only at hSw); go_simp <;> first | with_reducible rfl | rw [if_neg (by omega)] | rw [if_pos (by omega)])
 (try simp only [PU])
 refine wpAnyH_ready (rs := [38]) (by kernel_rfl) (by simp) ?_
 refine AllReadyH.cons (o := ⟨_, _, _, _, _, _⟩) rfl (fun K hK => ?step70040x0) ?more70040x0
 case more70040x0 => exact AllReadyH.nil
 go_simp
 refine hK.out _ _ ?hS70040x0 (fun H70040 => ?_)
 case hS70040x0 => first | (exact MK9.out _ (by solve_by_elim [X0, X1, X2, X3])) | ((try dsimp only); (exact MK9.out _ (by solve_by_elim [X0, X1, X2, X3])))
 clear hK K
 clear H70037
 (try simp only [PU])
 refine TK 39 (v := ?v70041) H70040 ?hy70041 ?_
 case hy70041 => (intro w hSw; (try dsimp only at hSw); go_simp <;> first | with_reducible rfl | rw [if_neg (by omega)] | rw [if_pos (by omega)])
 (try simp only [PU])
 refine wpAnyH_ready (rs := [40]) (by kernel_rfl) (by simp) ?_
 refine AllReadyH.cons (o := ⟨_, _, _, _, _, _⟩) rfl (fun K hK => ?step70042x0) ?more70042x0
 case more70042x0 => exact AllReadyH.nil
 go_simp
 ((with_reducible refine (lv_Val2 _).mono ?_); rintro r v40 ⟨rfl, hy40⟩; replace hy40 : Ext w9 v40 := Ext.trans (a := w9) (by solve_by_elim [X0, X1, X2, X3]) hy40)
 refine hK.out _ _ ?hS70042x0 (fun H70042 => ?_)
 case hS70042x0 => first | (exact MK9.out _ (by solve_by_elim [X0, X1, X2, X3])) | ((try dsimp only); (exact MK9.out _ (by solve_by_elim [X0, X1, X2, X3])))
 clear hK K
 clear H70040
 (try simp only [PU])
 refine TK 41 (v := ?v70043) H70042 ?hy70043 ?_
 case hy70043 => (intro w hSw; (try dsimp only at hSw); go_simp <;> first | with_reducible rfl | rw [if_neg (by omega)] | rw [if_pos (by omega)])
 (try simp only [PU])
 refine TK 42 (v := ?v70044) H70042 ?hy70044 ?_
 case hy70044 => (intro w hSw; (try dsimp only at hSw); go_simp <;> first | with_reducible rfl | rw [if_neg (by omega)] | rw [if_pos (by omega)])
 (try simp only [PU])
 refine wpAnyH_ready (rs := [43]) (by kernel_rfl) (by simp) ?_
 refine AllReadyH.cons (o := ⟨_, _, _, _, _, _⟩) rfl (fun K hK => ?step70045x0) ?more70045x0
 case more70045x0 => exact AllReadyH.nil
 go_simp
 refine hK.out _ _ ?hS70045x0 (fun H70045 => ?_)
 case hS70045x0 => first | (exact MK9.out _ (by solve_by_elim [X0, X1, X2, X3])) | ((try dsimp only); (exact MK9.out _ (by solve_by_elim [X0, X1, X2, X3])))
 clear hK K
 clear H70042
 (try simp only [PU])
 refine TK 44 (v := ?v70046) H70045 ?hy70046 ?_
 case hy70046 => (intro w hSw; (try dsimp only at hSw); go_simp <;> first | with_reducible rfl | rw [if_neg (by omega)] | rw [if_pos (by omega)])
 (try simp only [PU])
 refine wpAnyH_ready (rs := [45]) (by kernel_rfl) (by simp) ?_
 refine AllReadyH.cons (o := ⟨_, _, _, _, _, _⟩) rfl (fun K hK => ?step70047x0) ?more70047x0
 case more70047x0 => exact AllReadyH.nil
 go_simp
 ((with_reducible refine (lv_Val3 _).mono ?_); rintro r v45 ⟨rfl, hy45⟩; replace hy45 : Ext w9 v45 := Ext.trans (a := w9) (by solve_by_elim [X0, X1, X2, X3]) hy45)
 refine hK.out _ _ ?hS70047x0 (fun H70047 => ?_)
 case hS70047x0 => first | (exact MK9.out _ (by solve_by_elim [X0, X1, X2, X3])) | ((try dsimp only); (exact MK9.out _ (by solve_by_elim [X0, X1, X2, X3])))
 clear hK K
 clear H70045
 (try simp only [PU])
 refine TK 46 (v := ?v70048) H70047 ?hy70048 ?_
 case hy70048 => (intro w hSw; (try dsimp only at hSw); go_simp <;> first | with_reducible rfl | rw [if_neg (by omega)] | rw [if_pos (by omega)])
 (try simp only [PU])
 refine TK 47 (v := ?v70049) H70047 ?hy70049 ?_
 case hy70049 => (intro w hSw; (try dsimp only at hSw); go_simp <;> first | with_reducible rfl | rw [if_neg (by omega)] | rw [if_pos (by omega)])
 (try simp only [PU])
 refine TK 48 (v := ?v70050) H70047 ?hy70050 ?_
 case hy70050 => (intro w hSw; (try dsimp only at hSw); go_simp <;> first | with_reducible rfl | rw [if_neg (by omega)] | rw [if_pos (by omega)])
 (try simp only [PU])
 refine TK 49 (v := ?v70051) H70047 ?hy70051 ?_
 case hy70051 => (intro w hSw; (try dsimp only at hSw); go_simp <;> first | with_reducible rfl | rw [if_neg (by omega)] | rw [if_pos (by omega)])
 (try simp only [PU])
 refine TK 51 (v := ?v70052) H70047 ?hy70052 ?_
 case hy70052 => (intro w hSw; (try dsimp only at hSw); go_simp <;> first | with_reducible rfl | rw [if_neg (by omega)] | rw [if_pos (by omega)])
 (try simp only [PU])
 refine TK 52 (v := ?v70053) H70047 ?hy70053 ?_
 case hy70053 => (intro w hSw; (try dsimp only at hSw); go_simp <;> first | with_reducible rfl | rw [if_neg (by omega)] | rw [if_pos (by omega)])
 (try simp only [PU])
 refine TK 53 (v := ?v70054) H70047 ?hy70054 ?_
 case hy70054 => (intro w hSw; (try dsimp only at hSw); go_simp <;> first | with_reducible rfl | rw [if_neg (by omega)] | rw [if_pos (by omega)])
 (try simp only [PU])
 refine TK 54 (v := ?v70055) H70047 ?hy70055 ?_
 case hy70055 => (intro w hSw; (try dsimp only at hSw); go_simp <;> first | with_reducible rfl | rw [if_neg (by omega)] | rw [if_pos (by omega)])
 (try simp only [PU])
 refine TK 55 (v := ?v70056) H70047 ?hy70056 ?_
 case hy70056 => (intro w hSw; (try dsimp only at hSw); go_simp <;> first | with_reducible rfl | rw [if_neg (by omega)] | rw [if_pos (by omega)])
 (try simp only [PU])
 refine TK 56 (v := ?v70057) H70047 ?hy70057 ?_
 case hy70057 => (intro w hSw; (try dsimp only at hSw); go_simp <;> first | with_reducible rfl | rw [if_neg (by omega)] | rw [if_pos (by omega)])
 (try simp only [PU])
 refine wpAnyH_ready (rs := [50, 57]) (by kernel_rfl) (by simp) ?_
 refine AllReadyH.cons (o := ⟨_, _, _, _, _, _⟩) rfl (fun K hK => ?step70058x0) ?more70058x0
 case more70058x0 =>
  refine AllReadyH.cons (o := ⟨_, _, _, _, _, _⟩) rfl (fun K hK => ?step70058x1) ?more70058x1
  case more70058x1 => exact AllReadyH.nil
  go_simp
  refine hK.out _ _ ?hS70058x1 (fun H70058 => ?_)
  case hS70058x1 => first | (exact MK9.out _ (by solve_by_elim [X0, X1, X2, X3])) | ((try dsimp only); (exact MK9.out _ (by solve_by_elim [X0, X1, X2, X3])))
  clear hK K
  clear H70047
  (try simp only [PU])
  refine wpAnyH_ready (rs := [50]) (by kernel_rfl) (by simp) ?_
  refine AllReadyH.cons (o := ⟨_, _, _, _, _, _⟩) rfl (fun K hK => ?step70059x0) ?more70059x0
  case more70059x0 => exact AllReadyH.nil
  go_simp
  ((with_reducible refine (HRZ.out _ (by solve_by_elim [X0, X1, X2, X3])).mono ?_); rintro r v50 ⟨A50, c50, rfl, hU50, hl57, hy50⟩; replace hy50 : Ext w9 v50 := Ext.trans (a := w9) (by solve_by_elim [X0, X1, X2, X3]) hy50)
  refine hK.out _ _ ?hS70059x0 (fun H70059 => ?_)
  case hS70059x0 => first | (exact MK9.out _ (by solve_by_elim [X0, X1, X2, X3])) | ((try dsimp only); (exact MK9.out _ (by solve_by_elim [X0, X1, X2, X3])))
  clear hK K
  clear H70058
  (try simp only [PU])
  refine wpAnyH_ready (rs := [58]) (by kernel_rfl) (by simp) ?_
  refine AllReadyH.cons (o := ⟨_, _, _, _, _, _⟩) rfl (fun K hK => ?step70060x0) ?more70060x0
  case more70060x0 => exact AllReadyH.nil
  go_simp
  ((with_reducible refine (lv_Adj _ _ _ _ _ _ _ (Shares.ext hU50 (by solve_by_elim [X0, X1, X2, X3])) (Shares.ext hl57 (by solve_by_elim [X0, X1, X2, X3]))).mono ?_); rintro r v58 ⟨rfl, hy58⟩; replace hy58 : Ext w9 v58 := Ext.trans (a := w9) (by solve_by_elim [X0, X1, X2, X3]) hy58)
  refine hK.out _ _ ?hS70060x0 (fun H70060 => ?_)
  case hS70060x0 => first | (exact MK9.out _ (by solve_by_elim [X0, X1, X2, X3])) | ((try dsimp only); (exact MK9.out _ (by solve_by_elim [X0, X1, X2, X3])))
  clear hK K
  clear H70059
  (try simp only [PU])
  refine TK 59 (v := ?v70061) H70060 ?hy70061 ?_
  case hy70061 => (intro w hSw; (try dsimp only at hSw); go_simp <;> first | with_reducible rfl | rw [if_neg (by omega)] | rw [if_pos (by omega)])
  (try simp only [PU])
  refine TK 60 (v := ?v70062) H70060 ?hy70062 ?_
  case hy70062 => (intro w hSw; (try dsimp only at hSw); go_simp <;> first | with_reducible rfl | rw [if_neg (by omega)] | rw [if_pos (by omega)])
  (try simp only [PU])
  refine TK 61 (v := ?v70063) H70060 ?hy70063 ?_
  case hy70063 => (intro w hSw; (try dsimp only at hSw); go_simp <;> first | with_reducible rfl | rw [if_neg (by omega)] | rw [if_pos (by omega)])
  (try simp only [PU])
  refine wpAnyH_ready (rs := [62]) (by kernel_rfl) (by simp) ?_
  refine AllReadyH.cons (o := ⟨_, _, _, _, _, _⟩) rfl (fun K hK => ?step70064x0) ?more70064x0
  case more70064x0 => exact AllReadyH.nil
  go_simp
  ((with_reducible refine (HD.out _ (by solve_by_elim [X0, X1, X2, X3])).mono ?_); rintro r v62 ⟨rfl, hy62⟩; replace hy62 : Ext w9 v62 := Ext.trans (a := w9) (by solve_by_elim [X0, X1, X2, X3]) hy62)
  refine hK.out _ _ ?hS70064x0 (fun H70064 => ?_)
  case hS70064x0 => first | (exact MK9.out _ (by solve_by_elim [X0, X1, X2, X3])) | ((try dsimp only); (exact MK9.out _ (by solve_by_elim [X0, X1, X2, X3])))
  clear hK K
  clear H70060
  (try simp only [PU])
  refine TK 63 (v := ?v70065) H70064 ?hy70065 ?_
  case hy70065 => (intro w hSw; (try dsimp only at hSw); go_simp <;> first | with_reducible rfl | rw [if_neg (by omega)] | rw [if_pos (by omega)])
  (try simp only [PU])
  refine TK 64 (v := ?v70066) H70064 ?hy70066 ?_
  case hy70066 => (intro w hSw; (try dsimp only at hSw); go_simp <;> first | with_reducible rfl | rw [if_neg (by omega)] | rw [if_pos (by omega)])
  (try simp only [PU])
  refine TK 65 (v := ?v70067) H70064 ?hy70067 ?_
  case hy70067 => (intro w hSw; (try dsimp only at hSw); go_simp <;> first | with_reducible rfl | rw [if_neg (by omega)] | rw [if_pos (by omega)])
  (try simp only [PU])
  refine TK 66 (v := ?v70068) H70064 ?hy70068 ?_
  case hy70068 => (intro w hSw; (try dsimp only at hSw); go_simp <;> first | with_reducible rfl | rw [if_neg (by omega)] | rw [if_pos (by omega)])
  (try simp only [PU])
  refine wpAnyH_ready (rs := [67]) (by kernel_rfl) (by simp) ?_
  refine AllReadyH.cons (o := ⟨_, _, _, _, _, _⟩) rfl (fun K hK => ?step70069x0) ?more70069x0
  case more70069x0 => exact AllReadyH.nil
  go_simp
  ((with_reducible refine (HE.out _ (by solve_by_elim [X0, X1, X2, X3])).mono ?_); rintro r v67 ⟨A67, c67, rfl, hy67⟩; replace hy67 : Ext w9 v67 := Ext.trans (a := w9) (by solve_by_elim [X0, X1, X2, X3]) hy67)
  refine hK.out _ _ ?hS70069x0 (fun H70069 => ?_)
  case hS70069x0 => first | (exact MK9.out _ (by solve_by_elim [X0, X1, X2, X3])) | ((try dsimp only); (exact MK9.out _ (by solve_by_elim [X0, X1, X2, X3])))
  clear hK K
  clear H70064
  (try simp only [PU])
  refine TK 68 (v := ?v70070) H70069 ?hy70070 ?_
  case hy70070 => (intro w hSw; (try dsimp only at hSw); go_simp <;> first | with_reducible rfl | rw [if_neg (by omega)] | rw [if_pos (by omega)])
  (try simp only [PU])
  refine TK 69 (v := ?v70071) H70069 ?hy70071 ?_
  case hy70071 => (intro w hSw; (try dsimp only at hSw); go_simp <;> first | with_reducible rfl | rw [if_neg (by omega)] | rw [if_pos (by omega)])
  (try simp only [PU])
  refine TK 70 (v := ?v70072) H70069 ?hy70072 ?_
  case hy70072 => (intro w hSw; (try dsimp only at hSw); go_simp <;> first | with_reducible rfl | rw [if_neg (by omega)] | rw [if_pos (by omega)])
  (try simp only [PU])
  refine TK 71 (v := ?v70073) H70069 ?hy70073 ?_
  case hy70073 => (intro w hSw; (try dsimp only at hSw); go_simp <;> first | with_reducible rfl | rw [if_neg (by omega)] | rw [if_pos (by omega)])
  (try simp only [PU])
  refine wpAnyH_done (by kernel_rfl) ?_ _
  clear H70069
  go_wp2_with fail
  go_ret
  exact ⟨rfl, HX9.out.trans (by solve_by_elim [X0, X1, X2, X3])⟩
 go_simp
 ((with_reducible refine (HR.out _ (by solve_by_elim [X0, X1, X2, X3])).mono ?_); rintro r v50 ⟨A50, c50, rfl, hU50, hy50⟩; replace hy50 : Ext w9 v50 := Ext.trans (a := w9) (by solve_by_elim [X0, X1, X2, X3]) hy50)
 refine hK.out _ _ ?hS70058x0 (fun H70058 => ?_)
 case hS70058x0 => first | (exact MK9.out _ (by solve_by_elim [X0, X1, X2, X3])) | ((try dsimp only); (exact MK9.out _ (by solve_by_elim [X0, X1, X2, X3])))
 clear hK K
 clear H70047
 (try simp only [PU])
 refine wpAnyH_ready (rs := [57]) (by kernel_rfl) (by simp) ?_
 refine AllReadyH.cons (o := ⟨_, _, _, _, _, _⟩) rfl (fun K hK => ?step70074x0) ?more70074x0
 case more70074x0 => exact AllReadyH.nil
 go_simp
 refine hK.out _ _ ?hS70074x0 (fun H70074 => ?_)
 case hS70074x0 => first | (exact MK9.out _ (by solve_by_elim [X0, X1, X2, X3])) | ((try dsimp only); (exact MK9.out _ (by solve_by_elim [X0, X1, X2, X3])))
 clear hK K
 clear H70058
 (try simp only [PU])
 refine wpAnyH_ready (rs := [58]) (by kernel_rfl) (by simp) ?_
 refine AllReadyH.cons (o := ⟨_, _, _, _, _, _⟩) rfl (fun K hK => ?step70075x0) ?more70075x0
 case more70075x0 => exact AllReadyH.nil
 go_simp
 ((with_reducible refine (lv_Adj _ _ _ _ _ _ _ (Shares.ext hU50 (by solve_by_elim [X0, X1, X2, X3])) (sh_two _ ⟨1, 2, 1⟩ ⟨1, 3, 2⟩)).mono ?_); rintro r v58 ⟨rfl, hy58⟩; replace hy58 : Ext w9 v58 := Ext.trans (a := w9) (by solve_by_elim [X0, X1, X2, X3]) hy58)
 refine hK.out _ _ ?hS70075x0 (fun H70075 => ?_)
 case hS70075x0 => first | (exact MK9.out _ (by solve_by_elim [X0, X1, X2, X3])) | ((try dsimp only); (exact MK9.out _ (by solve_by_elim [X0, X1, X2, X3])))
 clear hK K
 clear H70074
 (try simp only [PU])
 refine TK 59 (v := ?v70076) H70075 ?hy70076 ?_
 case hy70076 => (intro w hSw; (try dsimp only at hSw); go_simp <;> first | with_reducible rfl | rw [if_neg (by omega)] | rw [if_pos (by omega)])
 (try simp only [PU])
 refine TK 60 (v := ?v70077) H70075 ?hy70077 ?_
 case hy70077 => (intro w hSw; (try dsimp only at hSw); go_simp <;> first | with_reducible rfl | rw [if_neg (by omega)] | rw [if_pos (by omega)])
 (try simp only [PU])
 refine TK 61 (v := ?v70078) H70075 ?hy70078 ?_
 case hy70078 => (intro w hSw; (try dsimp only at hSw); go_simp <;> first | with_reducible rfl | rw [if_neg (by omega)] | rw [if_pos (by omega)])
 (try simp only [PU])
 refine wpAnyH_ready (rs := [62]) (by kernel_rfl) (by simp) ?_
 refine AllReadyH.cons (o := ⟨_, _, _, _, _, _⟩) rfl (fun K hK => ?step70079x0) ?more70079x0
 case more70079x0 => exact AllReadyH.nil
 go_simp
 ((with_reducible refine (HD.out _ (by solve_by_elim [X0, X1, X2, X3])).mono ?_); rintro r v62 ⟨rfl, hy62⟩; replace hy62 : Ext w9 v62 := Ext.trans (a := w9) (by solve_by_elim [X0, X1, X2, X3]) hy62)
 refine hK.out _ _ ?hS70079x0 (fun H70079 => ?_)
 case hS70079x0 => first | (exact MK9.out _ (by solve_by_elim [X0, X1, X2, X3])) | ((try dsimp only); (exact MK9.out _ (by solve_by_elim [X0, X1, X2, X3])))
 clear hK K
 clear H70075
 (try simp only [PU])
 refine TK 63 (v := ?v70080) H70079 ?hy70080 ?_
 case hy70080 => (intro w hSw; (try dsimp only at hSw); go_simp <;> first | with_reducible rfl | rw [if_neg (by omega)] | rw [if_pos (by omega)])
 (try simp only [PU])
 refine TK 64 (v := ?v70081) H70079 ?hy70081 ?_
 case hy70081 => (intro w hSw; (try dsimp only at hSw); go_simp <;> first | with_reducible rfl | rw [if_neg (by omega)] | rw [if_pos (by omega)])
 (try simp only [PU])
 refine TK 65 (v := ?v70082) H70079 ?hy70082 ?_
 case hy70082 => (intro w hSw; (try dsimp only at hSw); go_simp <;> first | with_reducible rfl | rw [if_neg (by omega)] | rw [if_pos (by omega)])
 (try simp only [PU])
 refine TK 66 (v := ?v70083) H70079 ?hy70083 ?_
 case hy70083 => (intro w hSw; (try dsimp only at hSw); go_simp <;> first | with_reducible rfl | rw [if_neg (by omega)] | rw [if_pos (by omega)])
 (try simp only [PU])
 refine wpAnyH_ready (rs := [67]) (by kernel_rfl) (by simp) ?_
 refine AllReadyH.cons (o := ⟨_, _, _, _, _, _⟩) rfl (fun K hK => ?step70084x0) ?more70084x0
 case more70084x0 => exact AllReadyH.nil
 go_simp
 ((with_reducible refine (HE.out _ (by solve_by_elim [X0, X1, X2, X3])).mono ?_); rintro r v67 ⟨A67, c67, rfl, hy67⟩; replace hy67 : Ext w9 v67 := Ext.trans (a := w9) (by solve_by_elim [X0, X1, X2, X3]) hy67)
 refine hK.out _ _ ?hS70084x0 (fun H70084 => ?_)
 case hS70084x0 => first | (exact MK9.out _ (by solve_by_elim [X0, X1, X2, X3])) | ((try dsimp only); (exact MK9.out _ (by solve_by_elim [X0, X1, X2, X3])))
 clear hK K
 clear H70079
 (try simp only [PU])
 refine TK 68 (v := ?v70085) H70084 ?hy70085 ?_
 case hy70085 => (intro w hSw; (try dsimp only at hSw); go_simp <;> first | with_reducible rfl | rw [if_neg (by omega)] | rw [if_pos (by omega)])
 (try simp only [PU])
 refine TK 69 (v := ?v70086) H70084 ?hy70086 ?_
 case hy70086 => (intro w hSw; (try dsimp only at hSw); go_simp <;> first | with_reducible rfl | rw [if_neg (by omega)] | rw [if_pos (by omega)])
 (try simp only [PU])
 refine TK 70 (v := ?v70087) H70084 ?hy70087 ?_
 case hy70087 => (intro w hSw; (try dsimp only at hSw); go_simp <;> first | with_reducible rfl | rw [if_neg (by omega)] | rw [if_pos (by omega)])
 (try simp only [PU])
 refine TK 71 (v := ?v70088) H70084 ?hy70088 ?_
 case hy70088 => (intro w hSw; (try dsimp only at hSw); go_simp <;> first | with_reducible rfl | rw [if_neg (by omega)] | rw [if_pos (by omega)])
 (try simp only [PU])
 refine wpAnyH_done (by kernel_rfl) ?_ _
 clear H70084
 go_wp2_with fail
 go_ret
 exact ⟨rfl, HX9.out.trans (by solve_by_elim [X0, X1, X2, X3])⟩
end Go.Proofs.YtnheioehadldmaaGreat

/- THE WALK over the law ColumnBuilds. -/
namespace Go.Proofs.YtnheioehadldmaaGreat
open Go.RowKit
theorem same_self (c : Col) (ok ok' : Nat → Prop) (A B C D E F G H : Option Addr) (k0 k1 k2 k3 j0 j1 j2 j3 : Nat) (w : World) (ha : ColAt w ok A B C D c) (hb : ColAt w ok' E F G H c) :
  Calls Tryz.prog 8 #[agC c A B C D k0 k1 k2 k3, agC c E F G H j0 j1 j2 j3] w fun e w' => e = .returned (.bool true) ∧ Ext w w' :=
 (r12_Same c c ok ok' A B C D E F G H k0 k1 k2 k3 j0 j1 j2 j3 w ha hb).mono (fun _ _ ⟨h1, h2⟩ => ⟨h1.trans (by simp), h2⟩)
set_option maxRecDepth 100000 in
set_option maxHeartbeats 3200000 in
theorem l_ColumnBuilds (g : GraphG) (typ : ByteArray) (dir : Int) (ok : Nat → Prop) (A B : Option Addr) (c d : Nat) (w : World) (hg : GraphAt w ok A B g) (hsz : SzG g) :
  Calls Tryz.prog 3 #[.agg #[.slice A g.nodes.length c, .slice B g.edges.length d, .int .i64 g.nn, .int .i64 g.ne], .string typ, .int .i64 dir] w fun e w' => e = .returned (.bool true) ∧ Ext w w' := by
 obtain ⟨q, w1, hq, hw1, g0, g1, g2, g3, hx1⟩ := box_graph w A B c d g 25
 have HW := Lib.hid hw1
 have HQ := Lib.hid hq
 have HX1 := Lib.hid hx1
 have HG := Lib.hid (hg.ext hx1)
 have MK1 := Lib.hid (fun V (e : Ext w1 V) => (⟨e.cell g0, e.cell g1, e.cell g2, e.cell g3⟩ : (V.cell? ⟨q, 0, none⟩ = some (.slice A g.nodes.length c) ∧ V.cell? ⟨q, 1, none⟩ = some (.slice B g.edges.length d) ∧ V.cell? ⟨q, 2, none⟩ = some (.int .i64 g.nn) ∧ V.cell? ⟨q, 3, none⟩ = some (.int .i64 g.ne))))
 clear hw1 hq hg hx1
 go_enter Tryz.func3, Tryz.ntmps3
 go_upto_region 1 with (fail)
 rw [← HW.out, ← HQ.out]
 clear HW HQ
 by_cases hl : 40 < g.nodes.length
 ·have e1 : decide (40 < g.nodes.length) = true := decide_eq_true hl
  have e2 : decide (40 < (g.nodes.length : Int)) = true := decide_eq_true (by omega)
  go_wp2_with (go_at_call 5; ((with_reducible refine ((l_lives _)).mono ?_); rintro e v9 ⟨rfl, hy9⟩))
  go_ret
  exact ⟨rfl, HX1.out.trans hy9⟩
 ·have e1 : decide (40 < g.nodes.length) = false := decide_eq_false hl
  have e2 : decide (40 < (g.nodes.length : Int)) = false := decide_eq_false (by omega)
  by_cases hn : 80 < g.edges.length
  ·have e3 : decide (80 < g.edges.length) = true := decide_eq_true hn
   have e4 : decide (80 < (g.edges.length : Int)) = true := decide_eq_true (by omega)
   go_wp2_with (go_at_call 5; ((with_reducible refine ((l_lives _)).mono ?_); rintro e v9 ⟨rfl, hy9⟩))
   go_ret
   exact ⟨rfl, HX1.out.trans hy9⟩
  ·have e3 : decide (80 < g.edges.length) = false := decide_eq_false hn
   have e4 : decide (80 < (g.edges.length : Int)) = false := decide_eq_false (by omega)
   have HO1 := Lib.hid (co_Build g typ dir ok A B c d w1 HG.out (by omega))
   have HO2 := Lib.hid (fun V (e : Ext w1 V) => r12_Build g typ dir ok A B c d V (HG.out.ext e) hsz (by omega))
   generalize buildR g typ dir = R at *
   obtain ⟨ec, C⟩ := R
   simp only at HO1 HO2
   unfold agC at HO1 HO2
   clear hl hn HG hsz
   go_upto_region 4 with (go_at_call 6; ((with_reducible refine (HO1.out).mono ?_); rintro e w2 ⟨A0, A1, A2, A3, k0, k1, k2, k3, rfl, hc1, hx1⟩; clear HO1))
   clear e1 e2 e3 e4 g0 g1 g2 g3
   obtain ⟨q1, w3, hq1, hw3, hb2, hx2⟩ := box_colV w2 (.slice A0 C.nodes.length k0) (.slice A1 C.first.length k1) (.slice A2 C.tos.length k2) (.slice A3 C.edges.length k3) 29
   rw [← hw3, ← hq1]
   have HX3 := Lib.hid (hx1.trans hx2)
   have HO3 := Lib.hid (HO2.out w3 HX3.out)
   have HB2 := Lib.hid hb2
   have HC2 := Lib.hid (hc1.ext hx2)
   obtain ⟨g0, g1, g2, g3⟩ := MK1.out w3 HX3.out
   clear HO2 hq1 hw3 hb2 hx1 hx2 hc1 MK1
   go_upto_region 5 with (go_at_call 7; ((with_reducible refine (HO3.out).mono ?_); rintro e w4 ⟨B0, B1, B2, B3, j0, j1, j2, j3, rfl, hc3, hx3⟩; clear HO3))
   obtain ⟨p, w5, hp, hw5, hb4, hx4⟩ := box_colV w4 (.slice B0 C.nodes.length j0) (.slice B1 C.first.length j1) (.slice B2 C.tos.length j2) (.slice B3 C.edges.length j3) 29
   rw [← hw5, ← hp]
   have hx34 := hx3.trans hx4
   obtain ⟨a0, a1, a2, a3⟩ := HB2.out.grown (hx34.gr none) (by simp)
   obtain ⟨b0, b1, b2, b3⟩ := hb4
   have HSM := Lib.hid (same_self C _ _ A0 A1 A2 A3 B0 B1 B2 B3 k0 k1 k2 k3 j0 j1 j2 j3 w5 (HC2.out.ext hx34) (hc3.ext hx4))
   have HX4 := Lib.hid ((HX1.out.trans HX3.out).trans hx34)
   unfold agC at HSM
   clear hp hw5 hx3 hx4 hx34 hc3 HC2 HB2 g0 g1 g2 g3
   go_wp2_with (first | (go_at_call 8; ((with_reducible refine (HSM.out).mono ?_); rintro e w6 ⟨rfl, hx5⟩; clear HSM)) | (go_at_call 5; ((with_reducible refine ((l_lives _)).mono ?_); rintro e v9 ⟨rfl, hy9⟩)))
   go_ret
   exact ⟨rfl, (HX4.out.trans hx5).trans hy9⟩
end Go.Proofs.YtnheioehadldmaaGreat

/- WHAT THE ROWS OF CHAPTER 12 LIST (nothing); entries, columns, bytes that come in. -/
namespace Go.Proofs.YtnheioehadldmaaGreat
open Go.ChangeShapes Go.WideShapes Go.ChangeAt Go.RowKit
open Go.ChangeMaps (open_string shut_string)
abbrev laidList : List (String × DataW Unit) := Rows.columnBuildsRow.laid
/-- The laid heap meets the condition. -/
theorem door_met (os : Os) (args : Array Value) : laidMetH Tryz.prog laidList ((World.laidAll Tryz.prog os laidList).forCall (fun _ _ => 0) ⟨#[], args, []⟩).memory := by
 rw [MakeChecks.laidMetH_plain _ _ _ (by kernel_rfl)]
 exact laidMet_laidAll _ (by kernel_rfl) (by kernel_rfl)
section
variable {H : Type} {enc : TypeId × Value → H} {w : World} {base : Nat} {spare : Nat → Bool} {held : Bool}
end
end Go.Proofs.YtnheioehadldmaaGreat
