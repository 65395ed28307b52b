/- PARTS OF THE WALKS, joined: CpL, CqH, CLaidZ, CqB, CqC, CqD. -/
import Derived.Test.YtnheioehadldmaaGreatR20
import Derived.Test.YtnheioehadldmaaGreatR18
import Derived.Test.YtnheioehadldmaaGreatR19
import Derived.Test.YtnheioehadldmaaGreatR17
import Derived.Test.YtnheioehadldmaaGreatR12
import Derived.Test.YtnheioehadldmaaGreatR05
/- THE WALK over the law's lives. -/
namespace Go.Proofs.YtnheioehadldmaaGreat
open Go.RowKit
theorem sh_two (w : World) (x y : Sh) : Shares (w.alloc (.cells #[.int .i64 x.id, .int .i64 x.n, .int .i64 x.d, .int .i64 y.id, .int .i64 y.n, .int .i64 y.d] 41)) (fun _ => True) (some ⟨w.heap.size, 0, none⟩) [x, y] := by
 refine ⟨by show 2 ≤ 140737488355328; decide, fun _ => ⟨_, _, rfl, fun k hk => ?_⟩⟩
 have hk2 : k = 0 ∨ k = 1 := by have h : k < 2 := hk; omega
 rcases hk2 with rfl | rfl
 ·exact ⟨trivial, by go_simp, by go_simp, by go_simp⟩
 ·exact ⟨trivial, by go_simp, by go_simp, by go_simp⟩
theorem by_seven (w : World) : Byts (w.alloc (.cells #[.int .u8 1, .int .u8 1, .int .u8 2, .int .u8 2, .int .u8 2, .int .u8 2, .int .u8 2] 5)) (fun _ => True) (some ⟨w.heap.size, 0, none⟩) [1, 1, 2, 2, 2, 2, 2] := by
 refine ⟨by show 7 ≤ 140737488355328; decide, fun _ => ⟨_, _, rfl, fun k hk => ?_⟩⟩
 have hk7 : k = 0 ∨ k = 1 ∨ k = 2 ∨ k = 3 ∨ k = 4 ∨ k = 5 ∨ k = 6 := by have h : k < 7 := hk; omega
 rcases hk7 with rfl | rfl | rfl | rfl | rfl | rfl | rfl <;> exact ⟨trivial, by go_simp⟩
theorem by_three (w : World) : Byts (w.alloc (.cells #[.int .u8 1, .int .u8 1, .int .u8 0] 5)) (fun _ => True) (some ⟨w.heap.size, 0, none⟩) [1, 1, 0] := by
 refine ⟨by show 3 ≤ 140737488355328; decide, fun _ => ⟨_, _, rfl, fun k hk => ?_⟩⟩
 have hk3 : k = 0 ∨ k = 1 ∨ k = 2 := by have h : k < 3 := hk; omega
 rcases hk3 with rfl | rfl | rfl <;> exact ⟨trivial, by go_simp⟩
theorem nu_one (w : World) (x : Int) : Nums (w.alloc (.cells #[.int .i64 x] 3)) (fun _ => True) (some ⟨w.heap.size, 0, none⟩) [x] := by
 refine ⟨by show 1 ≤ 140737488355328; decide, fun _ => ⟨_, _, rfl, fun k hk => ?_⟩⟩
 have hk1 : k = 0 := by have h : k < 1 := hk; omega
 subst hk1
 exact ⟨trivial, by go_simp⟩
theorem nu_two (w : World) (x y : Int) : Nums (w.alloc (.cells #[.int .i64 x, .int .i64 y] 3)) (fun _ => True) (some ⟨w.heap.size, 0, none⟩) [x, y] := by
 refine ⟨by show 2 ≤ 140737488355328; decide, fun _ => ⟨_, _, rfl, fun k hk => ?_⟩⟩
 have hk2 : k = 0 ∨ k = 1 := by have h : k < 2 := hk; omega
 rcases hk2 with rfl | rfl <;> exact ⟨trivial, by go_simp⟩
theorem lv_Of1 (W : World) : Calls Tryz.prog 14 #[.slice (some ⟨W.heap.size, 0, none⟩) 2 2] (W.alloc (.cells #[.int .i64 1, .int .i64 3, .int .i64 2, .int .i64 1, .int .i64 2, .int .i64 1] 41)) fun e w' => ∃ A B C D k0 k1 k2 k3, e = .returned (.tuple #[.agg #[.slice A 1 k0, .slice B 2 k1, .slice C 2 k2, .slice D 2 k3], .int .i64 0]) ∧ ColAt w' (fun _ => True) A B C D wantC ∧ Ext (W.alloc (.cells #[.int .i64 1, .int .i64 3, .int .i64 2, .int .i64 1, .int .i64 2, .int .i64 1] 41)) w' := by
 have h := co_Of listL _ _ 2 _ (sh_two W ⟨1, 3, 2⟩ ⟨1, 2, 1⟩) (by decide)
 rw [live_0] at h
 exact h.mono (fun e w' ⟨A, B, C, D, k0, k1, k2, k3, h1, h2, h3⟩ => ⟨A, B, C, D, k0, k1, k2, k3, h1, h2.to (fun _ _ => trivial), h3⟩)
theorem lv_Of2 (W : World) : Calls Tryz.prog 14 #[.slice (some ⟨W.heap.size, 0, none⟩) 2 2] (W.alloc (.cells #[.int .i64 1, .int .i64 2, .int .i64 7, .int .i64 3, .int .i64 4, .int .i64 7] 41)) fun e w' => ∃ A B C D k0 k1 k2 k3, e = .returned (.tuple #[.agg #[.slice A 0 k0, .slice B 0 k1, .slice C 0 k2, .slice D 0 k3], .int .i64 7]) ∧ ColAt w' (fun _ => True) A B C D noCol ∧ Ext W w' := by
 have h := co_Of [⟨1, 2, 7⟩, ⟨3, 4, 7⟩] _ _ 2 _ (sh_two W ⟨1, 2, 7⟩ ⟨3, 4, 7⟩) (by decide)
 rw [live_1] at h
 exact h.mono (fun e w' ⟨A, B, C, D, k0, k1, k2, k3, h1, h2, h3⟩ => ⟨A, B, C, D, k0, k1, k2, k3, h1, h2.to (fun _ _ => trivial), ((Ext.refl W).alloc _).trans h3⟩)
theorem lv_Dec1 (W : World) : Calls Tryz.prog 9 #[.slice (some ⟨W.heap.size, 0, none⟩) 7 7] (W.alloc (.cells #[.int .u8 1, .int .u8 1, .int .u8 2, .int .u8 2, .int .u8 2, .int .u8 2, .int .u8 2] 5)) fun e w' => ∃ A B C D k0 k1 k2 k3, e = .returned (.tuple #[.agg #[.slice A 1 k0, .slice B 2 k1, .slice C 2 k2, .slice D 2 k3], .int .i64 0]) ∧ ColAt w' (fun _ => True) A B C D wantC ∧ Ext W w' := by
 have h := co_Decode [1, 1, 2, 2, 2, 2, 2] _ _ 7 _ (by_seven W) (by decide) (by decide) (by decide)
 rw [live_3] at h
 exact h.mono (fun e w' ⟨A, B, C, D, k0, k1, k2, k3, h1, h2, h3⟩ => ⟨A, B, C, D, k0, k1, k2, k3, h1, h2.to (fun _ _ => trivial), ((Ext.refl W).alloc _).trans h3⟩)
theorem lv_Dec2 (W : World) : Calls Tryz.prog 9 #[.slice (some ⟨W.heap.size, 0, none⟩) 3 3] (W.alloc (.cells #[.int .u8 1, .int .u8 1, .int .u8 0] 5)) fun e w' => ∃ A B C D k0 k1 k2 k3, e = .returned (.tuple #[.agg #[.slice A 0 k0, .slice B 0 k1, .slice C 0 k2, .slice D 0 k3], .int .i64 1]) ∧ ColAt w' (fun _ => True) A B C D noCol ∧ Ext W w' := by
 have h := co_Decode [1, 1, 0] _ _ 3 _ (by_three W) (by decide) (by decide) (by decide)
 rw [live_4] at h
 exact h.mono (fun e w' ⟨A, B, C, D, k0, k1, k2, k3, h1, h2, h3⟩ => ⟨A, B, C, D, k0, k1, k2, k3, h1, h2.to (fun _ _ => trivial), ((Ext.refl W).alloc _).trans h3⟩)
theorem lv_Bld (W : World) : Calls Tryz.prog 6 #[.agg #[.slice none 0 0, .slice none 0 0, .int .i64 1, .int .i64 1], .string ⟨#[]⟩, .int .i64 3] W fun e w' => ∃ A B C D k0 k1 k2 k3, e = .returned (.tuple #[.agg #[.slice A 0 k0, .slice B 0 k1, .slice C 0 k2, .slice D 0 k3], .int .i64 1]) ∧ ColAt w' (fun _ => True) A B C D noCol ∧ Ext W w' := by
 have h := co_Build ⟨[], [], 1, 1⟩ ByteArray.empty 3 (fun _ => True) none none 0 0 W ⟨SliceR.nil _ _ _, SliceR.nil _ _ _⟩ ⟨Nat.zero_le _, Nat.zero_le _⟩
 rw [live_5] at h
 exact h.mono (fun e w' ⟨A, B, C, D, k0, k1, k2, k3, h1, h2, h3⟩ => ⟨A, B, C, D, k0, k1, k2, k3, h1, h2.to (fun _ _ => trivial), h3⟩)
theorem lv_Enc (ok : Nat → Prop) (E0 E1 E2 E3 : Option Addr) (j0 j1 j2 j3 : Nat) (W : World) (hv : ColAt W ok E0 E1 E2 E3 wantC) : Calls Tryz.prog 12 #[.agg #[.slice E0 1 j0, .slice E1 2 j1, .slice E2 2 j2, .slice E3 2 j3]] W fun e w' => ∃ A' c', e = .returned (.slice A' 7 c') ∧ Byts w' (fun _ => True) A' [1, 1, 2, 2, 2, 2, 2] ∧ Ext W w' := by
 have h := co_Encode wantC ok E0 E1 E2 E3 j0 j1 j2 j3 W hv ⟨by decide, by decide⟩
 rw [live_2] at h
 exact h.mono (fun e w' ⟨A, c, h1, _, h2, h3⟩ => ⟨A, c, h1, SliceR.mono h2 (fun _ _ _ _ hx => ⟨trivial, hx.2⟩), h3⟩)
theorem lv_Same (ok : Nat → Prop) (E0 E1 E2 E3 : Option Addr) (j0 j1 j2 j3 : Nat) (W : World) (ok' : Nat → Prop) (A0 A1 A2 A3 : Option Addr) (k0 k1 k2 k3 : Nat) (hv : ColAt W ok E0 E1 E2 E3 wantC) (hu : ColAt W ok' A0 A1 A2 A3 wantC) : Calls Tryz.prog 8 #[.agg #[.slice A0 1 k0, .slice A1 2 k1, .slice A2 2 k2, .slice A3 2 k3], .agg #[.slice E0 1 j0, .slice E1 2 j1, .slice E2 2 j2, .slice E3 2 j3]] W fun e w' => e = .returned (.bool true) ∧ Ext W w' :=
 (r12_Same wantC wantC ok' ok A0 A1 A2 A3 E0 E1 E2 E3 k0 k1 k2 k3 j0 j1 j2 j3 W hu hv).mono (fun e w' ⟨h1, h2⟩ => ⟨h1.trans (by simp), h2⟩)
theorem lv_Byt (W : World) (ok : Nat → Prop) (A : Option Addr) (c : Nat) (hv : Byts W ok A [1, 1, 2, 2, 2, 2, 2]) : Calls Tryz.prog 11 #[.slice A 7 c, .slice (some ⟨W.heap.size, 0, none⟩) 7 7] (W.alloc (.cells #[.int .u8 1, .int .u8 1, .int .u8 2, .int .u8 2, .int .u8 2, .int .u8 2, .int .u8 2] 5)) fun e w' => e = .returned (.bool true) ∧ Ext W w' :=
 (r12_Bytes [1, 1, 2, 2, 2, 2, 2] [1, 1, 2, 2, 2, 2, 2] ok (fun _ => True) A _ c 7 _ (SliceR.mono hv (fun _ _ _ _ hx => ⟨hx.1, ((Ext.refl W).alloc _).cell hx.2⟩)) (by_seven W) (by decide) (by decide)).mono (fun e w' ⟨h1, h2⟩ => ⟨h1, ((Ext.refl W).alloc _).trans h2⟩)
theorem lv_Val (ok : Nat → Prop) (E0 E1 E2 E3 : Option Addr) (j0 j1 j2 j3 : Nat) (W : World) (hv : ColAt W ok E0 E1 E2 E3 wantC) : Calls Tryz.prog 15 #[.agg #[.slice E0 1 j0, .slice E1 2 j1, .slice E2 2 j2, .slice E3 2 j3]] W fun e w' => e = .returned (.bool true) ∧ Ext W w' :=
 (co_Valid wantC ok E0 E1 E2 E3 j0 j1 j2 j3 W hv (by decide)).mono (fun e w' ⟨h1, h2⟩ => ⟨by rw [h1, live_b], h2⟩)
theorem lv_Val2 (W : World) : Calls Tryz.prog 15 #[.agg #[.slice none 0 0, .slice (some ⟨W.heap.size, 0, none⟩) 1 1, .slice none 0 0, .slice none 0 0]] (W.alloc (.cells #[.int .i64 0] 3)) fun e w' => e = .returned (.bool true) ∧ Ext W w' :=
 (co_Valid ⟨[], [0], [], []⟩ (fun _ => True) none _ none none 0 1 0 0 _ ⟨SliceR.nil _ _ _, nu_one W 0, SliceR.nil _ _ _, SliceR.nil _ _ _⟩ (by decide)).mono (fun e w' ⟨h1, h2⟩ => ⟨by rw [h1, live_6], ((Ext.refl W).alloc _).trans h2⟩)
theorem lv_Val3 (W : World) : Calls Tryz.prog 15 #[.agg #[.slice (some ⟨W.heap.size, 0, none⟩) 1 1, .slice none 0 0, .slice none 0 0, .slice none 0 0]] (W.alloc (.cells #[.int .i64 1] 3)) fun e w' => e = .returned (.bool false) ∧ Ext W w' :=
 (co_Valid ⟨[1], [], [], []⟩ (fun _ => True) _ none none none 1 0 0 0 _ ⟨nu_one W 1, SliceR.nil _ _ _, SliceR.nil _ _ _, SliceR.nil _ _ _⟩ (by decide)).mono (fun e w' ⟨h1, h2⟩ => ⟨by rw [h1, live_7], ((Ext.refl W).alloc _).trans h2⟩)
def rowL : List Sh := [⟨1, 2, 1⟩, ⟨1, 3, 2⟩]
theorem lv_Row (ok : Nat → Prop) (E0 E1 E2 E3 : Option Addr) (j0 j1 j2 j3 : Nat) (W : World) (hv : ColAt W ok E0 E1 E2 E3 wantC) : Calls Tryz.prog 17 #[.agg #[.slice E0 1 j0, .slice E1 2 j1, .slice E2 2 j2, .slice E3 2 j3], .int .i64 1] W fun e w' => ∃ A' c', e = .returned (.slice A' 2 c') ∧ Shares w' (fun _ => True) A' rowL ∧ Ext W w' := by
 have h := co_Row wantC 1 ok E0 E1 E2 E3 j0 j1 j2 j3 W hv (by decide)
 rw [live_9] at h
 exact h.mono (fun e w' ⟨A, c, h1, h2, h3⟩ => ⟨A, c, h1, SliceR.mono h2 (fun _ _ _ _ hx => ⟨trivial, hx.2⟩), h3⟩)
theorem lv_RowZ (ok : Nat → Prop) (E0 E1 E2 E3 : Option Addr) (j0 j1 j2 j3 : Nat) (W : World) (hv : ColAt W ok E0 E1 E2 E3 wantC) : Calls Tryz.prog 17 #[.agg #[.slice E0 1 j0, .slice E1 2 j1, .slice E2 2 j2, .slice E3 2 j3], .int .i64 1] (W.alloc (.cells #[.int .i64 1, .int .i64 2, .int .i64 1, .int .i64 1, .int .i64 3, .int .i64 2] 41)) fun e w' => ∃ A' c', e = .returned (.slice A' 2 c') ∧ Shares w' (fun _ => True) A' rowL ∧ Shares w' (fun _ => True) (some ⟨W.heap.size, 0, none⟩) rowL ∧ Ext W w' :=
 (lv_Row ok E0 E1 E2 E3 j0 j1 j2 j3 _ (hv.ext ((Ext.refl W).alloc _))).mono (fun _ _ ⟨A, c, h1, h2, h3⟩ => ⟨A, c, h1, h2, (sh_two W ⟨1, 2, 1⟩ ⟨1, 3, 2⟩).ext h3, ((Ext.refl W).alloc _).trans h3⟩)
theorem lv_Deg (ok : Nat → Prop) (E0 E1 E2 E3 : Option Addr) (j0 j1 j2 j3 : Nat) (W : World) (hv : ColAt W ok E0 E1 E2 E3 wantC) : Calls Tryz.prog 18 #[.agg #[.slice E0 1 j0, .slice E1 2 j1, .slice E2 2 j2, .slice E3 2 j3], .int .i64 1] W fun e w' => e = .returned (.int .i64 2) ∧ Ext W w' := by
 have h := co_Degree wantC 1 ok E0 E1 E2 E3 j0 j1 j2 j3 W hv (by decide)
 rw [live_9] at h
 exact h
theorem lv_Ent (ok : Nat → Prop) (E0 E1 E2 E3 : Option Addr) (j0 j1 j2 j3 : Nat) (W : World) (hv : ColAt W ok E0 E1 E2 E3 wantC) : Calls Tryz.prog 19 #[.agg #[.slice E0 1 j0, .slice E1 2 j1, .slice E2 2 j2, .slice E3 2 j3]] W fun e w' => ∃ A' c', e = .returned (.slice A' 2 c') ∧ Ext W w' := by
 have h := co_Entries wantC ok E0 E1 E2 E3 j0 j1 j2 j3 W hv (by decide)
 rw [live_8] at h
 exact h.mono (fun e w' ⟨A, c, h1, _, _, h3⟩ => ⟨A, c, h1, h3⟩)
theorem lv_Adj (A B : Option Addr) (c d : Nat) (W : World) (ok ok' : Nat → Prop) (ha : Shares W ok A rowL) (hb : Shares W ok' B rowL) : Calls Tryz.prog 16 #[.slice A 2 c, .slice B 2 d] W fun e w' => e = .returned (.bool true) ∧ Ext W w' :=
 (r12_Adjs rowL rowL ok ok' A B c d W ha hb).mono (fun _ _ ⟨h1, h2⟩ => ⟨h1, h2⟩)
theorem lv_want (W : World) : ColAt ((((W.alloc (.cells #[.int .i64 1] 3)).alloc (.cells #[.int .i64 0, .int .i64 2] 3)).alloc (.cells #[.int .i64 2, .int .i64 3] 3)).alloc (.cells #[.int .i64 1, .int .i64 2] 3)) (fun _ => True) (some ⟨W.heap.size, 0, none⟩) (some ⟨W.heap.size + 1, 0, none⟩) (some ⟨W.heap.size + 1 + 1, 0, none⟩) (some ⟨W.heap.size + 1 + 1 + 1, 0, none⟩) wantC := by
 have h1 := nu_one W 1
 have h2 := nu_two (W.alloc (.cells #[.int .i64 1] 3)) 0 2
 have h3 := nu_two ((W.alloc (.cells #[.int .i64 1] 3)).alloc (.cells #[.int .i64 0, .int .i64 2] 3)) 2 3
 have h4 := nu_two (((W.alloc (.cells #[.int .i64 1] 3)).alloc (.cells #[.int .i64 0, .int .i64 2] 3)).alloc (.cells #[.int .i64 2, .int .i64 3] 3)) 1 2
 have e1 : (W.alloc (.cells #[.int .i64 1] 3)).heap.size = W.heap.size + 1 := by simp
 have e2 : ((W.alloc (.cells #[.int .i64 1] 3)).alloc (.cells #[.int .i64 0, .int .i64 2] 3)).heap.size = W.heap.size + 1 + 1 := by simp
 have e3 : (((W.alloc (.cells #[.int .i64 1] 3)).alloc (.cells #[.int .i64 0, .int .i64 2] 3)).alloc (.cells #[.int .i64 2, .int .i64 3] 3)).heap.size = W.heap.size + 1 + 1 + 1 := by simp
 rw [e1] at h2
 rw [e2] at h3
 rw [e3] at h4
 exact ⟨h1.ext ((((Ext.refl _).alloc _).alloc _).alloc _), h2.ext (((Ext.refl _).alloc _).alloc _), h3.ext ((Ext.refl _).alloc _), h4⟩
theorem box_colV (w : World) (v0 v1 v2 v3 : Value) (t : TypeId) : ∃ (q : Nat) (w1 : World), q = w.heap.size ∧ w1 = w.alloc (.cells #[v0, v1, v2, v3] t) ∧ Box4 w1 q v0 v1 v2 v3 ∧ Ext w w1 :=
 ⟨_, _, rfl, rfl, ⟨by go_simp, by go_simp, by go_simp, by go_simp⟩, (Ext.refl _).alloc _⟩
set_option maxRecDepth 100000 in
set_option maxHeartbeats 6400000 in
theorem l_lives (w : World) : Calls Tryz.prog 5 #[] w fun e w' => e = .returned (.bool true) ∧ Ext w w' := by
 go_enter Tryz.func5, Tryz.ntmps5
 go_upto_region 2 with (fail)
 have HO1 := Lib.hid (lv_Of1 w)
 obtain ⟨b0, w1, hb0, hw1, hcl, hx1⟩ : ∃ (b : Nat) (w1 : World), b = w.heap.size ∧ w1 = (w.alloc (.cells #[.int .i64 1, .int .i64 3, .int .i64 2, .int .i64 1, .int .i64 2, .int .i64 1] 41)) ∧ (w1.cell? ⟨b, 0, none⟩ = some (.int .i64 1) ∧ w1.cell? ⟨b, 1, none⟩ = some (.int .i64 3) ∧ w1.cell? ⟨b, 2, none⟩ = some (.int .i64 2) ∧ w1.cell? ⟨b, 3, none⟩ = some (.int .i64 1) ∧ w1.cell? ⟨b, 4, none⟩ = some (.int .i64 2) ∧ w1.cell? ⟨b, 5, none⟩ = some (.int .i64 1)) ∧ Ext w w1 := ⟨_, _, rfl, rfl, ⟨by go_simp, by go_simp, by go_simp, by go_simp, by go_simp, by go_simp⟩, (Ext.refl _).alloc _⟩
 rw [← hw1, ← hb0] at HO1 ⊢
 have HCL := Lib.hid hcl
 have HX1 := Lib.hid hx1
 clear hw1 hb0 hcl hx1
 go_upto_region 3 with (go_at_call 14; (go_loud ((with_reducible refine (HO1.out).mono ?_); rintro e u2 ⟨A0, A1, A2, A3, k0, k1, k2, k3, rfl, hca, hx2⟩; clear HO1)))
 obtain ⟨qa, w3, hqa, hw3, hba, hx3⟩ := box_colV u2 (.slice A0 1 k0) (.slice A1 2 k1) (.slice A2 2 k2) (.slice A3 2 k3) 29
 rw [← hw3, ← hqa]
 have HCA := Lib.hid (hca.ext hx3)
 have HBA := Lib.hid hba
 have HX3 := Lib.hid (hx2.trans hx3)
 clear hqa hw3 hba hx2 hx3 hca
 have HO2 := Lib.hid (lv_Of2 w3)
 go_upto_region 4 with (go_at_call 14; (go_loud ((with_reducible refine (HO2.out).mono ?_); rintro e u4 ⟨B0, B1, B2, B3, m0, m1, m2, m3, rfl, -, hx4⟩; clear HO2)))
 obtain ⟨qb, w5, hqb, hw5, -, hx5⟩ := box_colV u4 (.slice B0 0 m0) (.slice B1 0 m1) (.slice B2 0 m2) (.slice B3 0 m3) 29
 rw [← hw5, ← hqb]
 have HX5 := Lib.hid (hx4.trans hx5)
 clear hqb hw5 hx4 hx5
 go_upto_region 5 with (fail)
 obtain ⟨h6, hh6⟩ : ∃ h, h = w5.heap.size := ⟨_, rfl⟩
 have hwant := lv_want w5
 obtain ⟨w6, hw6⟩ : ∃ W, W = ((((w5.alloc (.cells #[.int .i64 1] 3)).alloc (.cells #[.int .i64 0, .int .i64 2] 3)).alloc (.cells #[.int .i64 2, .int .i64 3] 3)).alloc (.cells #[.int .i64 1, .int .i64 2] 3)) := ⟨_, rfl⟩
 have hx6 : Ext w5 w6 := by rw [hw6]; exact ((((Ext.refl _).alloc _).alloc _).alloc _).alloc _
 have hs6 : h6 + 1 + 1 + 1 + 1 = w6.heap.size := by rw [hw6, hh6]; simp
 rw [← hw6, ← hh6] at hwant
 obtain ⟨qw, w7, hqw, hw7, hbw, hx7⟩ := box_colV w6 (.slice (some ⟨h6, 0, none⟩) 1 1) (.slice (some ⟨h6 + 1, 0, none⟩) 2 2) (.slice (some ⟨h6 + 1 + 1, 0, none⟩) 2 2) (.slice (some ⟨h6 + 1 + 1 + 1, 0, none⟩) 2 2) 29
 rw [← hs6] at hqw
 rw [← hw6, ← hh6, ← hw7]
 rw [← hqw]
 have HWT := Lib.hid (hwant.ext hx7)
 have HBW := Lib.hid hbw
 have HX7 := Lib.hid (hx6.trans hx7)
 clear hwant hbw hx6 hx7 hw6 hw7 hqw hs6 hh6
 obtain ⟨z0, z1, z2, z3⟩ := HBW.out
 have HEN := Lib.hid (lv_Enc _ _ _ _ _ 1 2 2 2 w7 HWT.out)
 go_upto_region 6 with (go_at_call 12; (go_loud ((with_reducible refine (HEN.out).mono ?_); rintro e u8 ⟨A7, c7, rfl, hb7, hx8⟩; clear HEN)))
 have HBY := Lib.hid hb7
 have HX8 := Lib.hid hx8
 clear hb7 hx8 z0 z1 z2 z3
 have HD1 := Lib.hid (lv_Dec1 u8)
 go_upto_region 7 with (go_at_call 9; (go_loud ((with_reducible refine (HD1.out).mono ?_); rintro e u10 ⟨D0, D1, D2, D3, d0, d1, d2, d3, rfl, hcd, hx10⟩; clear HD1)))
 obtain ⟨qd, w11, hqd, hw11, hbd, hx11⟩ := box_colV u10 (.slice D0 1 d0) (.slice D1 2 d1) (.slice D2 2 d2) (.slice D3 2 d3) 29
 rw [← hw11, ← hqd]
 have HCD := Lib.hid (hcd.ext hx11)
 have HBD := Lib.hid hbd
 have HX11 := Lib.hid (hx10.trans hx11)
 clear hqd hw11 hbd hx10 hx11 hcd
 have HD2 := Lib.hid (lv_Dec2 w11)
 go_upto_region 8 with (go_at_call 9; (go_loud ((with_reducible refine (HD2.out).mono ?_); rintro e u12 ⟨F0, F1, F2, F3, f0, f1, f2, f3, rfl, -, hx12⟩; clear HD2)))
 obtain ⟨qf, w13, hqf, hw13, -, hx13⟩ := box_colV u12 (.slice F0 0 f0) (.slice F1 0 f1) (.slice F2 0 f2) (.slice F3 0 f3) 29
 rw [← hw13, ← hqf]
 have HX13 := Lib.hid (hx12.trans hx13)
 clear hqf hw13 hx12 hx13
 have HBL := Lib.hid (lv_Bld w13)
 go_upto_region 9 with (go_at_call 6; (go_loud ((with_reducible refine (HBL.out).mono ?_); rintro e u14 ⟨G0, G1, G2, G3, g0, g1, g2, g3, rfl, -, hx14⟩; clear HBL)))
 obtain ⟨qg, w9, hqg, hw9, -, hx15⟩ := box_colV u14 (.slice G0 0 g0) (.slice G1 0 g1) (.slice G2 0 g2) (.slice G3 0 g3) 29
 rw [← hw9, ← hqg]
 have HX15 := Lib.hid (hx14.trans hx15)
 clear hqg hw9 hx14 hx15
 have HY11 := Lib.hid (HX13.out.trans HX15.out)
 have HY8 := Lib.hid (HX11.out.trans HY11.out)
 have HY7 := Lib.hid (HX8.out.trans HY8.out)
 have HY5 := Lib.hid (HX7.out.trans HY7.out)
 have HY3 := Lib.hid (HX5.out.trans HY5.out)
 have HY1 := Lib.hid (HX3.out.trans HY3.out)
 have HX9 := Lib.hid (HX1.out.trans HY1.out)
 have hcl := HCL.out
 have hba := HBA.out.grown (HY3.out.gr none) (by simp)
 have hbw := HBW.out.grown (HY7.out.gr none) (by simp)
 have hbd := HBD.out.grown (HY11.out.gr none) (by simp)
 have MK9 := Lib.hid (fun V (e : Ext w9 V) => (⟨⟨e.cell hba.1, e.cell hba.2.1, e.cell hba.2.2.1, e.cell hba.2.2.2⟩, ⟨e.cell hbw.1, e.cell hbw.2.1, e.cell hbw.2.2.1, e.cell hbw.2.2.2⟩, ⟨e.cell hbd.1, e.cell hbd.2.1, e.cell hbd.2.2.1, e.cell hbd.2.2.2⟩, (HY1.out.trans e).cell hcl.1, (HY1.out.trans e).cell hcl.2.1, (HY1.out.trans e).cell hcl.2.2.1, (HY1.out.trans e).cell hcl.2.2.2.1, (HY1.out.trans e).cell hcl.2.2.2.2.1, (HY1.out.trans e).cell hcl.2.2.2.2.2⟩ : (V.cell? ⟨qa, 0, none⟩ = some (.slice A0 1 k0) ∧ V.cell? ⟨qa, 1, none⟩ = some (.slice A1 2 k1) ∧ V.cell? ⟨qa, 2, none⟩ = some (.slice A2 2 k2) ∧ V.cell? ⟨qa, 3, none⟩ = some (.slice A3 2 k3)) ∧ (V.cell? ⟨qw, 0, none⟩ = some (.slice (some ⟨h6, 0, none⟩) 1 1) ∧ V.cell? ⟨qw, 1, none⟩ = some (.slice (some ⟨h6 + 1, 0, none⟩) 2 2) ∧ V.cell? ⟨qw, 2, none⟩ = some (.slice (some ⟨h6 + 1 + 1, 0, none⟩) 2 2) ∧ V.cell? ⟨qw, 3, none⟩ = some (.slice (some ⟨h6 + 1 + 1 + 1, 0, none⟩) 2 2)) ∧ (V.cell? ⟨qd, 0, none⟩ = some (.slice D0 1 d0) ∧ V.cell? ⟨qd, 1, none⟩ = some (.slice D1 2 d1) ∧ V.cell? ⟨qd, 2, none⟩ = some (.slice D2 2 d2) ∧ V.cell? ⟨qd, 3, none⟩ = some (.slice D3 2 d3)) ∧ V.cell? ⟨b0, 0, none⟩ = some (.int .i64 1) ∧ V.cell? ⟨b0, 1, none⟩ = some (.int .i64 3) ∧ V.cell? ⟨b0, 2, none⟩ = some (.int .i64 2) ∧ V.cell? ⟨b0, 3, none⟩ = some (.int .i64 1) ∧ V.cell? ⟨b0, 4, none⟩ = some (.int .i64 2) ∧ V.cell? ⟨b0, 5, none⟩ = some (.int .i64 1)))
 have HS1 := Lib.hid (fun V (e : Ext w9 V) => lv_Same _ _ _ _ _ 1 2 2 2 V _ A0 A1 A2 A3 k0 k1 k2 k3 (HWT.out.ext (HY7.out.trans e)) (HCA.out.ext (HY3.out.trans e)))
 have HS2 := Lib.hid (fun V (e : Ext w9 V) => lv_Same _ _ _ _ _ 1 2 2 2 V _ D0 D1 D2 D3 d0 d1 d2 d3 (HWT.out.ext (HY7.out.trans e)) (HCD.out.ext (HY11.out.trans e)))
 have HB := Lib.hid (fun V (e : Ext w9 V) => lv_Byt V _ A7 c7 (HBY.out.ext (HY8.out.trans e)))
 have HV1 := Lib.hid (fun V (e : Ext w9 V) => lv_Val _ _ _ _ _ 1 2 2 2 V (HWT.out.ext (HY7.out.trans e)))
 have HR := Lib.hid (fun V (e : Ext w9 V) => lv_Row _ _ _ _ _ 1 2 2 2 V (HWT.out.ext (HY7.out.trans e)))
 have HRZ := Lib.hid (fun V (e : Ext w9 V) => lv_RowZ _ _ _ _ _ 1 2 2 2 V (HWT.out.ext (HY7.out.trans e)))
 have HD := Lib.hid (fun V (e : Ext w9 V) => lv_Deg _ _ _ _ _ 1 2 2 2 V (HWT.out.ext (HY7.out.trans e)))
 have HE := Lib.hid (fun V (e : Ext w9 V) => lv_Ent _ _ _ _ _ 1 2 2 2 V (HWT.out.ext (HY7.out.trans e)))
 clear hcl hba hbw hbd HCL HBA HBW HBD HWT HCA HCD HBY HX1 HX3 HX5 HX7 HX8 HX11 HX13 HX15 HY1 HY3 HY5 HY7 HY8 HY11
 refine wp_region_held_drew (S := (fun V => (V.cell? ⟨qa, 0, none⟩ = some (.slice A0 1 k0) ∧ V.cell? ⟨qa, 1, none⟩ = some (.slice A1 2 k1) ∧ V.cell? ⟨qa, 2, none⟩ = some (.slice A2 2 k2) ∧ V.cell? ⟨qa, 3, none⟩ = some (.slice A3 2 k3)) ∧ (V.cell? ⟨qw, 0, none⟩ = some (.slice (some ⟨h6, 0, none⟩) 1 1) ∧ V.cell? ⟨qw, 1, none⟩ = some (.slice (some ⟨h6 + 1, 0, none⟩) 2 2) ∧ V.cell? ⟨qw, 2, none⟩ = some (.slice (some ⟨h6 + 1 + 1, 0, none⟩) 2 2) ∧ V.cell? ⟨qw, 3, none⟩ = some (.slice (some ⟨h6 + 1 + 1 + 1, 0, none⟩) 2 2)) ∧ (V.cell? ⟨qd, 0, none⟩ = some (.slice D0 1 d0) ∧ V.cell? ⟨qd, 1, none⟩ = some (.slice D1 2 d1) ∧ V.cell? ⟨qd, 2, none⟩ = some (.slice D2 2 d2) ∧ V.cell? ⟨qd, 3, none⟩ = some (.slice D3 2 d3)) ∧ V.cell? ⟨b0, 0, none⟩ = some (.int .i64 1) ∧ V.cell? ⟨b0, 1, none⟩ = some (.int .i64 3) ∧ V.cell? ⟨b0, 2, none⟩ = some (.int .i64 2) ∧ V.cell? ⟨b0, 3, none⟩ = some (.int .i64 1) ∧ V.cell? ⟨b0, 4, none⟩ = some (.int .i64 2) ∧ V.cell? ⟨b0, 5, none⟩ = some (.int .i64 1))) (by kernel_rfl) ?hs70001 (fun hHeld => ?go70001)
 case hs70001 => (exact MK9.out _ (by solve_by_elim [X0, X1, X2, X3]))
 refine TK 0 (v := ?v70002) hHeld ?hy70002 ?_
 case hy70002 => (intro w hSw; (try dsimp only at hSw); go_simp <;> first | with_reducible rfl | rw [if_neg (by omega)] | rw [if_pos (by omega)])
 (try simp only [PU])
 refine TK 1 (v := ?v70003) hHeld ?hy70003 ?_
 case hy70003 => (intro w hSw; (try dsimp only at hSw); go_simp <;> first | with_reducible rfl | rw [if_neg (by omega)] | rw [if_pos (by omega)])
 (try simp only [PU])
 refine TK 2 (v := ?v70004) hHeld ?hy70004 ?_
 case hy70004 => (intro w hSw; (try dsimp only at hSw); go_simp <;> first | with_reducible rfl | rw [if_neg (by omega)] | rw [if_pos (by omega)])
 (try simp only [PU])
 refine TK 3 (v := ?v70005) hHeld ?hy70005 ?_
 case hy70005 => (intro w hSw; (try dsimp only at hSw); go_simp <;> first | with_reducible rfl | rw [if_neg (by omega)] | rw [if_pos (by omega)])
 (try simp only [PU])
 refine TK 4 (v := ?v70006) hHeld ?hy70006 ?_
 case hy70006 => (intro w hSw; (try dsimp only at hSw); go_simp <;> first | with_reducible rfl | rw [if_neg (by omega)] | rw [if_pos (by omega)])
 (try simp only [PU])
 refine wpAnyH_ready (rs := [5]) (by kernel_rfl) (by simp) ?_
 refine AllReadyH.cons (o := ⟨_, _, _, _, _, _⟩) rfl (fun K hK => ?step70007x0) ?more70007x0
 case more70007x0 => exact AllReadyH.nil
 go_simp
 ((with_reducible refine (HS1.out _ (by solve_by_elim [X0, X1, X2, X3])).mono ?_); rintro r v5 ⟨rfl, hy5⟩; replace hy5 : Ext w9 v5 := Ext.trans (a := w9) (by solve_by_elim [X0, X1, X2, X3]) hy5)
 refine hK.out _ _ ?hS70007x0 (fun H70007 => ?_)
 case hS70007x0 => first | (exact MK9.out _ (by solve_by_elim [X0, X1, X2, X3])) | ((try dsimp only); (exact MK9.out _ (by solve_by_elim [X0, X1, X2, X3])))
 clear hK K
 clear hHeld
 (try simp only [PU])
 refine TK 6 (v := ?v70008) H70007 ?hy70008 ?_
 case hy70008 => (intro w hSw; (try dsimp only at hSw); go_simp <;> first | with_reducible rfl | rw [if_neg (by omega)] | rw [if_pos (by omega)])
 (try simp only [PU])
 refine TK 7 (v := ?v70009) H70007 ?hy70009 ?_
 case hy70009 => (intro w hSw; (try dsimp only at hSw); go_simp <;> first | with_reducible rfl | rw [if_neg (by omega)] | rw [if_pos (by omega)])
 (try simp only [PU])
 refine TK 8 (v := ?v70010) H70007 ?hy70010 ?_
 case hy70010 => (intro w hSw; (try dsimp only at hSw); go_simp <;> first | with_reducible rfl | rw [if_neg (by omega)] | rw [if_pos (by omega)])
 (try simp only [PU])
 refine TK 9 (v := ?v70011) H70007 ?hy70011 ?_
 case hy70011 => (intro w hSw; (try dsimp only at hSw); go_simp <;> first | with_reducible rfl | rw [if_neg (by omega)] | rw [if_pos (by omega)])
 (try simp only [PU])
 refine TK 10 (v := ?v70012) H70007 ?hy70012 ?_
 case hy70012 => (intro w hSw; (try dsimp only at hSw); go_simp <;> first | with_reducible rfl | rw [if_neg (by omega)] | rw [if_pos (by omega)])
 (try simp only [PU])
 refine TK 11 (v := ?v70013) H70007 ?hy70013 ?_
 case hy70013 => (intro w hSw; (try dsimp only at hSw); go_simp <;> first | with_reducible rfl | rw [if_neg (by omega)] | rw [if_pos (by omega)])
 (try simp only [PU])
 refine TK 12 (v := ?v70014) H70007 ?hy70014 ?_
 case hy70014 => (intro w hSw; (try dsimp only at hSw); go_simp <;> first | with_reducible rfl | rw [if_neg (by omega)] | rw [if_pos (by omega)])
 (try simp only [PU])
 refine wpAnyH_ready (rs := [13]) (by kernel_rfl) (by simp) ?_
 refine AllReadyH.cons (o := ⟨_, _, _, _, _, _⟩) rfl (fun K hK => ?step70015x0) ?more70015x0
 case more70015x0 => exact AllReadyH.nil
 go_simp
 refine hK.out _ _ ?hS70015x0 (fun H70015 => ?_)
 case hS70015x0 => first | (exact MK9.out _ (by solve_by_elim [X0, X1, X2, X3])) | ((try dsimp only); (exact MK9.out _ (by solve_by_elim [X0, X1, X2, X3])))
 clear hK K
 clear H70007
 (try simp only [PU])
 refine wpAnyH_ready (rs := [14]) (by kernel_rfl) (by simp) ?_
 refine AllReadyH.cons (o := ⟨_, _, _, _, _, _⟩) rfl (fun K hK => ?step70016x0) ?more70016x0
 case more70016x0 => exact AllReadyH.nil
 go_simp
 ((with_reducible refine (HB.out _ (by solve_by_elim [X0, X1, X2, X3])).mono ?_); rintro r v14 ⟨rfl, hy14⟩; replace hy14 : Ext w9 v14 := Ext.trans (a := w9) (by solve_by_elim [X0, X1, X2, X3]) hy14)
 refine hK.out _ _ ?hS70016x0 (fun H70016 => ?_)
 case hS70016x0 => first | (exact MK9.out _ (by solve_by_elim [X0, X1, X2, X3])) | ((try dsimp only); (exact MK9.out _ (by solve_by_elim [X0, X1, X2, X3])))
 clear hK K
 clear H70015
 (try simp only [PU])
 refine TK 15 (v := ?v70017) H70016 ?hy70017 ?_
 case hy70017 => (intro w hSw; (try dsimp only at hSw); go_simp <;> first | with_reducible rfl | rw [if_neg (by omega)] | rw [if_pos (by omega)])
 (try simp only [PU])
 refine TK 16 (v := ?v70018) H70016 ?hy70018 ?_
 case hy70018 => (intro w hSw; (try dsimp only at hSw); go_simp <;> first | with_reducible rfl | rw [if_neg (by omega)] | rw [if_pos (by omega)])
 (try simp only [PU])
 refine TK 17 (v := ?v70019) H70016 ?hy70019 ?_
 case hy70019 => (intro w hSw; (try dsimp only at hSw); go_simp <;> first | with_reducible rfl | rw [if_neg (by omega)] | rw [if_pos (by omega)])
 (try simp only [PU])
 refine TK 18 (v := ?v70020) H70016 ?hy70020 ?_
 case hy70020 => (intro w hSw; (try dsimp only at hSw); go_simp <;> first | with_reducible rfl | rw [if_neg (by omega)] | rw [if_pos (by omega)])
 (try simp only [PU])
 refine TK 19 (v := ?v70021) H70016 ?hy70021 ?_
 case hy70021 => (intro w hSw; (try dsimp only at hSw); go_simp <;> first | with_reducible rfl | rw [if_neg (by omega)] | rw [if_pos (by omega)])
 (try simp only [PU])
 refine TK 20 (v := ?v70022) H70016 ?hy70022 ?_
 case hy70022 => (intro w hSw; (try dsimp only at hSw); go_simp <;> first | with_reducible rfl | rw [if_neg (by omega)] | rw [if_pos (by omega)])
 (try simp only [PU])
 refine TK 21 (v := ?v70023) H70016 ?hy70023 ?_
 case hy70023 => (intro w hSw; (try dsimp only at hSw); go_simp <;> first | with_reducible rfl | rw [if_neg (by omega)] | rw [if_pos (by omega)])
 (try simp only [PU])
 refine TK 22 (v := ?v70024) H70016 ?hy70024 ?_
 case hy70024 => (intro w hSw; (try dsimp only at hSw); go_simp <;> first | with_reducible rfl | rw [if_neg (by omega)] | rw [if_pos (by omega)])
 (try simp only [PU])
 refine wpAnyH_ready (rs := [23]) (by kernel_rfl) (by simp) ?_
 refine AllReadyH.cons (o := ⟨_, _, _, _, _, _⟩) rfl (fun K hK => ?step70025x0) ?more70025x0
 case more70025x0 => exact AllReadyH.nil
 go_simp
 ((with_reducible refine (HS2.out _ (by solve_by_elim [X0, X1, X2, X3])).mono ?_); rintro r v23 ⟨rfl, hy23⟩; replace hy23 : Ext w9 v23 := Ext.trans (a := w9) (by solve_by_elim [X0, X1, X2, X3]) hy23)
 refine hK.out _ _ ?hS70025x0 (fun H70025 => ?_)
 case hS70025x0 => first | (exact MK9.out _ (by solve_by_elim [X0, X1, X2, X3])) | ((try dsimp only); (exact MK9.out _ (by solve_by_elim [X0, X1, X2, X3])))
 clear hK K
 clear H70016
 (try simp only [PU])
 refine TK 24 (v := ?v70026) H70025 ?hy70026 ?_
 case hy70026 => (intro w hSw; (try dsimp only at hSw); go_simp <;> first | with_reducible rfl | rw [if_neg (by omega)] | rw [if_pos (by omega)])
 (try simp only [PU])
 refine TK 25 (v := ?v70027) H70025 ?hy70027 ?_
 case hy70027 => (intro w hSw; (try dsimp only at hSw); go_simp <;> first | with_reducible rfl | rw [if_neg (by omega)] | rw [if_pos (by omega)])
 (try simp only [PU])
 refine TK 26 (v := ?v70028) H70025 ?hy70028 ?_
 case hy70028 => (intro w hSw; (try dsimp only at hSw); go_simp <;> first | with_reducible rfl | rw [if_neg (by omega)] | rw [if_pos (by omega)])
 (try simp only [PU])
 refine TK 27 (v := ?v70029) H70025 ?hy70029 ?_
 case hy70029 => (intro w hSw; (try dsimp only at hSw); go_simp <;> first | with_reducible rfl | rw [if_neg (by omega)] | rw [if_pos (by omega)])
 (try simp only [PU])
 refine TK 28 (v := ?v70030) H70025 ?hy70030 ?_
 case hy70030 => (intro w hSw; (try dsimp only at hSw); go_simp <;> first | with_reducible rfl | rw [if_neg (by omega)] | rw [if_pos (by omega)])
 (try simp only [PU])
 refine TK 29 (v := ?v70031) H70025 ?hy70031 ?_
 case hy70031 => (intro w hSw; (try dsimp only at hSw); go_simp <;> first | with_reducible rfl | rw [if_neg (by omega)] | rw [if_pos (by omega)])
 (try simp only [PU])
 refine TK 30 (v := ?v70032) H70025 ?hy70032 ?_
 case hy70032 => (intro w hSw; (try dsimp only at hSw); go_simp <;> first | with_reducible rfl | rw [if_neg (by omega)] | rw [if_pos (by omega)])
 (try simp only [PU])
 refine TK 31 (v := ?v70033) H70025 ?hy70033 ?_
 case hy70033 => (intro w hSw; (try dsimp only at hSw); go_simp <;> first | with_reducible rfl | rw [if_neg (by omega)] | rw [if_pos (by omega)])
 (try simp only [PU])
 refine TK 32 (v := ?v70034) H70025 ?hy70034 ?_
 case hy70034 => (intro w hSw; (try dsimp only at hSw); go_simp <;> first | with_reducible rfl | rw [if_neg (by omega)] | rw [if_pos (by omega)])
 (try simp only [PU])
 refine TK 33 (v := ?v70035) H70025 ?hy70035 ?_
 case hy70035 => (intro w hSw; (try dsimp only at hSw); go_simp <;> first | with_reducible rfl | rw [if_neg (by omega)] | rw [if_pos (by omega)])
 (try simp only [PU])
 refine TK 34 (v := ?v70036) H70025 ?hy70036 ?_
 case hy70036 => (intro w hSw; (try dsimp only at hSw); go_simp <;> first | with_reducible rfl | rw [if_neg (by omega)] | rw [if_pos (by omega)])
 (try simp only [PU])
 refine wpAnyH_ready (rs := [35]) (by kernel_rfl) (by simp) ?_
 refine AllReadyH.cons (o := ⟨_, _, _, _, _, _⟩) rfl (fun K hK => ?step70037x0) ?more70037x0
 case more70037x0 => exact AllReadyH.nil
 go_simp
 ((with_reducible refine (HV1.out _ (by solve_by_elim [X0, X1, X2, X3])).mono ?_); rintro r v35 ⟨rfl, hy35⟩; replace hy35 : Ext w9 v35 := Ext.trans (a := w9) (by solve_by_elim [X0, X1, X2, X3]) hy35)
 refine hK.out _ _ ?hS70037x0 (fun H70037 => ?_)
 case hS70037x0 => first | (exact MK9.out _ (by solve_by_elim [X0, X1, X2, X3])) | ((try dsimp only); (exact MK9.out _ (by solve_by_elim [X0, X1, X2, X3])))
 clear hK K
 clear H70025
 (try simp only [PU])
 refine TK 36 (v := ?v70038) H70037 ?hy70038 ?_
 case hy70038 => (intro w hSw; (try dsimp only at hSw); go_simp <;> first | with_reducible rfl | rw [if_neg (by omega)] | rw [if_pos (by omega)])
 (try simp only [PU])
 refine TK 37 (v := ?v70039) H70037 ?hy70039 ?_
 case hy70039 => (intro w hSw; (try dsimp only at hSw); go_simp <;> first | with_reducible rfl | rw [if_neg (by omega)] | rw [if_pos (by omega)])
 (try simp only [PU])
 refine wpAnyH_ready (rs := [38]) (by kernel_rfl) (by simp) ?_
 refine AllReadyH.cons (o := ⟨_, _, _, _, _, _⟩) rfl (fun K hK => ?step70040x0) ?more70040x0
 case more70040x0 => exact AllReadyH.nil
 go_simp
 refine hK.out _ _ ?hS70040x0 (fun H70040 => ?_)
 case hS70040x0 => first | (exact MK9.out _ (by solve_by_elim [X0, X1, X2, X3])) | ((try dsimp only); (exact MK9.out _ (by solve_by_elim [X0, X1, X2, X3])))
 clear hK K
 clear H70037
 (try simp only [PU])
 refine TK 39 (v := ?v70041) H70040 ?hy70041 ?_
 case hy70041 => (intro w hSw; (try dsimp only at hSw); go_simp <;> first | with_reducible rfl | rw [if_neg (by omega)] | rw [if_pos (by omega)])
 (try simp only [PU])
 refine wpAnyH_ready (rs := [40]) (by kernel_rfl) (by simp) ?_
 refine AllReadyH.cons (o := ⟨_, _, _, _, _, _⟩) rfl (fun K hK => ?step70042x0) ?more70042x0
 case more70042x0 => exact AllReadyH.nil
 go_simp
 ((with_reducible refine (lv_Val2 _).mono ?_); rintro r v40 ⟨rfl, hy40⟩; replace hy40 : Ext w9 v40 := Ext.trans (a := w9) (by solve_by_elim [X0, X1, X2, X3]) hy40)
 refine hK.out _ _ ?hS70042x0 (fun H70042 => ?_)
 case hS70042x0 => first | (exact MK9.out _ (by solve_by_elim [X0, X1, X2, X3])) | ((try dsimp only); (exact MK9.out _ (by solve_by_elim [X0, X1, X2, X3])))
 clear hK K
 clear H70040
 (try simp only [PU])
 refine TK 41 (v := ?v70043) H70042 ?hy70043 ?_
 case hy70043 => (intro w hSw; (try dsimp only at hSw); go_simp <;> first | with_reducible rfl | rw [if_neg (by omega)] | rw [if_pos (by omega)])
 (try simp only [PU])
 refine TK 42 (v := ?v70044) H70042 ?hy70044 ?_
 case hy70044 => (intro w hSw; (try dsimp only at hSw); go_simp <;> first | with_reducible rfl | rw [if_neg (by omega)] | rw [if_pos (by omega)])
 (try simp only [PU])
 refine wpAnyH_ready (rs := [43]) (by kernel_rfl) (by simp) ?_
 refine AllReadyH.cons (o := ⟨_, _, _, _, _, _⟩) rfl (fun K hK => ?step70045x0) ?more70045x0
 case more70045x0 => exact AllReadyH.nil
 go_simp
 refine hK.out _ _ ?hS70045x0 (fun H70045 => ?_)
 case hS70045x0 => first | (exact MK9.out _ (by solve_by_elim [X0, X1, X2, X3])) | ((try dsimp only); (exact MK9.out _ (by solve_by_elim [X0, X1, X2, X3])))
 clear hK K
 clear H70042
 (try simp only [PU])
 refine TK 44 (v := ?v70046) H70045 ?hy70046 ?_
 case hy70046 => (intro w hSw; (try dsimp only at hSw); go_simp <;> first | with_reducible rfl | rw [if_neg (by omega)] | rw [if_pos (by omega)])
 (try simp only [PU])
 refine wpAnyH_ready (rs := [45]) (by kernel_rfl) (by simp) ?_
 refine AllReadyH.cons (o := ⟨_, _, _, _, _, _⟩) rfl (fun K hK => ?step70047x0) ?more70047x0
 case more70047x0 => exact AllReadyH.nil
 go_simp
 ((with_reducible refine (lv_Val3 _).mono ?_); rintro r v45 ⟨rfl, hy45⟩; replace hy45 : Ext w9 v45 := Ext.trans (a := w9) (by solve_by_elim [X0, X1, X2, X3]) hy45)
 refine hK.out _ _ ?hS70047x0 (fun H70047 => ?_)
 case hS70047x0 => first | (exact MK9.out _ (by solve_by_elim [X0, X1, X2, X3])) | ((try dsimp only); (exact MK9.out _ (by solve_by_elim [X0, X1, X2, X3])))
 clear hK K
 clear H70045
 (try simp only [PU])
 refine TK 46 (v := ?v70048) H70047 ?hy70048 ?_
 case hy70048 => (intro w hSw; (try dsimp only at hSw); go_simp <;> first | with_reducible rfl | rw [if_neg (by omega)] | rw [if_pos (by omega)])
 (try simp only [PU])
 refine TK 47 (v := ?v70049) H70047 ?hy70049 ?_
 case hy70049 => (intro w hSw; (try dsimp only at hSw); go_simp <;> first | with_reducible rfl | rw [if_neg (by omega)] | rw [if_pos (by omega)])
 (try simp only [PU])
 refine TK 48 (v := ?v70050) H70047 ?hy70050 ?_
 case hy70050 => (intro w hSw; (try dsimp only at hSw); go_simp <;> first | with_reducible rfl | rw [if_neg (by omega)] | rw [if_pos (by omega)])
 (try simp only [PU])
 refine TK 49 (v := ?v70051) H70047 ?hy70051 ?_
 case hy70051 => (intro w hSw; (try dsimp only at hSw); go_simp <;> first | with_reducible rfl | rw [if_neg (by omega)] | rw [if_pos (by omega)])
 (try simp only [PU])
 refine TK 51 (v := ?v70052) H70047 ?hy70052 ?_
 case hy70052 => (intro w hSw; (try dsimp only at hSw); go_simp <;> first | with_reducible rfl | rw [if_neg (by omega)] | rw [if_pos (by omega)])
 (try simp only [PU])
 refine TK 52 (v := ?v70053) H70047 ?hy70053 ?_
 case hy70053 => (intro w hSw; (try dsimp only at hSw); go_simp <;> first | with_reducible rfl | rw [if_neg (by omega)] | rw [if_pos (by omega)])
 (try simp only [PU])
 refine TK 53 (v := ?v70054) H70047 ?hy70054 ?_
 case hy70054 => (intro w hSw; (try dsimp only at hSw); go_simp <;> first | with_reducible rfl | rw [if_neg (by omega)] | rw [if_pos (by omega)])
 (try simp only [PU])
 refine TK 54 (v := ?v70055) H70047 ?hy70055 ?_
 case hy70055 => (intro w hSw; (try dsimp only at hSw); go_simp <;> first | with_reducible rfl | rw [if_neg (by omega)] | rw [if_pos (by omega)])
 (try simp only [PU])
 refine TK 55 (v := ?v70056) H70047 ?hy70056 ?_
 case hy70056 => (intro w hSw; (try dsimp only at hSw); go_simp <;> first | with_reducible rfl | rw [if_neg (by omega)] | rw [if_pos (by omega)])
 (try simp only [PU])
 refine TK 56 (v := ?v70057) H70047 ?hy70057 ?_
 case hy70057 => (intro w hSw; (try dsimp only at hSw); go_simp <;> first | with_reducible rfl | rw [if_neg (by omega)] | rw [if_pos (by omega)])
 (try simp only [PU])
 refine wpAnyH_ready (rs := [50, 57]) (by kernel_rfl) (by simp) ?_
 refine AllReadyH.cons (o := ⟨_, _, _, _, _, _⟩) rfl (fun K hK => ?step70058x0) ?more70058x0
 case more70058x0 =>
  refine AllReadyH.cons (o := ⟨_, _, _, _, _, _⟩) rfl (fun K hK => ?step70058x1) ?more70058x1
  case more70058x1 => exact AllReadyH.nil
  go_simp
  refine hK.out _ _ ?hS70058x1 (fun H70058 => ?_)
  case hS70058x1 => first | (exact MK9.out _ (by solve_by_elim [X0, X1, X2, X3])) | ((try dsimp only); (exact MK9.out _ (by solve_by_elim [X0, X1, X2, X3])))
  clear hK K
  clear H70047
  (try simp only [PU])
  refine wpAnyH_ready (rs := [50]) (by kernel_rfl) (by simp) ?_
  refine AllReadyH.cons (o := ⟨_, _, _, _, _, _⟩) rfl (fun K hK => ?step70059x0) ?more70059x0
  case more70059x0 => exact AllReadyH.nil
  go_simp
  ((with_reducible refine (HRZ.out _ (by solve_by_elim [X0, X1, X2, X3])).mono ?_); rintro r v50 ⟨A50, c50, rfl, hU50, hl57, hy50⟩; replace hy50 : Ext w9 v50 := Ext.trans (a := w9) (by solve_by_elim [X0, X1, X2, X3]) hy50)
  refine hK.out _ _ ?hS70059x0 (fun H70059 => ?_)
  case hS70059x0 => first | (exact MK9.out _ (by solve_by_elim [X0, X1, X2, X3])) | ((try dsimp only); (exact MK9.out _ (by solve_by_elim [X0, X1, X2, X3])))
  clear hK K
  clear H70058
  (try simp only [PU])
  refine wpAnyH_ready (rs := [58]) (by kernel_rfl) (by simp) ?_
  refine AllReadyH.cons (o := ⟨_, _, _, _, _, _⟩) rfl (fun K hK => ?step70060x0) ?more70060x0
  case more70060x0 => exact AllReadyH.nil
  go_simp
  ((with_reducible refine (lv_Adj _ _ _ _ _ _ _ (Shares.ext hU50 (by solve_by_elim [X0, X1, X2, X3])) (Shares.ext hl57 (by solve_by_elim [X0, X1, X2, X3]))).mono ?_); rintro r v58 ⟨rfl, hy58⟩; replace hy58 : Ext w9 v58 := Ext.trans (a := w9) (by solve_by_elim [X0, X1, X2, X3]) hy58)
  refine hK.out _ _ ?hS70060x0 (fun H70060 => ?_)
  case hS70060x0 => first | (exact MK9.out _ (by solve_by_elim [X0, X1, X2, X3])) | ((try dsimp only); (exact MK9.out _ (by solve_by_elim [X0, X1, X2, X3])))
  clear hK K
  clear H70059
  (try simp only [PU])
  refine TK 59 (v := ?v70061) H70060 ?hy70061 ?_
  case hy70061 => (intro w hSw; (try dsimp only at hSw); go_simp <;> first | with_reducible rfl | rw [if_neg (by omega)] | rw [if_pos (by omega)])
  (try simp only [PU])
  refine TK 60 (v := ?v70062) H70060 ?hy70062 ?_
  case hy70062 => (intro w hSw; (try dsimp only at hSw); go_simp <;> first | with_reducible rfl | rw [if_neg (by omega)] | rw [if_pos (by omega)])
  (try simp only [PU])
  refine TK 61 (v := ?v70063) H70060 ?hy70063 ?_
  case hy70063 => (intro w hSw; (try dsimp only at hSw); go_simp <;> first | with_reducible rfl | rw [if_neg (by omega)] | rw [if_pos (by omega)])
  (try simp only [PU])
  refine wpAnyH_ready (rs := [62]) (by kernel_rfl) (by simp) ?_
  refine AllReadyH.cons (o := ⟨_, _, _, _, _, _⟩) rfl (fun K hK => ?step70064x0) ?more70064x0
  case more70064x0 => exact AllReadyH.nil
  go_simp
  ((with_reducible refine (HD.out _ (by solve_by_elim [X0, X1, X2, X3])).mono ?_); rintro r v62 ⟨rfl, hy62⟩; replace hy62 : Ext w9 v62 := Ext.trans (a := w9) (by solve_by_elim [X0, X1, X2, X3]) hy62)
  refine hK.out _ _ ?hS70064x0 (fun H70064 => ?_)
  case hS70064x0 => first | (exact MK9.out _ (by solve_by_elim [X0, X1, X2, X3])) | ((try dsimp only); (exact MK9.out _ (by solve_by_elim [X0, X1, X2, X3])))
  clear hK K
  clear H70060
  (try simp only [PU])
  refine TK 63 (v := ?v70065) H70064 ?hy70065 ?_
  case hy70065 => (intro w hSw; (try dsimp only at hSw); go_simp <;> first | with_reducible rfl | rw [if_neg (by omega)] | rw [if_pos (by omega)])
  (try simp only [PU])
  refine TK 64 (v := ?v70066) H70064 ?hy70066 ?_
  case hy70066 => (intro w hSw; (try dsimp only at hSw); go_simp <;> first | with_reducible rfl | rw [if_neg (by omega)] | rw [if_pos (by omega)])
  (try simp only [PU])
  refine TK 65 (v := ?v70067) H70064 ?hy70067 ?_
  case hy70067 => (intro w hSw; (try dsimp only at hSw); go_simp <;> first | with_reducible rfl | rw [if_neg (by omega)] | rw [if_pos (by omega)])
  (try simp only [PU])
  refine TK 66 (v := ?v70068) H70064 ?hy70068 ?_
  case hy70068 => (intro w hSw; (try dsimp only at hSw); go_simp <;> first | with_reducible rfl | rw [if_neg (by omega)] | rw [if_pos (by omega)])
  (try simp only [PU])
  refine wpAnyH_ready (rs := [67]) (by kernel_rfl) (by simp) ?_
  refine AllReadyH.cons (o := ⟨_, _, _, _, _, _⟩) rfl (fun K hK => ?step70069x0) ?more70069x0
  case more70069x0 => exact AllReadyH.nil
  go_simp
  ((with_reducible refine (HE.out _ (by solve_by_elim [X0, X1, X2, X3])).mono ?_); rintro r v67 ⟨A67, c67, rfl, hy67⟩; replace hy67 : Ext w9 v67 := Ext.trans (a := w9) (by solve_by_elim [X0, X1, X2, X3]) hy67)
  refine hK.out _ _ ?hS70069x0 (fun H70069 => ?_)
  case hS70069x0 => first | (exact MK9.out _ (by solve_by_elim [X0, X1, X2, X3])) | ((try dsimp only); (exact MK9.out _ (by solve_by_elim [X0, X1, X2, X3])))
  clear hK K
  clear H70064
  (try simp only [PU])
  refine TK 68 (v := ?v70070) H70069 ?hy70070 ?_
  case hy70070 => (intro w hSw; (try dsimp only at hSw); go_simp <;> first | with_reducible rfl | rw [if_neg (by omega)] | rw [if_pos (by omega)])
  (try simp only [PU])
  refine TK 69 (v := ?v70071) H70069 ?hy70071 ?_
  case hy70071 => (intro w hSw; (try dsimp only at hSw); go_simp <;> first | with_reducible rfl | rw [if_neg (by omega)] | rw [if_pos (by omega)])
  (try simp only [PU])
  refine TK 70 (v := ?v70072) H70069 ?hy70072 ?_
  case hy70072 => (intro w hSw; (try dsimp only at hSw); go_simp <;> first | with_reducible rfl | rw [if_neg (by omega)] | rw [if_pos (by omega)])
  (try simp only [PU])
  refine TK 71 (v := ?v70073) H70069 ?hy70073 ?_
  case hy70073 => (intro w hSw; (try dsimp only at hSw); go_simp <;> first | with_reducible rfl | rw [if_neg (by omega)] | rw [if_pos (by omega)])
  (try simp only [PU])
  refine wpAnyH_done (by kernel_rfl) ?_ _
  clear H70069
  go_wp2_with fail
  go_ret
  exact ⟨rfl, HX9.out.trans (by solve_by_elim [X0, X1, X2, X3])⟩
 go_simp
 ((with_reducible refine (HR.out _ (by solve_by_elim [X0, X1, X2, X3])).mono ?_); rintro r v50 ⟨A50, c50, rfl, hU50, hy50⟩; replace hy50 : Ext w9 v50 := Ext.trans (a := w9) (by solve_by_elim [X0, X1, X2, X3]) hy50)
 refine hK.out _ _ ?hS70058x0 (fun H70058 => ?_)
 case hS70058x0 => first | (exact MK9.out _ (by solve_by_elim [X0, X1, X2, X3])) | ((try dsimp only); (exact MK9.out _ (by solve_by_elim [X0, X1, X2, X3])))
 clear hK K
 clear H70047
 (try simp only [PU])
 refine wpAnyH_ready (rs := [57]) (by kernel_rfl) (by simp) ?_
 refine AllReadyH.cons (o := ⟨_, _, _, _, _, _⟩) rfl (fun K hK => ?step70074x0) ?more70074x0
 case more70074x0 => exact AllReadyH.nil
 go_simp
 refine hK.out _ _ ?hS70074x0 (fun H70074 => ?_)
 case hS70074x0 => first | (exact MK9.out _ (by solve_by_elim [X0, X1, X2, X3])) | ((try dsimp only); (exact MK9.out _ (by solve_by_elim [X0, X1, X2, X3])))
 clear hK K
 clear H70058
 (try simp only [PU])
 refine wpAnyH_ready (rs := [58]) (by kernel_rfl) (by simp) ?_
 refine AllReadyH.cons (o := ⟨_, _, _, _, _, _⟩) rfl (fun K hK => ?step70075x0) ?more70075x0
 case more70075x0 => exact AllReadyH.nil
 go_simp
 ((with_reducible refine (lv_Adj _ _ _ _ _ _ _ (Shares.ext hU50 (by solve_by_elim [X0, X1, X2, X3])) (sh_two _ ⟨1, 2, 1⟩ ⟨1, 3, 2⟩)).mono ?_); rintro r v58 ⟨rfl, hy58⟩; replace hy58 : Ext w9 v58 := Ext.trans (a := w9) (by solve_by_elim [X0, X1, X2, X3]) hy58)
 refine hK.out _ _ ?hS70075x0 (fun H70075 => ?_)
 case hS70075x0 => first | (exact MK9.out _ (by solve_by_elim [X0, X1, X2, X3])) | ((try dsimp only); (exact MK9.out _ (by solve_by_elim [X0, X1, X2, X3])))
 clear hK K
 clear H70074
 (try simp only [PU])
 refine TK 59 (v := ?v70076) H70075 ?hy70076 ?_
 case hy70076 => (intro w hSw; (try dsimp only at hSw); go_simp <;> first | with_reducible rfl | rw [if_neg (by omega)] | rw [if_pos (by omega)])
 (try simp only [PU])
 refine TK 60 (v := ?v70077) H70075 ?hy70077 ?_
 case hy70077 => (intro w hSw; (try dsimp only at hSw); go_simp <;> first | with_reducible rfl | rw [if_neg (by omega)] | rw [if_pos (by omega)])
 (try simp only [PU])
 refine TK 61 (v := ?v70078) H70075 ?hy70078 ?_
 case hy70078 => (intro w hSw; (try dsimp only at hSw); go_simp <;> first | with_reducible rfl | rw [if_neg (by omega)] | rw [if_pos (by omega)])
 (try simp only [PU])
 refine wpAnyH_ready (rs := [62]) (by kernel_rfl) (by simp) ?_
 refine AllReadyH.cons (o := ⟨_, _, _, _, _, _⟩) rfl (fun K hK => ?step70079x0) ?more70079x0
 case more70079x0 => exact AllReadyH.nil
 go_simp
 ((with_reducible refine (HD.out _ (by solve_by_elim [X0, X1, X2, X3])).mono ?_); rintro r v62 ⟨rfl, hy62⟩; replace hy62 : Ext w9 v62 := Ext.trans (a := w9) (by solve_by_elim [X0, X1, X2, X3]) hy62)
 refine hK.out _ _ ?hS70079x0 (fun H70079 => ?_)
 case hS70079x0 => first | (exact MK9.out _ (by solve_by_elim [X0, X1, X2, X3])) | ((try dsimp only); (exact MK9.out _ (by solve_by_elim [X0, X1, X2, X3])))
 clear hK K
 clear H70075
 (try simp only [PU])
 refine TK 63 (v := ?v70080) H70079 ?hy70080 ?_
 case hy70080 => (intro w hSw; (try dsimp only at hSw); go_simp <;> first | with_reducible rfl | rw [if_neg (by omega)] | rw [if_pos (by omega)])
 (try simp only [PU])
 refine TK 64 (v := ?v70081) H70079 ?hy70081 ?_
 case hy70081 => (intro w hSw; (try dsimp only at hSw); go_simp <;> first | with_reducible rfl | rw [if_neg (by omega)] | rw [if_pos (by omega)])
 (try simp only [PU])
 refine TK 65 (v := ?v70082) H70079 ?hy70082 ?_
 case hy70082 => (intro w hSw; (try dsimp only at hSw); go_simp <;> first | with_reducible rfl | rw [if_neg (by omega)] | rw [if_pos (by omega)])
 (try simp only [PU])
 refine TK 66 (v := ?v70083) H70079 ?hy70083 ?_
 case hy70083 => (intro w hSw; (try dsimp only at hSw); go_simp <;> first | with_reducible rfl | rw [if_neg (by omega)] | rw [if_pos (by omega)])
 (try simp only [PU])
 refine wpAnyH_ready (rs := [67]) (by kernel_rfl) (by simp) ?_
 refine AllReadyH.cons (o := ⟨_, _, _, _, _, _⟩) rfl (fun K hK => ?step70084x0) ?more70084x0
 case more70084x0 => exact AllReadyH.nil
 go_simp
 ((with_reducible refine (HE.out _ (by solve_by_elim [X0, X1, X2, X3])).mono ?_); rintro r v67 ⟨A67, c67, rfl, hy67⟩; replace hy67 : Ext w9 v67 := Ext.trans (a := w9) (by solve_by_elim [X0, X1, X2, X3]) hy67)
 refine hK.out _ _ ?hS70084x0 (fun H70084 => ?_)
 case hS70084x0 => first | (exact MK9.out _ (by solve_by_elim [X0, X1, X2, X3])) | ((try dsimp only); (exact MK9.out _ (by solve_by_elim [X0, X1, X2, X3])))
 clear hK K
 clear H70079
 (try simp only [PU])
 refine TK 68 (v := ?v70085) H70084 ?hy70085 ?_
 case hy70085 => (intro w hSw; (try dsimp only at hSw); go_simp <;> first | with_reducible rfl | rw [if_neg (by omega)] | rw [if_pos (by omega)])
 (try simp only [PU])
 refine TK 69 (v := ?v70086) H70084 ?hy70086 ?_
 case hy70086 => (intro w hSw; (try dsimp only at hSw); go_simp <;> first | with_reducible rfl | rw [if_neg (by omega)] | rw [if_pos (by omega)])
 (try simp only [PU])
 refine TK 70 (v := ?v70087) H70084 ?hy70087 ?_
 case hy70087 => (intro w hSw; (try dsimp only at hSw); go_simp <;> first | with_reducible rfl | rw [if_neg (by omega)] | rw [if_pos (by omega)])
 (try simp only [PU])
 refine TK 71 (v := ?v70088) H70084 ?hy70088 ?_
 case hy70088 => (intro w hSw; (try dsimp only at hSw); go_simp <;> first | with_reducible rfl | rw [if_neg (by omega)] | rw [if_pos (by omega)])
 (try simp only [PU])
 refine wpAnyH_done (by kernel_rfl) ?_ _
 clear H70084
 go_wp2_with fail
 go_ret
 exact ⟨rfl, HX9.out.trans (by solve_by_elim [X0, X1, X2, X3])⟩
end Go.Proofs.YtnheioehadldmaaGreat

/- THE WALK over the law ColumnBuilds. -/
namespace Go.Proofs.YtnheioehadldmaaGreat
open Go.RowKit
theorem same_self (c : Col) (ok ok' : Nat → Prop) (A B C D E F G H : Option Addr) (k0 k1 k2 k3 j0 j1 j2 j3 : Nat) (w : World) (ha : ColAt w ok A B C D c) (hb : ColAt w ok' E F G H c) :
  Calls Tryz.prog 8 #[agC c A B C D k0 k1 k2 k3, agC c E F G H j0 j1 j2 j3] w fun e w' => e = .returned (.bool true) ∧ Ext w w' :=
 (r12_Same c c ok ok' A B C D E F G H k0 k1 k2 k3 j0 j1 j2 j3 w ha hb).mono (fun _ _ ⟨h1, h2⟩ => ⟨h1.trans (by simp), h2⟩)
end Go.Proofs.YtnheioehadldmaaGreat

/- WHAT THE ROWS OF CHAPTER 12 LIST (nothing); entries, columns, bytes that come in. -/
namespace Go.Proofs.YtnheioehadldmaaGreat
open Go.ChangeShapes Go.WideShapes Go.ChangeAt Go.RowKit
open Go.ChangeMaps (open_string shut_string)
abbrev laidList : List (String × DataW Unit) := Rows.columnBuildsRow.laid
/-- The laid heap meets the condition. -/
theorem door_met (os : Os) (args : Array Value) : laidMetH Tryz.prog laidList ((World.laidAll Tryz.prog os laidList).forCall (fun _ _ => 0) ⟨#[], args, []⟩).memory := by
 rw [MakeChecks.laidMetH_plain _ _ _ (by kernel_rfl)]
 exact laidMet_laidAll _ (by kernel_rfl) (by kernel_rfl)
theorem cellsIntC : Tryz.prog.cellsOf 3 = 1 := by kernel_rfl
theorem cellsIntsC : Tryz.prog.cellsOf 27 = 1 := by kernel_rfl
theorem cellsByteC : Tryz.prog.cellsOf 5 = 1 := by kernel_rfl
theorem cellsColC : Tryz.prog.cellsOf 29 = 4 := by kernel_rfl
theorem bytesIntC : 0 < Tryz.prog.bytesOf 3 := of_decide_eq_true (by kernel_rfl)
theorem bytesByteC : 0 < Tryz.prog.bytesOf 5 := of_decide_eq_true (by kernel_rfl)
section
variable {H : Type} {enc : TypeId × Value → H} {w : World} {base : Nat} {spare : Nat → Bool} {held : Bool}
theorem open_intE {fuel : Nat} {cs : List Value} {x : DataW H × List MemPlace} (_hwt : ∀ k ∈ x.1.weights Tryz.prog 3, k ≤ reachBytes) (h : DataW.trod enc Tryz.prog w base spare held fuel 3 cs = some x) : ∃ v : Int, (True) ∧ ∀ b o, (∀ j u, cs[j]? = some u → w.cell? ⟨b, o + j, none⟩ = some u) → IntC w (fun _ => True) b o v := by
 obtain ⟨k, e, -, -⟩ := DataW.trod_int (k := .i64) Tryz.underlying3 h
 cases e
 exact ⟨k, trivial, fun b o hc => ⟨trivial, hc 0 _ rfl⟩⟩
theorem open_byteE {fuel : Nat} {cs : List Value} {x : DataW H × List MemPlace} (_hwt : ∀ k ∈ x.1.weights Tryz.prog 5, k ≤ reachBytes) (h : DataW.trod enc Tryz.prog w base spare held fuel 5 cs = some x) : ∃ v : Nat, (v < 256) ∧ ∀ b o, (∀ j u, cs[j]? = some u → w.cell? ⟨b, o + j, none⟩ = some u) → ByteC w (fun _ => True) b o v := by
 obtain ⟨k, e, -, hk⟩ := DataW.trod_int (k := .u8) Tryz.underlying5 h
 cases e
 have hb : 0 ≤ k ∧ k < 256 := by simp [Lit.wf, IntKind.min, IntKind.max, IntKind.signed, IntKind.bits] at hk; omega
 exact ⟨k.toNat, by omega, fun b o hc => ⟨trivial, by have h0 := hc 0 _ rfl; rw [Nat.add_zero] at h0; rw [h0, Int.toNat_of_nonneg hb.1]⟩⟩
theorem open_intsC {fuel : Nat} {cs : List Value} {x : DataW H × List MemPlace} (hwt : ∀ k ∈ x.1.weights Tryz.prog 27, k ≤ reachBytes) (h : DataW.trod enc Tryz.prog w base spare held fuel 27 cs = some x) :
  ∃ (l : List Int) (A : Option Addr) (c : Nat), cs = [.slice A l.length c] ∧ l.length ≤ c ∧ SliceR (IntC w (fun _ => True)) 1 A l ∧ ∀ v ∈ l, True :=
 slice_gen (α := Int) Tryz.underlying27 cellsIntC bytesIntC (by decide) (IntC w (fun _ => True)) (fun v => True) (fun _ _ _ _ hk hy => open_intE hk hy) hwt h
theorem open_bytesC {fuel : Nat} {cs : List Value} {x : DataW H × List MemPlace} (hwt : ∀ k ∈ x.1.weights Tryz.prog 35, k ≤ reachBytes) (h : DataW.trod enc Tryz.prog w base spare held fuel 35 cs = some x) :
  ∃ (l : List Nat) (A : Option Addr) (c : Nat), cs = [.slice A l.length c] ∧ l.length ≤ c ∧ SliceR (ByteC w (fun _ => True)) 1 A l ∧ ∀ v ∈ l, v < 256 :=
 slice_gen (α := Nat) Tryz.underlying35 cellsByteC bytesByteC (by decide) (ByteC w (fun _ => True)) (fun v => v < 256) (fun _ _ _ _ hk hy => open_byteE hk hy) hwt h
set_option maxRecDepth 100000 in
theorem top_bytes {r : Reach} {b0 : Nat} {v : Value} {dd : DataW H} {p : List MemPlace} (hw : Value.okWide Tryz.prog w r b0 35 v) (hwt : ∀ k ∈ dd.weights Tryz.prog 35, k ≤ reachBytes) (h : DataW.Trod enc Tryz.prog w base spare held 35 v dd p) : ∃ (l : List Nat) (A : Option Addr) (c : Nat), v = .slice A l.length c ∧ l.length ≤ c ∧ Byts w (fun _ => True) A l ∧ ∀ x ∈ l, x < 256 := by
 obtain ⟨fuel, hf⟩ := h
 obtain ⟨A', n', c', rfl⟩ := okWide_slice Tryz.underlying35 hw
 obtain ⟨l, A, c, e, h1, h2, h3⟩ := open_bytesC hwt hf
 exact ⟨l, A, c, by simpa [Value.cells] using e, h1, h2, h3⟩
set_option maxRecDepth 100000 in
theorem top_col {r : Reach} {b0 : Nat} {v : Value} {dd : DataW H} {p : List MemPlace} (hv : Value.okWide Tryz.prog w r b0 29 v) (hwt0 : ∀ k ∈ dd.weights Tryz.prog 29, k ≤ reachBytes) (h0 : DataW.Trod enc Tryz.prog w base spare held 29 v dd p) :
  ∃ (c : Col) (A B Cx D : Option Addr) (k0 k1 k2 k3 : Nat), v = agC c A B Cx D k0 k1 k2 k3 ∧ ColAt w (fun _ => True) A B Cx D c := by
 obtain ⟨csa, rfl, -⟩ := okWide_struct Tryz.underlying29 hv
 obtain ⟨fuel, hf⟩ := h0
 obtain ⟨cs, rfl⟩ : ∃ cs : List Value, csa = cs.toArray := ⟨csa.toList, by simp⟩
 obtain ⟨x, hx⟩ : ∃ x : DataW H × List MemPlace, x = (dd, p) := ⟨_, rfl⟩
 rw [← hx] at hf
 have hwt : ∀ k ∈ x.1.weights Tryz.prog 29, k ≤ reachBytes := by rw [hx]; exact hwt0
 have h : DataW.trod enc Tryz.prog w base spare held fuel 29 cs = some x := by simpa [Value.cells] using hf
 obtain ⟨xs, m, hm, hxx, hl, hlen, hg⟩ := DataW.trod_struct Tryz.underlying29 h
 rw [cellsColC] at hl
 obtain ⟨c0, c1, c2, c3, rfl⟩ := four_L hl
 obtain ⟨y0, y1, y2, y3, rfl⟩ := four_L (show xs.length = 4 from hlen)
 have g0 : DataW.trod enc Tryz.prog w base spare held m 27 (([c0, c1, c2, c3].drop 0).take (Tryz.prog.cellsOf 27)) = some y0 := hg 0 _ rfl
 rw [cellsIntsC] at g0
 have g1 : DataW.trod enc Tryz.prog w base spare held m 27 (([c0, c1, c2, c3].drop 1).take (Tryz.prog.cellsOf 27)) = some y1 := hg 1 _ rfl
 rw [cellsIntsC] at g1
 have g2 : DataW.trod enc Tryz.prog w base spare held m 27 (([c0, c1, c2, c3].drop 2).take (Tryz.prog.cellsOf 27)) = some y2 := hg 2 _ rfl
 rw [cellsIntsC] at g2
 have g3 : DataW.trod enc Tryz.prog w base spare held m 27 (([c0, c1, c2, c3].drop 3).take (Tryz.prog.cellsOf 27)) = some y3 := hg 3 _ rfl
 rw [cellsIntsC] at g3
 have hwe : ∀ k ∈ DataW.weightsEach Tryz.prog [27, 27, 27, 27] [y0.1, y1.1, y2.1, y3.1], k ≤ reachBytes := fun k hk => hwt k (by
  rw [show x.1 = .agg [y0.1, y1.1, y2.1, y3.1] from congrArg Prod.fst hxx]
  simp only [DataW.weights, Tryz.underlying29]
  exact hk)
 obtain ⟨l0, A0, c0', e0, -, v0, -⟩ := open_intsC (fun k hk => hwe k (DataW.weights_mem_each (j := 0) rfl rfl k hk)) g0
 obtain ⟨l1, A1, c1', e1, -, v1, -⟩ := open_intsC (fun k hk => hwe k (DataW.weights_mem_each (j := 1) rfl rfl k hk)) g1
 obtain ⟨l2, A2, c2', e2, -, v2, -⟩ := open_intsC (fun k hk => hwe k (DataW.weights_mem_each (j := 2) rfl rfl k hk)) g2
 obtain ⟨l3, A3, c3', e3, -, v3, -⟩ := open_intsC (fun k hk => hwe k (DataW.weights_mem_each (j := 3) rfl rfl k hk)) g3
 cases e0; cases e1; cases e2; cases e3
 exact ⟨⟨l0, l1, l2, l3⟩, A0, A1, A2, A3, c0', c1', c2', c3', rfl, ⟨v0, v1, v2, v3⟩⟩
end
end Go.Proofs.YtnheioehadldmaaGreat

/- THE WALKS over the reference's number and minimal. -/
namespace Go.Proofs.YtnheioehadldmaaGreat
open Go.RowKit
/-- the value of the first digits -/
def dv (L : List Nat) : Nat → Nat
 | 0 => 0
 | j + 1 => dv L j + 128 ^ j * (L[j]! % 128)
theorem dv_lt (L : List Nat) : ∀ j, dv L j < 128 ^ j
 | 0 => Nat.one_pos
 | j + 1 => by
  have ih := dv_lt L j
  show dv L j + 128 ^ j * (L[j]! % 128) < _
  rw [Nat.pow_succ]
  have : 128 ^ j * (L[j]! % 128) + 128 ^ j ≤ 128 ^ j * 128 := by rw [← Nat.mul_succ]; exact Nat.mul_le_mul_left _ (by have := Nat.mod_lt L[j]! (show 0 < 128 by decide); omega)
  omega
theorem dv_lt64 {L : List Nat} {k : Nat} (h : k < 9 ∨ (k = 9 ∧ L[k]! ≤ 1)) : dv L (k + 1) < 18446744073709551616 := by
 rcases h with h | ⟨rfl, h⟩
 ·exact Nat.lt_of_lt_of_le (dv_lt L (k + 1)) (Nat.le_trans (Nat.pow_le_pow_right (by decide) (show k + 1 ≤ 9 by omega)) (by decide))
 ·have h1 := dv_lt L 9
  have h2 : L[9]! % 128 ≤ 1 := by omega
  show dv L 9 + 128 ^ 9 * (L[9]! % 128) < _
  have h3 : 128 ^ 9 * (L[9]! % 128) ≤ 128 ^ 9 * 1 := Nat.mul_le_mul_left _ h2
  omega
/-- what number gives -/
def numP (at_ : Nat) (L : List Nat) (x y z : Int) : Prop := (z ≠ 0 ∧ x = 0 ∧ y = 0 ∧ rdF 10 L = .error z) ∨ (z = 0 ∧ ∃ k, k < 10 ∧ k < L.length ∧ x = ((dv L (k + 1) : Nat) : Int) ∧ y = ((at_ + k + 1 : Nat) : Int) ∧ dv L (k + 1) < 18446744073709551616 ∧ (L[k]! = 0 ∧ 0 < k → rdF 10 L = .error 2 ∧ dv L (k + 1) ≤ 9223372036854775807) ∧ (¬ (L[k]! = 0 ∧ 0 < k) → rdF 10 L = .ok (dv L (k + 1), L.drop (k + 1))))
theorem numP_ok {at_ k : Nat} {L : List Nat} (h10 : k < 10) (hk : k < L.length) (hR : rdF 10 L = mapR (dv L k) (128 ^ k) (rdF (9 - k + 1) (L[k]! :: L.drop (k + 1)))) (hy : L[k]! < 128) (h9 : ¬ (k = 9 ∧ 1 < L[k]!)) : numP at_ L ((dv L (k + 1) : Nat) : Int) ((at_ + k + 1 : Nat) : Int) 0 := by
 refine .inr ⟨rfl, k, h10, hk, rfl, rfl, dv_lt64 (by omega), fun ⟨h0, hk0⟩ => ?_, fun hn => ?_⟩
 ·rw [h0] at hR
  refine ⟨rd_zero hR (by omega), ?_⟩
  have h1 : dv L (k + 1) = dv L k := by show dv L k + 128 ^ k * (L[k]! % 128) = _; rw [h0]; rfl
  have h2 := dv_lt L k
  have h3 : 128 ^ k ≤ 128 ^ 9 := Nat.pow_le_pow_right (by decide) (by omega)
  omega
 ·rw [rd_ok hR hy (by omega) (by omega)]
  show _ = Except.ok (dv L k + 128 ^ k * (L[k]! % 128), _)
  rw [Nat.mod_eq_of_lt hy]
theorem dv_step {L : List Nat} {j u V : Nat} (h : u * 128 ^ (j + 1) + dv L (j + 1) = V) : (u * 128 + L[j]! % 128) * 128 ^ j + dv L j = V ∧ u * 128 ≤ V ∧ u * 128 + L[j]! % 128 ≤ V := by
 have e : (u * 128 + L[j]! % 128) * 128 ^ j + dv L j = V := by
  rw [← h, Nat.pow_succ, Nat.add_mul, Nat.mul_assoc]
  show _ = u * (128 ^ j * 128) + (dv L j + 128 ^ j * (L[j]! % 128))
  rw [Nat.mul_comm 128 (128 ^ j), Nat.mul_comm (L[j]! % 128) (128 ^ j)]
  omega
 have hp : 1 ≤ 128 ^ j := Nat.pow_pos (by decide)
 have h2 : (u * 128 + L[j]! % 128) * 1 ≤ (u * 128 + L[j]! % 128) * 128 ^ j := Nat.mul_le_mul_left _ hp
 exact ⟨e, by omega, by omega⟩
set_option maxRecDepth 100000 in
set_option maxHeartbeats 3200000 in
theorem r5_number (l : List Nat) (ok : Nat → Prop) (A : Option Addr) (c at_ : Nat) (w : World) (hv : Byts w ok A l) (hb : ∀ x ∈ l, x < 256) (ha : at_ ≤ l.length) :
  Calls Tryz.prog 84 #[.slice A l.length c, .int .i64 (at_ : Int)] w fun e w' => ∃ x y z : Int, e = .returned (.tuple #[.int .u64 x, .int .i64 y, .int .i64 z]) ∧ numP at_ (l.drop at_) x y z ∧ Ext w w' := by
 have hlm := hv.1
 obtain ⟨L, hLd⟩ : ∃ L, L = l.drop at_ := ⟨_, rfl⟩
 have hLn : L.length = l.length - at_ := by rw [hLd, List.length_drop]
 have HCL := Lib.hid (fun k (hk : k < L.length) => (by
  obtain ⟨b, o, rfl, hc⟩ := hv.2 (by omega)
  refine ⟨b, o, rfl, ?_, ?_⟩
  ·have h := (hc (at_ + k) (by omega)).2
   rw [Nat.mul_one] at h
   have e : L[k]! = l[at_ + k]'(by omega) := by rw [getElem!_pos L k hk]; simp only [hLd, List.getElem_drop]
   rw [e]; exact h
  ·rw [getElem!_pos L k hk]; exact hb _ (List.mem_of_mem_drop (by rw [← hLd]; exact List.getElem_mem hk)) : ∃ b o, A = some ⟨b, o, none⟩ ∧ w.cell? ⟨b, o + (at_ + k), none⟩ = some (.int .u8 ((L[k]! : Nat) : Int)) ∧ L[k]! < 256))
 rw [← hLd]
 generalize hN : l.length = N at *
 have HLN := Lib.hid hLn
 have hLm : L.length ≤ N := by omega
 have g0 : decide ((at_ : Int) < 0) = false := decide_eq_false (by omega)
 have g1 : decide ((N : Int) < (at_ : Int)) = false := decide_eq_false (by omega)
 have g2 : decide (N < at_) = false := decide_eq_false (by omega)
 clear hv hb hLd hN hLn
 have HST := Lib.hid (rd_start L)
 obtain ⟨X, hX⟩ : ∃ X, X = rdF 10 L := ⟨_, rfl⟩
 rw [← hX] at HST
 have HX := Lib.hid hX
 clear hX
 go_enter Tryz.func84, Tryz.ntmps84
 go_wp2_with fail
 clear g0 g1 g2
 go_loopw [7] (fun u7 W => ∃ (k : Nat), u7 = .int .i64 (k : Int) ∧ k ≤ 10 ∧ k ≤ L.length ∧ Hid (X = mapR (dv L k) (128 ^ k) (rdF (10 - k) (L.drop k))) ∧ Hid (Ext w W)) (fun u7 _ => 10 - (intOf u7).toNat)
 case atStart => exact ⟨0, rfl, by omega, Nat.zero_le _, Lib.hid (by rw [HX.out]; exact rd_start L), Lib.hid (Ext.refl _)⟩
 case round =>
  obtain ⟨k, rfl, hk10, hkl, HR, hE⟩ := hrel
  by_cases h10 : k = 10
  ·have HT := Lib.hid (by have h := HR.out; rw [h10] at h; exact rd_many h : X = .error 4)
   rw [HX.out] at HT
   subst h10
   clear HR HX
   go_wp2_with fail
   go_ret3
   exact ⟨_, _, _, rfl, .inl ⟨by decide, rfl, rfl, HT.out⟩, hE.out⟩
  ·have a1 : decide (k < 10) = true := decide_eq_true (by omega)
   have a2 : decide ((k : Int) < 10) = true := decide_eq_true (by omega)
   have b1 : ((k : Int) == 10) = false := by rw [beq_eq_false_iff_ne]; omega
   have b2 : (k == 10) = false := by rw [beq_eq_false_iff_ne]; omega
   by_cases hlt : k < L.length
   ·have hlN : at_ + k < N := by have := HLN.out; omega
    have c1 : decide (at_ + k < N) = true := decide_eq_true hlN
    have c2 : decide ((at_ : Int) + (k : Int) < (N : Int)) = true := decide_eq_true (by omega)
    have c3 : decide ((N : Int) ≤ (at_ : Int) + (k : Int)) = false := decide_eq_false (by omega)
    have c4 : decide (N ≤ at_ + k) = false := decide_eq_false (by omega)
    obtain ⟨b, o, rfl, d0, hyb⟩ := HCL.out k hlt
    replace d0 := hE.out.cell d0
    have HRR := Lib.hid (by have h := HR.out; rw [List.drop_eq_getElem_cons hlt, show 10 - k = 9 - k + 1 by omega, ← getElem!_pos L k hlt] at h; exact h : X = mapR (dv L k) (128 ^ k) (rdF (9 - k + 1) (L[k]! :: L.drop (k + 1))))
    obtain ⟨y, hy⟩ : ∃ y, y = L[k]! := ⟨_, rfl⟩
    rw [← hy] at d0 hyb
    have HY := Lib.hid hy
    have HYB := Lib.hid hyb
    clear hyb HR
    by_cases hge : 128 ≤ y
    ·have HR2 := Lib.hid (by have h := rd_more HRR.out (by rw [HY.out] at hge; exact hge); rw [show 9 - k = 10 - (k + 1) by omega] at h; exact h : X = mapR (dv L (k + 1)) (128 ^ (k + 1)) (rdF (10 - (k + 1)) (L.drop (k + 1))))
     have y1 : decide (128 ≤ y) = true := decide_eq_true hge
     have y2 : decide (128 ≤ (y : Int)) = true := decide_eq_true (by omega)
     clear hy HRR
     go_wp2_with fail
     go_roundw
     case rel => exact ⟨k + 1, by go_num, by omega, by omega, HR2, hE⟩
     case measure => simp [intOf]; omega
    ·have y1 : decide (128 ≤ y) = false := decide_eq_false hge
     have y2 : decide (128 ≤ (y : Int)) = false := decide_eq_false (by omega)
     by_cases h9 : k = 9 ∧ 1 < y
     ·have HT := Lib.hid (by have h := HRR.out; rw [show 9 - k + 1 = 1 by omega, ← HY.out] at h; rw [← HX.out]; exact rd_long h h9.2 (by omega) : rdF 10 L = .error 4)
      have e1 : (k == 9) = true := by rw [beq_iff_eq]; exact h9.1
      have e2 : ((k : Int) == 9) = true := by rw [beq_iff_eq]; omega
      have e3 : decide (1 < y) = true := decide_eq_true h9.2
      have e4 : decide (1 < (y : Int)) = true := decide_eq_true (by omega)
      clear h9 hy HRR HX
      go_wp2_with fail
      go_ret3
      exact ⟨_, _, _, rfl, .inl ⟨by decide, rfl, rfl, HT.out⟩, hE.out⟩
     ·have HP := Lib.hid (numP_ok (at_ := at_) (by omega) hlt (HX.out.symm.trans HRR.out) (by rw [← HY.out]; omega) (by rw [← HY.out]; exact h9))
      have HV := Lib.hid (dv_lt64 (L := L) (k := k) (by rw [← HY.out]; omega))
      obtain ⟨V, hV⟩ : ∃ V, V = dv L (k + 1) := ⟨_, rfl⟩
      rw [← hV] at HP HV
      have HVE := Lib.hid hV
      obtain ⟨e9, he9⟩ : ∃ e9, e9 = decide (k = 9) := ⟨_, rfl⟩
      have e1 : (k == 9) = e9 := by rw [he9]; rfl
      have e2 : ((k : Int) == 9) = e9 := by rw [he9, Bool.eq_iff_iff, beq_iff_eq, decide_eq_true_iff]; omega
      have e3 : e9 = true → decide (1 < y) = false := fun h => decide_eq_false (by rw [he9] at h; have := of_decide_eq_true h; omega)
      have HE3 := Lib.hid e3
      clear h9 hy HRR HX hV he9 e3
      have hkk : k < 10 := by omega
      rcases (show e9 = false ∨ (e9 = true ∧ decide (1 < y) = false ∧ decide (1 < (y : Int)) = false) by
       cases e9
       ·exact .inl rfl
       ·have h := HE3.out rfl
        exact .inr ⟨rfl, h, decide_eq_false (by have := of_decide_eq_false h; omega)⟩) with rfl | ⟨rfl, e3, e4⟩
      all_goals
       go_wp2_with fail
       go_loopw [8, 9] (fun u8 u9 W => ∃ (j u : Nat) (z : Int), u8 = .int .u64 (u : Int) ∧ u9 = .int .i64 z ∧ Hid (z = (j : Int) - 1) ∧ j ≤ k + 1 ∧ Hid (u * 128 ^ j + dv L j = V) ∧ Hid (Ext w W)) (fun _ u9 _ => (intOf u9 + 1).toNat)
       case atStart => exact ⟨k + 1, 0, (k : Int), rfl, rfl, Lib.hid (by omega), Nat.le_refl _, Lib.hid (by rw [Nat.zero_mul, Nat.zero_add]; exact HVE.out.symm), hE⟩
       case round =>
        clear hE d0
        obtain ⟨j, u, z, rfl, rfl, HZ, hj, HU, hE⟩ := hrel
        cases j with
        | zero =>
         have hz : z = -1 := HZ.out
         subst hz
         have hu : u = V := by have h := HU.out; rw [Nat.pow_zero, Nat.mul_one] at h; exact h
         subst hu
         clear HZ HU HVE
         go_wp2_with fail
         go_ret3
         exact ⟨_, _, _, rfl, by have h := HP.out; exact h, hE.out⟩
        | succ j =>
         have hz : z = (j : Int) := by rw [HZ.out]; omega
         subst hz
         have HS := Lib.hid (dv_step HU.out)
         obtain ⟨b', o', hb', q0, hqb⟩ := HCL.out j (by omega)
         cases hb'
         replace q0 := hE.out.cell q0
         have r1 : u * 128 < 18446744073709551616 := by have h1 := HS.out.2.1; have h2 := HV.out; omega
         have r2 : u * 128 + L[j]! % 128 < 18446744073709551616 := by have h1 := HS.out.2.2; have h2 := HV.out; omega
         clear HZ HU
         generalize L[j]! = t at *
         have v1 : IntKind.u64.wrap ((u : Int) * 128) = (u : Int) * 128 := by rw [IntKind.wrap_u64]; omega
         have v2 : IntKind.u64.wrap ((u : Int) * 128 + (t : Int) % 128) = (u : Int) * 128 + (t : Int) % 128 := by rw [IntKind.wrap_u64]; omega
         have v3 : IntKind.u64.wrap ((t : Int) % 128) = (t : Int) % 128 := by rw [IntKind.wrap_u64]; omega
         go_wp2_with fail
         go_roundw
         case rel => exact ⟨j, u * 128 + t % 128, (j : Int) - 1, by first | rfl | go_num, by first | rfl | go_num, Lib.hid rfl, by omega, Lib.hid HS.out.1, hE⟩
         case measure => simp [intOf]
   ·have hkE : k = L.length := by omega
    have HT := Lib.hid (by have h := HR.out; rw [hkE, List.drop_length, ← hkE, show 10 - k = 9 - k + 1 by omega] at h; rw [← HX.out]; exact rd_short h : rdF 10 L = .error 3)
    have hlN : N = at_ + k := by have := HLN.out; omega
    clear HR HX hkE hlt HCL HLN hLm
    subst hlN
    go_wp2_with fail
    go_ret3
    exact ⟨_, _, _, rfl, .inl ⟨by decide, rfl, rfl, HT.out⟩, hE.out⟩
set_option maxRecDepth 100000 in
theorem r5_minimal (l : List Nat) (ok : Nat → Prop) (A : Option Addr) (c at_ k : Nat) (w : World) (hv : Byts w ok A l) (hk : at_ + k < l.length) :
  Calls Tryz.prog 85 #[.slice A l.length c, .int .i64 (at_ : Int), .int .i64 ((at_ + k + 1 : Nat) : Int)] w fun e w' => e = .returned (.bool (decide (¬ ((l.drop at_)[k]! = 0 ∧ 0 < k)))) ∧ Ext w w' := by
 have hlm := hv.1
 obtain ⟨b, o, rfl, hc⟩ := hv.2 (by omega)
 have d0 := (hc (at_ + k) hk).2
 have e : (l.drop at_)[k]! = l[at_ + k] := by rw [getElem!_pos _ k (by rw [List.length_drop]; omega)]; simp only [List.getElem_drop]
 rw [e]
 rw [Nat.mul_one] at d0
 clear hc hv e
 generalize l[at_ + k] = y at *
 generalize l.length = N at *
 have HPU := Lib.hid (Ext.refl w)
 by_cases h0 : k = 0
 ·have K : decide (¬ (y = 0 ∧ 0 < k)) = true := decide_eq_true (by omega)
  rw [K]
  clear K
  subst h0
  go_enter Tryz.func85, Tryz.ntmps85
  go_wp2_with fail
  go_ret
  first | exact ⟨rfl, HPU.out⟩ | exact ⟨rfl, (by solve_by_elim [X0, X1, X2, X3])⟩
 ·have g1 : (k == 0) = false := by rw [beq_eq_false_iff_ne]; exact h0
  have g2 : (((at_ + k + 1 : Nat) : Int) == (at_ : Int) + 1) = false := by rw [beq_eq_false_iff_ne]; omega
  have g3 : ((at_ : Int) + (k : Int) + 1 == (at_ : Int) + 1) = false := by rw [beq_eq_false_iff_ne]; omega
  obtain ⟨by0, hby⟩ : ∃ b : Bool, b = (y != 0) := ⟨_, rfl⟩
  have g4 : (y != 0) = by0 := hby.symm
  have g5 : ((y : Int) != 0) = by0 := by rw [hby, Bool.eq_iff_iff, bne_iff_ne, bne_iff_ne]; omega
  have K := Lib.hid (by rw [hby, Bool.eq_iff_iff, decide_eq_true_iff, bne_iff_ne]; omega : decide (¬ (y = 0 ∧ 0 < k)) = by0)
  rw [K.out]
  clear K hby
  go_enter Tryz.func85, Tryz.ntmps85
  go_wp2_with fail
  go_ret
  first | exact ⟨rfl, HPU.out⟩ | exact ⟨rfl, (by solve_by_elim [X0, X1, X2, X3])⟩
end Go.Proofs.YtnheioehadldmaaGreat

/- THE WALKS over the reference's Uint and Int. -/
namespace Go.Proofs.YtnheioehadldmaaGreat
open Go.RowKit
theorem rd_len {l r : List Nat} {at_ k : Nat} (ha : at_ ≤ l.length) (hk : k < (l.drop at_).length) (hr : r = (l.drop at_).drop (k + 1)) : ((at_ + k + 1 : Nat) : Int) = (l.length : Int) - r.length := by
 rw [List.length_drop] at hk
 rw [hr, List.length_drop, List.length_drop]
 omega
set_option maxRecDepth 100000 in
theorem r5_Uint (l : List Nat) (ok : Nat → Prop) (A : Option Addr) (c at_ : Nat) (w : World) (hv : Byts w ok A l) (hb : ∀ x ∈ l, x < 256) (ha : at_ ≤ l.length) :
  Calls Tryz.prog 61 #[.slice A l.length c, .int .i64 (at_ : Int)] w fun e w' => ∃ x y z : Int, e = .returned (.tuple #[.int .i64 x, .int .i64 y, .int .i64 z]) ∧ numOut l.length (uI (l.drop at_)) x y z ∧ Ext w w' := by
 have HV := Lib.hid (r5_number l ok A c at_ w hv hb ha)
 have HM := Lib.hid (fun k W (x : Ext w W) (hk : at_ + k < l.length) => r5_minimal l ok A c at_ k W (hv.ext x) hk)
 have HLN := Lib.hid (fun k r (hk : k < (l.drop at_).length) (hr : r = (l.drop at_).drop (k + 1)) => rd_len ha hk hr)
 have HLL := Lib.hid (fun k (hk : k < (l.drop at_).length) => (by rw [List.length_drop] at hk; omega : at_ + k < l.length))
 generalize hN : l.length = N at *
 generalize l.drop at_ = L at *
 have HE := Lib.hid (rdF_err 10 L)
 have HB := Lib.hid (fun (u : Nat) (r : List Nat) (h : rdF 10 L = .ok (u, r)) (hu : 9223372036854775807 < u) => uI_big h hu)
 have HO := Lib.hid (fun (u : Nat) (r : List Nat) (h : rdF 10 L = .ok (u, r)) (hu : u ≤ 9223372036854775807) => uI_ok h hu)
 have HR := Lib.hid (fun (e : Int) (h : rdF 10 L = .error e) => uI_err h)
 obtain ⟨U, hU⟩ : ∃ U, U = uI L := ⟨_, rfl⟩
 rw [← hU] at HB HO HR ⊢
 clear hv hb hU
 go_enter Tryz.func61, Tryz.ntmps61
 go_upto_region 2 with (go_at_call 84; ((with_reducible refine (HV.out).mono ?_); rintro e w2 ⟨x, y, z, rfl, hO, hx⟩))
 clear HV
 rcases hO with ⟨hz, rfl, rfl, hR⟩ | ⟨rfl, k, h10, hk, rfl, hy, h64, hbad, hok⟩
 ·have gz : (z != 0) = true := by rw [bne_iff_ne]; exact hz
  have HT := Lib.hid (HR.out _ hR)
  have HZ := Lib.hid (HE.out z hR)
  clear hz hR
  go_wp2_with fail
  go_ret3
  exact ⟨_, _, _, rfl, by rw [HT.out]; exact ⟨rfl, rfl, rfl, HZ.out⟩, hx⟩
 ·have HBAD := Lib.hid hbad
  have HOK := Lib.hid hok
  have HMC := Lib.hid (HM.out k w2 hx (HLL.out k hk))
  have HYY := Lib.hid (hy.trans (HLN.out k _ hk rfl))
  rw [← hy] at HMC
  clear hy
  obtain ⟨bb, hbb⟩ : ∃ bb, bb = decide (¬ (L[k]! = 0 ∧ 0 < k)) := ⟨_, rfl⟩
  rw [← hbb] at HMC
  have HBB := Lib.hid hbb
  obtain ⟨u, hu⟩ : ∃ u, u = dv L (k + 1) := ⟨_, rfl⟩
  rw [← hu] at h64 HBAD HOK ⊢
  clear hbad hok hbb hu HM HLN HLL
  by_cases hu : u ≤ 9223372036854775807
  ·have g : decide ((9223372036854775807 : Int) < (u : Int)) = false := decide_eq_false (by omega)
   have g' : decide (9223372036854775807 < u) = false := decide_eq_false (by omega)
   have hw : IntKind.i64.wrap (u : Int) = (u : Int) := by rw [IntKind.wrap_i64]; omega
   cases bb
   ·have HT := Lib.hid (HR.out _ (HBAD.out (Decidable.not_not.1 (of_decide_eq_false HBB.out.symm))).1)
    go_wp2_with (go_at_call 85; ((with_reducible refine (HMC.out).mono ?_); rintro e w3 ⟨rfl, hx3⟩))
    go_ret3
    exact ⟨_, _, _, rfl, by rw [HT.out]; exact ⟨rfl, rfl, rfl, by omega⟩, hx.trans hx3⟩
   ·have HT := Lib.hid (HO.out _ _ (HOK.out (of_decide_eq_true HBB.out.symm)) hu)
    go_wp2_with (go_at_call 85; ((with_reducible refine (HMC.out).mono ?_); rintro e w3 ⟨rfl, hx3⟩))
    go_ret3
    exact ⟨_, _, _, rfl, by rw [HT.out]; exact ⟨rfl, HYY.out, rfl⟩, hx.trans hx3⟩
  ·have g : decide ((9223372036854775807 : Int) < (u : Int)) = true := decide_eq_true (by omega)
   have g' : decide (9223372036854775807 < u) = true := decide_eq_true (by omega)
   have HT := Lib.hid (by
    cases bb
    ·exact absurd (HBAD.out (Decidable.not_not.1 (of_decide_eq_false HBB.out.symm))).2 hu
    ·exact HB.out _ _ (HOK.out (of_decide_eq_true HBB.out.symm)) (by omega) : U = .error 4)
   go_wp2_with fail
   go_ret3
   exact ⟨_, _, _, rfl, by rw [HT.out]; exact ⟨rfl, rfl, rfl, by omega⟩, hx⟩
set_option maxRecDepth 100000 in
theorem r5_Int (l : List Nat) (ok : Nat → Prop) (A : Option Addr) (c at_ : Nat) (w : World) (hv : Byts w ok A l) (hb : ∀ x ∈ l, x < 256) (ha : at_ ≤ l.length) :
  Calls Tryz.prog 62 #[.slice A l.length c, .int .i64 (at_ : Int)] w fun e w' => ∃ x y z : Int, e = .returned (.tuple #[.int .i64 x, .int .i64 y, .int .i64 z]) ∧ numOut l.length (iE (l.drop at_)) x y z ∧ Ext w w' := by
 have HV := Lib.hid (r5_number l ok A c at_ w hv hb ha)
 have HM := Lib.hid (fun k W (x : Ext w W) (hk : at_ + k < l.length) => r5_minimal l ok A c at_ k W (hv.ext x) hk)
 have HLN := Lib.hid (fun k r (hk : k < (l.drop at_).length) (hr : r = (l.drop at_).drop (k + 1)) => rd_len ha hk hr)
 have HLL := Lib.hid (fun k (hk : k < (l.drop at_).length) => (by rw [List.length_drop] at hk; omega : at_ + k < l.length))
 generalize hN : l.length = N at *
 generalize l.drop at_ = L at *
 have HE := Lib.hid (rdF_err 10 L)
 have HO := Lib.hid (fun (u : Nat) (r : List Nat) (h : rdF 10 L = .ok (u, r)) => iE_ok h)
 have HR := Lib.hid (fun (e : Int) (h : rdF 10 L = .error e) => iE_err h)
 obtain ⟨U, hU⟩ : ∃ U, U = iE L := ⟨_, rfl⟩
 rw [← hU] at HO HR ⊢
 clear hv hb hU
 go_enter Tryz.func62, Tryz.ntmps62
 go_upto_region 2 with (go_at_call 84; ((with_reducible refine (HV.out).mono ?_); rintro e w2 ⟨x, y, z, rfl, hO, hx⟩))
 clear HV
 rcases hO with ⟨hz, rfl, rfl, hR⟩ | ⟨rfl, k, h10, hk, rfl, hy, h64, hbad, hok⟩
 ·have gz : (z != 0) = true := by rw [bne_iff_ne]; exact hz
  have HT := Lib.hid (HR.out _ hR)
  have HZ := Lib.hid (HE.out z hR)
  clear hz hR
  go_wp2_with fail
  go_ret3
  exact ⟨_, _, _, rfl, by rw [HT.out]; exact ⟨rfl, rfl, rfl, HZ.out⟩, hx⟩
 ·have HBAD := Lib.hid hbad
  have HOK := Lib.hid hok
  have HMC := Lib.hid (HM.out k w2 hx (HLL.out k hk))
  have HYY := Lib.hid (hy.trans (HLN.out k _ hk rfl))
  rw [← hy] at HMC
  clear hy
  obtain ⟨bb, hbb⟩ : ∃ bb, bb = decide (¬ (L[k]! = 0 ∧ 0 < k)) := ⟨_, rfl⟩
  rw [← hbb] at HMC
  have HBB := Lib.hid hbb
  obtain ⟨u, hu⟩ : ∃ u, u = dv L (k + 1) := ⟨_, rfl⟩
  rw [← hu] at h64 HBAD HOK ⊢
  clear hbad hok hbb hu HM HLN HLL
  cases bb
  ·have HT := Lib.hid (HR.out _ (HBAD.out (Decidable.not_not.1 (of_decide_eq_false HBB.out.symm))).1)
   go_wp2_with (go_at_call 85; ((with_reducible refine (HMC.out).mono ?_); rintro e w3 ⟨rfl, hx3⟩))
   go_ret3
   exact ⟨_, _, _, rfl, by rw [HT.out]; exact ⟨rfl, rfl, rfl, by omega⟩, hx.trans hx3⟩
  ·have HT := Lib.hid (HO.out _ _ (HOK.out (of_decide_eq_true HBB.out.symm)))
   have hw : IntKind.i64.wrap ((u : Int) / 2) = (u : Int) / 2 := by rw [IntKind.wrap_i64]; omega
   have hw2 : IntKind.i64.wrap (-((u : Int) / 2)) = -((u : Int) / 2) := by rw [IntKind.wrap_i64]; omega
   have hw3 : IntKind.i64.wrap (-((u : Int) / 2) - 1) = -((u : Int) / 2) - 1 := by rw [IntKind.wrap_i64]; omega
   by_cases h2 : u % 2 = 1
   ·have g : ((u : Int) % 2 == 1) = true := by rw [beq_iff_eq]; omega
    have g' : (u % 2 == 1) = true := by rw [beq_iff_eq]; omega
    have HZ := Lib.hid (show -((u : Int) / 2) - 1 = zag u by unfold zag; rw [if_pos h2]; omega)
    clear h2
    go_wp2_with (go_at_call 85; ((with_reducible refine (HMC.out).mono ?_); rintro e w3 ⟨rfl, hx3⟩))
    go_ret3
    exact ⟨_, _, _, rfl, by rw [HT.out]; exact ⟨HZ.out, HYY.out, rfl⟩, hx.trans hx3⟩
   ·have g : ((u : Int) % 2 == 1) = false := by rw [beq_eq_false_iff_ne]; omega
    have g' : (u % 2 == 1) = false := by rw [beq_eq_false_iff_ne]; omega
    have HZ := Lib.hid (show (u : Int) / 2 = zag u by unfold zag; rw [if_neg h2]; omega)
    clear h2
    go_wp2_with (go_at_call 85; ((with_reducible refine (HMC.out).mono ?_); rintro e w3 ⟨rfl, hx3⟩))
    go_ret3
    exact ⟨_, _, _, rfl, by rw [HT.out]; exact ⟨HZ.out, HYY.out, rfl⟩, hx.trans hx3⟩
end Go.Proofs.YtnheioehadldmaaGreat

/- THE WALKS over the reference's reader: natural, next. -/
namespace Go.Proofs.YtnheioehadldmaaGreat
open Go.RowKit
theorem num_err {N : Nat} {X : Except Int (Int × List Nat)} {x y z : Int} (h : numOut N X x y z) (hz : z ≠ 0) : x = 0 ∧ X = .error z := by
 cases X with
 | ok p => exact absurd h.2.2 hz
 | error e => exact ⟨h.1, by rw [h.2.2.1]⟩
theorem okR_er {l : List Nat} {a1 a2 e : Int} {st : Except Int (List Nat)} (h : okR l a1 e st) (he : e ≠ 0) : okR l a2 e st ∧ st = .error e := by
 cases st with
 | ok r => exact absurd h.1 he
 | error er => exact ⟨h, by rw [h.1]⟩
set_option maxRecDepth 100000 in
theorem r12_natural (l : List Nat) (ok : Nat → Prop) (A : Option Addr) (c qr : Nat) (at_ e0 : Int) (st : Except Int (List Nat)) (W : World) (hr : RdC W qr A l.length c at_ e0) (hs : okR l at_ e0 st) (hv : Byts W ok A l) (hb : ∀ x ∈ l, x < 256) :
  Calls Tryz.prog 31 #[.pointer (some ⟨qr, 0, none⟩)] W fun e W' => ∃ (x at' e' : Int) (st' : Except Int (List Nat)), e = .returned (.int .i64 x) ∧ RdC W' qr A l.length c at' e' ∧ okR l at' e' st' ∧ stU st x st' ∧ W.grownBy W' (some qr) := by
 have HRC := Lib.hid hr
 obtain ⟨c0, c1, c2, f1, f2⟩ := hr
 cases st with
 | error er =>
  obtain ⟨rfl, he⟩ := hs
  have g : (e0 != 0) = true := by rw [bne_iff_ne]; exact he
  have HE := Lib.hid he
  clear he
  go_enter Tryz.func31, Tryz.ntmps31
  go_wp2_with fail
  go_ret
  exact ⟨0, at_, e0, .error e0, rfl, (by first | exact HRC.out | exact HRC.out.ext (by solve_by_elim [X0, X1, X2, X3])), ⟨rfl, HE.out⟩, rfl, (Ext.gr (a := W) (by solve_by_elim [X0, X1, X2, X3]) none).but _⟩
 | ok r =>
  obtain ⟨h0, h1, h2, h3⟩ := okR_at hs
  subst h0
  have HCL := Lib.hid (fun V (x : Ext W V) => r5_Uint l ok A c (l.length - r.length) V (hv.ext x) hb h2)
  rw [h3, ← h1] at HCL
  have HST := Lib.hid (fun x y z (hO : numOut l.length (uI r) x y z) => okR_num (fun n s h => uI_suf h) hs hO)
  have HZE := Lib.hid (fun x y z (hO : numOut l.length (uI r) x y z) (hz : z ≠ 0) => num_err hO hz)
  clear h1 h2 h3 hs hv
  generalize l.length = N at *
  have HMK := Lib.hid (fun V (e : Ext W V) => (⟨e.cell c0, e.cell c1⟩ : V.cell? ⟨qr, 0, none⟩ = some (.slice A N c) ∧ V.cell? ⟨qr, 1, none⟩ = some (.int .i64 at_)))
  go_enter Tryz.func31, Tryz.ntmps31
  go_upto_region 3 with (fail)
  refine wp_region_held_drew (S := (fun V => V.cell? ⟨qr, 0, none⟩ = some (.slice A N c) ∧ V.cell? ⟨qr, 1, none⟩ = some (.int .i64 at_))) (by kernel_rfl) ?hs70001 (fun hHeld => ?go70001)
  case hs70001 => (exact HMK.out _ (by solve_by_elim [X0, X1, X2, X3]))
  refine TK 0 (v := ?v70002) hHeld ?hy70002 ?_
  case hy70002 => (intro w hSw; (try dsimp only at hSw); go_simp <;> first | with_reducible rfl | rw [if_neg (by omega)] | rw [if_pos (by omega)])
  (try simp only [PU])
  refine TK 1 (v := ?v70003) hHeld ?hy70003 ?_
  case hy70003 => (intro w hSw; (try dsimp only at hSw); go_simp <;> first | with_reducible rfl | rw [if_neg (by omega)] | rw [if_pos (by omega)])
  (try simp only [PU])
  refine TK 2 (v := ?v70004) hHeld ?hy70004 ?_
  case hy70004 => (intro w hSw; (try dsimp only at hSw); go_simp <;> first | with_reducible rfl | rw [if_neg (by omega)] | rw [if_pos (by omega)])
  (try simp only [PU])
  refine TK 3 (v := ?v70005) hHeld ?hy70005 ?_
  case hy70005 => (intro w hSw; (try dsimp only at hSw); go_simp <;> first | with_reducible rfl | rw [if_neg (by omega)] | rw [if_pos (by omega)])
  (try simp only [PU])
  refine TK 4 (v := ?v70006) hHeld ?hy70006 ?_
  case hy70006 => (intro w hSw; (try dsimp only at hSw); go_simp <;> first | with_reducible rfl | rw [if_neg (by omega)] | rw [if_pos (by omega)])
  (try simp only [PU])
  refine TK 5 (v := ?v70007) hHeld ?hy70007 ?_
  case hy70007 => (intro w hSw; (try dsimp only at hSw); go_simp <;> first | with_reducible rfl | rw [if_neg (by omega)] | rw [if_pos (by omega)])
  (try simp only [PU])
  refine TK 6 (v := ?v70008) hHeld ?hy70008 ?_
  case hy70008 => (intro w hSw; (try dsimp only at hSw); go_simp <;> first | with_reducible rfl | rw [if_neg (by omega)] | rw [if_pos (by omega)])
  (try simp only [PU])
  refine TK 7 (v := ?v70009) hHeld ?hy70009 ?_
  case hy70009 => (intro w hSw; (try dsimp only at hSw); go_simp <;> first | with_reducible rfl | rw [if_neg (by omega)] | rw [if_pos (by omega)])
  (try simp only [PU])
  refine wpAnyH_ready (rs := [8]) (by kernel_rfl) (by simp) ?_
  refine AllReadyH.cons (o := ⟨_, _, _, _, _, _⟩) rfl (fun K hK => ?step70010x0) ?more70010x0
  case more70010x0 => exact AllReadyH.nil
  go_simp
  (go_at_call 61; ((with_reducible refine (HCL.out _ (by solve_by_elim [X0, X1, X2, X3])).mono ?_); rintro e w2 ⟨x, y, z, rfl, hO, hx⟩; have hX := Ext.trans (a := W) (by solve_by_elim [X0, X1, X2, X3]) hx; have HX := Lib.hid hX; have HO := Lib.hid hO; clear hX hO hx))
  refine hK.out _ _ ?hS70010x0 (fun H70010 => ?_)
  case hS70010x0 => first | (exact HMK.out _ (by solve_by_elim [X0, X1, X2, X3])) | ((try dsimp only); (exact HMK.out _ (by solve_by_elim [X0, X1, X2, X3])))
  clear hK K
  clear hHeld
  (try simp only [PU])
  refine TK 9 (v := ?v70011) H70010 ?hy70011 ?_
  case hy70011 => (intro w hSw; (try dsimp only at hSw); go_simp <;> first | with_reducible rfl | rw [if_neg (by omega)] | rw [if_pos (by omega)])
  (try simp only [PU])
  refine TK 10 (v := ?v70012) H70010 ?hy70012 ?_
  case hy70012 => (intro w hSw; (try dsimp only at hSw); go_simp <;> first | with_reducible rfl | rw [if_neg (by omega)] | rw [if_pos (by omega)])
  (try simp only [PU])
  refine TK 11 (v := ?v70013) H70010 ?hy70013 ?_
  case hy70013 => (intro w hSw; (try dsimp only at hSw); go_simp <;> first | with_reducible rfl | rw [if_neg (by omega)] | rw [if_pos (by omega)])
  (try simp only [PU])
  refine TK 12 (v := ?v70014) H70010 ?hy70014 ?_
  case hy70014 => (intro w hSw; (try dsimp only at hSw); go_simp <;> first | with_reducible rfl | rw [if_neg (by omega)] | rw [if_pos (by omega)])
  (try simp only [PU])
  refine TK 13 (v := ?v70015) H70010 ?hy70015 ?_
  case hy70015 => (intro w hSw; (try dsimp only at hSw); go_simp <;> first | with_reducible rfl | rw [if_neg (by omega)] | rw [if_pos (by omega)])
  (try simp only [PU])
  refine TK 14 (v := ?v70016) H70010 ?hy70016 ?_
  case hy70016 => (intro w hSw; (try dsimp only at hSw); go_simp <;> first | with_reducible rfl | rw [if_neg (by omega)] | rw [if_pos (by omega)])
  (try simp only [PU])
  refine TK 15 (v := ?v70017) H70010 ?hy70017 ?_
  case hy70017 => (intro w hSw; (try dsimp only at hSw); go_simp <;> first | with_reducible rfl | rw [if_neg (by omega)] | rw [if_pos (by omega)])
  (try simp only [PU])
  refine wpAnyH_done (by kernel_rfl) ?_ _
  clear H70010
  obtain ⟨st7, k1, k2⟩ := HST.out _ _ _ HO.out
  have HK1 := Lib.hid k1
  have HK2 := Lib.hid k2
  have hR2 := HRC.out.ext (W' := w2) HX.out
  have HR3 := Lib.hid (hR2.setE z)
  have HR4 := Lib.hid ((hR2.setE z).setAt y)
  have HG := Lib.hid (((HX.out.gr none).but (some qr)).trans (gr_set w2 qr 2 (.int .i64 z)))
  obtain ⟨d0, d1, d2, j1, j2⟩ := hR2
  by_cases hz : z = 0
  ·have g : (z == 0) = true := beq_iff_eq.2 hz
   have g1 : decide (z = 0) = true := decide_eq_true hz
   obtain ⟨w3, hw3⟩ : ∃ W3, W3 = w2.setCell ⟨qr, 2, none⟩ (.int .i64 z) := ⟨_, rfl⟩
   have hR3 := HR3.out
   rw [← hw3] at hR3 HR4 HG
   clear hz k1 k2 HO HST HR3
   go_upto_region 5 with (fail)
   (try rw [← hw3])
   obtain ⟨b0, b1, b2, i1, i2⟩ := hR3
   clear hw3
   go_wp2_with fail
   go_ret
   exact ⟨_, _, _, st7, rfl, HR4.out, HK1.out, HK2.out, HG.out.trans (gr_set _ _ _ _)⟩
  ·have g : (z == 0) = false := beq_eq_false_iff_ne.2 hz
   have g1 : decide (z = 0) = false := decide_eq_false hz
   have HKE := Lib.hid (okR_er (a2 := at_) k1 hz).1
   clear hz k1 k2 HO HST HR4
   go_wp2_with fail
   go_ret
   exact ⟨_, _, _, st7, rfl, HR3.out, HKE.out, HK2.out, HG.out⟩
theorem stN_err {base x z : Int} {r : List Nat} {st : Except Int (List Nat)} (h : iE r = .error z) (hs : st = .error z) : stN (.ok r) base x st := by
 unfold stN nearM
 simp only [h]
 exact hs
theorem stN_no {base x n : Int} {r r' : List Nat} (h : iE r = .ok (n, r')) (hn : n < -1000000 ∨ 1000000 < n ∨ idB (base + n) = false) : stN (.ok r) base x (.error 1) := by
 unfold stN nearM
 simp only [h, idM_no hn]
theorem stN_yes {base n : Int} {r r' : List Nat} (h : iE r = .ok (n, r')) (h1 : ¬ n < -1000000) (h2 : ¬ 1000000 < n) (h3 : idB (base + n) = true) : stN (.ok r) base (base + n) (.ok r') := by
 unfold stN nearM
 simp only [h, idM_yes h1 h2 h3, and_self]
theorem num_ok {N : Nat} {X : Except Int (Int × List Nat)} {x y : Int} (h : numOut N X x y 0) : ∃ r', X = .ok (x, r') := by
 cases X with
 | ok p => obtain ⟨n, r'⟩ := p; exact ⟨r', by rw [h.1]⟩
 | error e => have := h.2.2; omega
theorem stN_id {n : Int} {st : Except Int (List Nat)} {X : Except Int (Int × List Nat)} (h : match X with | .ok (n', r') => n = n' ∧ st = .ok r' | .error e => st = .error e) (hX : ∃ r', X = .ok (n, r')) : ∃ r', X = .ok (n, r') ∧ st = .ok r' := by
 obtain ⟨r', rfl⟩ := hX
 exact ⟨r', rfl, h.2⟩
set_option maxRecDepth 100000 in
set_option maxHeartbeats 1600000 in
theorem r12_next (l : List Nat) (ok : Nat → Prop) (A : Option Addr) (c qr : Nat) (at_ e0 base : Int) (st : Except Int (List Nat)) (W : World) (hr : RdC W qr A l.length c at_ e0) (hs : okR l at_ e0 st) (hbs : e0 = 0 → 0 ≤ base ∧ base ≤ 1000000) (hv : Byts W ok A l) (hb : ∀ x ∈ l, x < 256) :
  Calls Tryz.prog 33 #[.pointer (some ⟨qr, 0, none⟩), .int .i64 base] W fun e W' => ∃ (x at' e' : Int) (st' : Except Int (List Nat)), e = .returned (.int .i64 x) ∧ RdC W' qr A l.length c at' e' ∧ okR l at' e' st' ∧ stN st base x st' ∧ W.grownBy W' (some qr) := by
 have HRC := Lib.hid hr
 obtain ⟨c0, c1, c2, f1, f2⟩ := hr
 cases st with
 | error er =>
  obtain ⟨rfl, he⟩ := hs
  have g : (e0 != 0) = true := by rw [bne_iff_ne]; exact he
  have HE := Lib.hid he
  clear he hbs
  go_enter Tryz.func33, Tryz.ntmps33
  go_wp2_with fail
  go_ret
  exact ⟨0, at_, e0, .error e0, rfl, (by first | exact HRC.out | exact HRC.out.ext (by solve_by_elim [X0, X1, X2, X3])), ⟨rfl, HE.out⟩, rfl, (Ext.gr (a := W) (by solve_by_elim [X0, X1, X2, X3]) none).but _⟩
 | ok r =>
  obtain ⟨h0, h1, h2, h3⟩ := okR_at hs
  subst h0
  have HCL := Lib.hid (fun V (x : Ext W V) => r5_Int l ok A c (l.length - r.length) V (hv.ext x) hb h2)
  rw [h3, ← h1] at HCL
  have HST := Lib.hid (fun x y z (hO : numOut l.length (iE r) x y z) => okR_num (fun n s h => iE_suf h) hs hO)
  have HZE := Lib.hid (fun x y z (hO : numOut l.length (iE r) x y z) (hz : z ≠ 0) => num_err hO hz)
  have HBS := Lib.hid (hbs rfl)
  clear hbs
  clear h1 h2 h3 hs hv
  generalize l.length = N at *
  have HMK := Lib.hid (fun V (e : Ext W V) => (⟨e.cell c0, e.cell c1⟩ : V.cell? ⟨qr, 0, none⟩ = some (.slice A N c) ∧ V.cell? ⟨qr, 1, none⟩ = some (.int .i64 at_)))
  have HNO := Lib.hid (fun n r' x (h : iE r = .ok (n, r')) (hn : n < -1000000 ∨ 1000000 < n ∨ idB (base + n) = false) => stN_no (base := base) (x := x) h hn)
  have HID := Lib.hid (fun z V => r12_id z V)
  go_enter Tryz.func33, Tryz.ntmps33
  go_upto_region 3 with (fail)
  refine wp_region_held_drew (S := (fun V => V.cell? ⟨qr, 0, none⟩ = some (.slice A N c) ∧ V.cell? ⟨qr, 1, none⟩ = some (.int .i64 at_))) (by kernel_rfl) ?hs70018 (fun hHeld => ?go70018)
  case hs70018 => (exact HMK.out _ (by solve_by_elim [X0, X1, X2, X3]))
  refine TK 0 (v := ?v70019) hHeld ?hy70019 ?_
  case hy70019 => (intro w hSw; (try dsimp only at hSw); go_simp <;> first | with_reducible rfl | rw [if_neg (by omega)] | rw [if_pos (by omega)])
  (try simp only [PU])
  refine TK 1 (v := ?v70020) hHeld ?hy70020 ?_
  case hy70020 => (intro w hSw; (try dsimp only at hSw); go_simp <;> first | with_reducible rfl | rw [if_neg (by omega)] | rw [if_pos (by omega)])
  (try simp only [PU])
  refine TK 2 (v := ?v70021) hHeld ?hy70021 ?_
  case hy70021 => (intro w hSw; (try dsimp only at hSw); go_simp <;> first | with_reducible rfl | rw [if_neg (by omega)] | rw [if_pos (by omega)])
  (try simp only [PU])
  refine TK 3 (v := ?v70022) hHeld ?hy70022 ?_
  case hy70022 => (intro w hSw; (try dsimp only at hSw); go_simp <;> first | with_reducible rfl | rw [if_neg (by omega)] | rw [if_pos (by omega)])
  (try simp only [PU])
  refine TK 4 (v := ?v70023) hHeld ?hy70023 ?_
  case hy70023 => (intro w hSw; (try dsimp only at hSw); go_simp <;> first | with_reducible rfl | rw [if_neg (by omega)] | rw [if_pos (by omega)])
  (try simp only [PU])
  refine TK 5 (v := ?v70024) hHeld ?hy70024 ?_
  case hy70024 => (intro w hSw; (try dsimp only at hSw); go_simp <;> first | with_reducible rfl | rw [if_neg (by omega)] | rw [if_pos (by omega)])
  (try simp only [PU])
  refine TK 6 (v := ?v70025) hHeld ?hy70025 ?_
  case hy70025 => (intro w hSw; (try dsimp only at hSw); go_simp <;> first | with_reducible rfl | rw [if_neg (by omega)] | rw [if_pos (by omega)])
  (try simp only [PU])
  refine TK 7 (v := ?v70026) hHeld ?hy70026 ?_
  case hy70026 => (intro w hSw; (try dsimp only at hSw); go_simp <;> first | with_reducible rfl | rw [if_neg (by omega)] | rw [if_pos (by omega)])
  (try simp only [PU])
  refine wpAnyH_ready (rs := [8]) (by kernel_rfl) (by simp) ?_
  refine AllReadyH.cons (o := ⟨_, _, _, _, _, _⟩) rfl (fun K hK => ?step70027x0) ?more70027x0
  case more70027x0 => exact AllReadyH.nil
  go_simp
  (go_at_call 62; ((with_reducible refine (HCL.out _ (by solve_by_elim [X0, X1, X2, X3])).mono ?_); rintro e w2 ⟨x, y, z, rfl, hO, hx⟩; have hX := Ext.trans (a := W) (by solve_by_elim [X0, X1, X2, X3]) hx; have HX := Lib.hid hX; have HO := Lib.hid hO; clear hX hO hx))
  refine hK.out _ _ ?hS70027x0 (fun H70027 => ?_)
  case hS70027x0 => first | (exact HMK.out _ (by solve_by_elim [X0, X1, X2, X3])) | ((try dsimp only); (exact HMK.out _ (by solve_by_elim [X0, X1, X2, X3])))
  clear hK K
  clear hHeld
  (try simp only [PU])
  refine TK 9 (v := ?v70028) H70027 ?hy70028 ?_
  case hy70028 => (intro w hSw; (try dsimp only at hSw); go_simp <;> first | with_reducible rfl | rw [if_neg (by omega)] | rw [if_pos (by omega)])
  (try simp only [PU])
  refine TK 10 (v := ?v70029) H70027 ?hy70029 ?_
  case hy70029 => (intro w hSw; (try dsimp only at hSw); go_simp <;> first | with_reducible rfl | rw [if_neg (by omega)] | rw [if_pos (by omega)])
  (try simp only [PU])
  refine TK 11 (v := ?v70030) H70027 ?hy70030 ?_
  case hy70030 => (intro w hSw; (try dsimp only at hSw); go_simp <;> first | with_reducible rfl | rw [if_neg (by omega)] | rw [if_pos (by omega)])
  (try simp only [PU])
  refine TK 12 (v := ?v70031) H70027 ?hy70031 ?_
  case hy70031 => (intro w hSw; (try dsimp only at hSw); go_simp <;> first | with_reducible rfl | rw [if_neg (by omega)] | rw [if_pos (by omega)])
  (try simp only [PU])
  refine TK 13 (v := ?v70032) H70027 ?hy70032 ?_
  case hy70032 => (intro w hSw; (try dsimp only at hSw); go_simp <;> first | with_reducible rfl | rw [if_neg (by omega)] | rw [if_pos (by omega)])
  (try simp only [PU])
  refine TK 14 (v := ?v70033) H70027 ?hy70033 ?_
  case hy70033 => (intro w hSw; (try dsimp only at hSw); go_simp <;> first | with_reducible rfl | rw [if_neg (by omega)] | rw [if_pos (by omega)])
  (try simp only [PU])
  refine TK 15 (v := ?v70034) H70027 ?hy70034 ?_
  case hy70034 => (intro w hSw; (try dsimp only at hSw); go_simp <;> first | with_reducible rfl | rw [if_neg (by omega)] | rw [if_pos (by omega)])
  (try simp only [PU])
  refine wpAnyH_done (by kernel_rfl) ?_ _
  clear H70027
  obtain ⟨st7, k1, k2⟩ := HST.out _ _ _ HO.out
  have HK1 := Lib.hid k1
  have hR2 := HRC.out.ext (W' := w2) HX.out
  have HR3 := Lib.hid (hR2.setE z)
  have HG := Lib.hid (((HX.out.gr none).but (some qr)).trans (gr_set w2 qr 2 (.int .i64 z)))
  have HR4 := Lib.hid ((hR2.setE z).setAt y)
  have hR2 := hR2
  obtain ⟨d0, d1, d2, j1, j2⟩ := hR2
  by_cases hz : z = 0
  ·obtain ⟨r2, hi2, hs2⟩ := stN_id k2 (num_ok (by rw [← hz]; exact HO.out))
   have g : (z != 0) = false := by rw [bne_eq_false_iff_eq]; exact hz
   have HI2 := Lib.hid hi2
   have HS2 := Lib.hid hs2
   obtain ⟨w3, hw3⟩ : ∃ W3, W3 = w2.setCell ⟨qr, 2, none⟩ (.int .i64 z) := ⟨_, rfl⟩
   have hR3 := HR3.out
   rw [← hw3] at hR3 HR4 HG
   have HZ := Lib.hid hz
   clear hz k1 k2 HO HST HR3 hi2 hs2
   go_upto_if 31 with (fail)
   (try rw [← hw3])
   clear hw3
   obtain ⟨b0, b1, b2, i1, i2⟩ := hR3
   obtain ⟨w4, hw4⟩ : ∃ W4, W4 = w3.setCell ⟨qr, 1, none⟩ (.int .i64 y) := ⟨_, rfl⟩
   have HGS := Lib.hid (gr_set w3 qr 1 (.int .i64 y))
   rw [← hw4] at HR4 HGS
   replace HG := Lib.hid (HG.out.trans HGS.out)
   go_upto_region 8 with (fail)
   (try rw [← hw4])
   clear hw4 HGS b0 b1 b2 i1 i2
   obtain ⟨b0, b1, b2, i1, i2⟩ := HR4.out
   by_cases h1 : x < -1000000
   ·have HT := Lib.hid (HNO.out x r2 0 HI2.out (.inl h1))
    have g1 : decide (x < -1000000) = true := decide_eq_true h1
    clear h1
    go_wp2_with fail
    go_ret
    exact ⟨0, y, 1, .error 1, rfl, by first | exact HR4.out.setE 1 | exact (HR4.out.ext (by solve_by_elim [X0, X1, X2, X3])).setE 1, ⟨rfl, by decide⟩, HT.out, HG.out.trans (gr_set _ _ _ _)⟩
   ·have g1 : decide (x < -1000000) = false := decide_eq_false h1
    by_cases h2 : 1000000 < x
    ·have HT := Lib.hid (HNO.out x r2 0 HI2.out (.inr (.inl h2)))
     have g2 : decide (1000000 < x) = true := decide_eq_true h2
     clear h1 h2
     go_wp2_with fail
     go_ret
     exact ⟨0, y, 1, .error 1, rfl, by first | exact HR4.out.setE 1 | exact (HR4.out.ext (by solve_by_elim [X0, X1, X2, X3])).setE 1, ⟨rfl, by decide⟩, HT.out, HG.out.trans (gr_set _ _ _ _)⟩
    ·have g2 : decide (1000000 < x) = false := decide_eq_false h2
     have hbs2 := HBS.out
     have hw : IntKind.i64.wrap (base + x) = base + x := by rw [IntKind.wrap_i64]; omega
     replace HID := Lib.hid (fun V => HID.out (base + x) V)
     have HY := Lib.hid (fun (h : idB (base + x) = true) => (by rw [HS2.out]; exact stN_yes HI2.out h1 h2 h : stN (.ok r) base (base + x) st7))
     have HN := Lib.hid (fun (h : idB (base + x) = false) => HNO.out x r2 0 HI2.out (.inr (.inr h)))
     clear h1 h2 hbs2
     cases hbb : idB (base + x)
     ·rw [hbb] at HID
      have HT := Lib.hid (HN.out hbb)
      clear hbb HY HN
      go_wp2_with (go_at_call 32; ((with_reducible refine (HID.out _).mono ?_); rintro e w5 ⟨rfl, hx5⟩; replace hx5 : Ext w4 w5 := Ext.trans (a := w4) (by solve_by_elim [X0, X1, X2, X3]) hx5; have HX5 := Lib.hid hx5; have hR5 := HR4.out.ext hx5; obtain ⟨b0, b1, b2, i1, i2⟩ := hR5; clear hx5))
      go_ret
      exact ⟨0, y, 1, .error 1, rfl, by first | exact (HR4.out.ext HX5.out).setE 1 | exact ((HR4.out.ext HX5.out).ext (by solve_by_elim [X0, X1, X2, X3])).setE 1, ⟨rfl, by decide⟩, HT.out, (HG.out.trans ((HX5.out.gr none).but _)).trans (gr_set _ _ _ _)⟩
     ·rw [hbb] at HID
      have HT := Lib.hid (HY.out hbb)
      clear hbb HY HN
      go_wp2_with (go_at_call 32; ((with_reducible refine (HID.out _).mono ?_); rintro e w5 ⟨rfl, hx5⟩; replace hx5 : Ext w4 w5 := Ext.trans (a := w4) (by solve_by_elim [X0, X1, X2, X3]) hx5; have HX5 := Lib.hid hx5; have hR5 := HR4.out.ext hx5; obtain ⟨b0, b1, b2, i1, i2⟩ := hR5; clear hx5))
      go_ret
      exact ⟨_, y, z, st7, rfl, by first | exact (HR4.out.ext HX5.out) | exact (HR4.out.ext HX5.out).ext (by solve_by_elim [X0, X1, X2, X3]), HK1.out, HT.out, (HG.out.trans ((HX5.out.gr none).but _))⟩
  ·have g : (z != 0) = true := bne_iff_ne.2 hz
   have HKE := Lib.hid (okR_er (a2 := at_) k1 hz).1
   have HTT := Lib.hid (stN_err (base := base) (x := 0) (HZE.out _ _ _ HO.out hz).2 (okR_er (a2 := at_) k1 hz).2)
   clear hz k1 k2 HO HST HR4
   go_wp2_with fail
   go_ret
   exact ⟨_, _, _, st7, rfl, HR3.out, HKE.out, HTT.out, HG.out⟩
end Go.Proofs.YtnheioehadldmaaGreat
