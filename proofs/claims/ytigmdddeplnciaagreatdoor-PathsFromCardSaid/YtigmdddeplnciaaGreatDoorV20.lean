/- PARTS OF THE WALKS, joined: PtU. -/
import Derived.Test.YtigmdddeplnciaaGreatDoorV19
/- THE WALK over the law's lives. -/
namespace Go.Proofs.YtigmdddeplnciaaGreatDoor
open Go.RowKit
theorem altV_leaf (ids : List Int) : ∀ x ∈ altV ids, x.l = [] ∧ x.s.size = 0 := by
  intro x hx
  unfold altV at hx
  obtain ⟨i, -, rfl⟩ := List.mem_map.1 hx
  exact ⟨rfl, rfl⟩
theorem szL_leaf : ∀ {l : List Val}, (∀ x ∈ l, x.l = [] ∧ x.s.size = 0) → szL l
  | [], _ => by rw [szL]; trivial
  | x :: l, h => by
    rw [szL]
    refine ⟨szV_iff.2 ⟨by rw [(h x (by simp)).2]; decide, ?_⟩, szL_leaf (fun y hy => h y (List.mem_cons_of_mem _ hy))⟩
    rw [(h x (by simp)).1, szL]; trivial
theorem szL_all : ∀ {l : List Val}, (∀ x ∈ l, szV x) → szL l
  | [], _ => by rw [szL]; trivial
  | x :: l, h => by rw [szL]; exact ⟨h x (by simp), szL_all (fun y hy => h y (List.mem_cons_of_mem _ hy))⟩
theorem sz_path {l : List Val} (h : ∀ x ∈ l, x.l = [] ∧ x.s.size = 0) : szV (pathV l) := szV_iff.2 ⟨by show ByteArray.empty.size ≤ _; decide, szL_leaf h⟩
theorem sz_alt (ids : List Int) : szV (pathV (altV ids)) := sz_path (altV_leaf ids)
theorem nums_at {W : World} {H : Nat} {ids : List Int} {n : Nat} (hn : ids.length = n) (hc : ∀ j, j < n → W.cell? ⟨H, j, none⟩ = some (.int .i64 ids[j]!)) (h9 : n ≤ 100 := by decide) : Nums W (fun _ => True) (some ⟨H, 0, none⟩) ids :=
  ⟨by omega, fun _ => ⟨H, 0, rfl, fun k hk => ⟨trivial, by rw [Nat.mul_one, Nat.zero_add, ← getElem!_pos ids k hk]; exact hc k (by omega)⟩⟩⟩
theorem len3 : ([2, 3, 2] : List Int).length = 3 := rfl
theorem alt3 : 3 = (altV [2, 3, 2]).length := rfl
theorem one_at {W : World} {ok : Nat → Prop} {H : Nat} {A : Option Addr} {ids : List Int} {n c : Nat} (hv : Vals W ok A (altV ids)) (hn : n ≤ c) (c0 : W.cell? ⟨H, 0, none⟩ = some (.int .i64 7)) (c1 : W.cell? ⟨H, 1, none⟩ = some (.int .i64 0)) (c2 : W.cell? ⟨H, 2, none⟩ = some (.int .i64 0)) (c3 : W.cell? ⟨H, 3, none⟩ = some (.string ByteArray.empty)) (c4 : W.cell? ⟨H, 4, none⟩ = some (.slice A n c)) (hl : n = (altV ids).length := by rfl) : Vals W (fun _ => True) (some ⟨H, 0, none⟩) [pathV (altV ids)] := by
  refine ⟨by simp, fun _ => ⟨H, 0, rfl, fun k hk => ?_⟩⟩
  have hk0 : k = 0 := by have h1 : k < 1 := hk; omega
  subst hk0 hl
  exact VCells.iff.2 ⟨trivial, A, c, ⟨c0, c1, c2, c3, c4⟩, hn, hv.to (fun _ _ => trivial)⟩
theorem lpN (ids : List Int) (n : Nat) (hn : ids.length = n) (H : Nat) (W : World) (hv : Nums W (fun _ => True) (some ⟨H, 0, none⟩) ids) (h9 : n ≤ 100) :
    Calls Tryz.prog 21 #[.slice (some ⟨H, 0, none⟩) n n] W fun r w' => ∃ A' c', r = .returned (.agg #[.int .i64 7, .int .i64 0, .int .i64 0, .string ByteArray.empty, .slice A' n c']) ∧ n ≤ c' ∧ Vals w' (fun b => W.heap.size ≤ b) A' (altV ids) ∧ Ext W w' := by
  subst hn
  refine (l_path ids _ _ _ W hv h9).mono ?_
  rintro r w' ⟨A', c', rfl, h1, h2, h3⟩
  rw [altV_len] at h1
  exact ⟨A', c', by unfold agV pathV; rw [show (Val.mk 7 0 0 ByteArray.empty (altV ids)).l.length = ids.length from altV_len ids]; rfl, h1, h2, h3⟩
theorem lp (ids : List Int) (n : Nat) (hn : ids.length = n) (H : Nat) (W : World) (hH : W.heap.size = H) (cs : Array Value) (hcs : cs = (ids.map (Value.int .i64)).toArray) (h9 : n ≤ 100 := by decide) :
    Calls Tryz.prog 21 #[.slice (some ⟨H, 0, none⟩) n n] (W.alloc (.cells cs 3)) fun r w' => ∃ A' c', r = .returned (.agg #[.int .i64 7, .int .i64 0, .int .i64 0, .string ByteArray.empty, .slice A' n c']) ∧ n ≤ c' ∧ Vals w' (fun b => W.heap.size ≤ b) A' (altV ids) ∧ Ext W w' := by
  subst hH hcs
  have hnu : Nums (W.alloc (.cells (ids.map (Value.int .i64)).toArray 3)) (fun _ => True) (some ⟨W.heap.size, 0, none⟩) ids :=
    nums_at hn (fun j hj => by
      rw [cell_of_row _ _ _ _ _ _ (heap_alloc_new W _), List.getElem?_toArray, List.getElem?_map, List.getElem?_eq_getElem (by omega), getElem!_pos ids j (by omega)]; rfl) h9
  refine (lpN ids n hn _ _ hnu h9).mono ?_
  rintro r w' ⟨A', c', h0, h1, h2, h3⟩
  exact ⟨A', c', h0, h1, h2.to (fun b hb => by simp at hb; omega), ((Ext.refl _).alloc _).trans h3⟩
theorem lpc1 (H : Nat) (W : World) (hH : W.heap.size = H) :
    Calls Tryz.prog 21 #[.slice (some ⟨H, 0, none⟩) 1 1] (W.alloc (.cells #[.int .i64 1] 3)) fun r w' => ∃ A' c', r = .returned (.agg #[.int .i64 7, .int .i64 0, .int .i64 0, .string ByteArray.empty, .slice A' 1 c']) ∧ 1 ≤ c' ∧ Vals w' (fun b => W.heap.size ≤ b) A' (altV [1]) ∧ Ext W w' := lp [1] 1 rfl H W hH _ rfl (by decide)
theorem lpc2 (H : Nat) (W : World) (hH : W.heap.size = H) :
    Calls Tryz.prog 21 #[.slice (some ⟨H, 0, none⟩) 3 3] (W.alloc (.cells #[.int .i64 1, .int .i64 1, .int .i64 2] 3)) fun r w' => ∃ A' c', r = .returned (.agg #[.int .i64 7, .int .i64 0, .int .i64 0, .string ByteArray.empty, .slice A' 3 c']) ∧ 3 ≤ c' ∧ Vals w' (fun b => W.heap.size ≤ b) A' (altV [1, 1, 2]) ∧ Ext W w' := lp [1, 1, 2] 3 rfl H W hH _ rfl (by decide)
theorem lpc3 (H : Nat) (W : World) (hH : W.heap.size = H) :
    Calls Tryz.prog 21 #[.slice (some ⟨H, 0, none⟩) 5 5] (W.alloc (.cells #[.int .i64 1, .int .i64 1, .int .i64 2, .int .i64 2, .int .i64 1] 3)) fun r w' => ∃ A' c', r = .returned (.agg #[.int .i64 7, .int .i64 0, .int .i64 0, .string ByteArray.empty, .slice A' 5 c']) ∧ 5 ≤ c' ∧ Vals w' (fun b => W.heap.size ≤ b) A' (altV [1, 1, 2, 2, 1]) ∧ Ext W w' := lp [1, 1, 2, 2, 1] 5 rfl H W hH _ rfl (by decide)
theorem lpc4 (H : Nat) (W : World) (hH : W.heap.size = H) :
    Calls Tryz.prog 21 #[.slice (some ⟨H, 0, none⟩) 5 5] (W.alloc (.cells #[.int .i64 1, .int .i64 1, .int .i64 2, .int .i64 3, .int .i64 2] 3)) fun r w' => ∃ A' c', r = .returned (.agg #[.int .i64 7, .int .i64 0, .int .i64 0, .string ByteArray.empty, .slice A' 5 c']) ∧ 5 ≤ c' ∧ Vals w' (fun b => W.heap.size ≤ b) A' (altV [1, 1, 2, 3, 2]) ∧ Ext W w' := lp [1, 1, 2, 3, 2] 5 rfl H W hH _ rfl (by decide)
theorem lpc5 (H : Nat) (W : World) (hH : W.heap.size = H) :
    Calls Tryz.prog 21 #[.slice (some ⟨H, 0, none⟩) 5 5] (W.alloc (.cells #[.int .i64 1, .int .i64 1, .int .i64 2, .int .i64 1, .int .i64 1] 3)) fun r w' => ∃ A' c', r = .returned (.agg #[.int .i64 7, .int .i64 0, .int .i64 0, .string ByteArray.empty, .slice A' 5 c']) ∧ 5 ≤ c' ∧ Vals w' (fun b => W.heap.size ≤ b) A' (altV [1, 1, 2, 1, 1]) ∧ Ext W w' := lp [1, 1, 2, 1, 1] 5 rfl H W hH _ rfl (by decide)
def allL : List Val := [pathV (altV [1]), pathV (altV [1, 1, 2]), pathV (altV [1, 1, 2, 2, 1]), pathV (altV [1, 1, 2, 3, 2])]
theorem all_at {W : World} {ok1 ok2 ok3 ok4 : Nat → Prop} {H : Nat} {B1 B2 B3 B4 : Option Addr} {c1 c2 c3 c4 : Nat} (h1 : Vals W ok1 B1 (altV [1])) (h2 : Vals W ok2 B2 (altV [1, 1, 2])) (h3 : Vals W ok3 B3 (altV [1, 1, 2, 2, 1])) (h4 : Vals W ok4 B4 (altV [1, 1, 2, 3, 2])) (k1 : 1 ≤ c1) (k2 : 3 ≤ c2) (k3 : 5 ≤ c3) (k4 : 5 ≤ c4) (hc : ∀ j, j < 20 → W.cell? ⟨H, j, none⟩ = #[.int .i64 7, .int .i64 0, .int .i64 0, .string ByteArray.empty, .slice B1 1 c1, .int .i64 7, .int .i64 0, .int .i64 0, .string ByteArray.empty, .slice B2 3 c2, .int .i64 7, .int .i64 0, .int .i64 0, .string ByteArray.empty, .slice B3 5 c3, .int .i64 7, .int .i64 0, .int .i64 0, .string ByteArray.empty, .slice B4 5 c4][j]?) : Vals W (fun _ => True) (some ⟨H, 0, none⟩) allL := by
  refine ⟨by decide, fun _ => ⟨H, 0, rfl, fun k hk => ?_⟩⟩
  have hk4 : k = 0 ∨ k = 1 ∨ k = 2 ∨ k = 3 := by have h : k < 4 := hk; omega
  rcases hk4 with rfl | rfl | rfl | rfl
  · exact VCells.iff.2 ⟨trivial, B1, c1, ⟨hc 0 (by decide), hc 1 (by decide), hc 2 (by decide), hc 3 (by decide), hc 4 (by decide)⟩, k1, h1.to (fun _ _ => trivial)⟩
  · exact VCells.iff.2 ⟨trivial, B2, c2, ⟨hc 5 (by decide), hc 6 (by decide), hc 7 (by decide), hc 8 (by decide), hc 9 (by decide)⟩, k2, h2.to (fun _ _ => trivial)⟩
  · exact VCells.iff.2 ⟨trivial, B3, c3, ⟨hc 10 (by decide), hc 11 (by decide), hc 12 (by decide), hc 13 (by decide), hc 14 (by decide)⟩, k3, h3.to (fun _ _ => trivial)⟩
  · exact VCells.iff.2 ⟨trivial, B4, c4, ⟨hc 15 (by decide), hc 16 (by decide), hc 17 (by decide), hc 18 (by decide), hc 19 (by decide)⟩, k4, h4.to (fun _ _ => trivial)⟩
/-- the example's graph -/
theorem box_live (w : World) : ∃ (h : Nat) (w1 : World), h = w.heap.size ∧ w1 = ((w.alloc (.cells #[.int .i64 1, .slice none 0 0, .slice none 0 0, .int .i64 2, .slice none 0 0, .slice none 0 0] 45)).alloc (.cells #[.int .i64 1, .int .i64 1, .int .i64 2, .string ⟨#[84]⟩, .slice none 0 0, .int .i64 2, .int .i64 2, .int .i64 1, .string ⟨#[84]⟩, .slice none 0 0, .int .i64 3, .int .i64 2, .int .i64 2, .string ⟨#[84]⟩, .slice none 0 0] 47)).alloc (.cells #[.slice (some ⟨h, 0, none⟩) 2 2, .slice (some ⟨h + 1, 0, none⟩) 3 3, .int .i64 3, .int .i64 4] 25) ∧ GraphAt w1 (fun _ => True) (some ⟨h, 0, none⟩) (some ⟨h + 1, 0, none⟩) gL ∧ (w1.cell? ⟨h + 2, 0, none⟩ = some (.slice (some ⟨h, 0, none⟩) 2 2) ∧ w1.cell? ⟨h + 2, 1, none⟩ = some (.slice (some ⟨h + 1, 0, none⟩) 3 3) ∧ w1.cell? ⟨h + 2, 2, none⟩ = some (.int .i64 3) ∧ w1.cell? ⟨h + 2, 3, none⟩ = some (.int .i64 4)) ∧ Ext w w1 := by
  refine ⟨_, _, rfl, rfl, ⟨⟨by decide, fun _ => ⟨_, _, rfl, fun k hk => ?_⟩⟩, ⟨by decide, fun _ => ⟨_, _, rfl, fun k hk => ?_⟩⟩⟩, ⟨by go_simp, by go_simp, by go_simp, by go_simp⟩, (by solve_by_elim [X0, X1, X2, X3])⟩
  · have hk2 : k = 0 ∨ k = 1 := by have h : k < 2 := hk; omega
    rcases hk2 with rfl | rfl
    · exact ⟨trivial, by go_simp; rfl, none, 0, none, 0, by go_simp; rfl, Nat.le_refl _, SliceR.nil _ _ _, by go_simp; rfl, Nat.le_refl _, SliceR.nil _ _ _⟩
    · exact ⟨trivial, by go_simp; rfl, none, 0, none, 0, by go_simp; rfl, Nat.le_refl _, SliceR.nil _ _ _, by go_simp; rfl, Nat.le_refl _, SliceR.nil _ _ _⟩
  · have hk3 : k = 0 ∨ k = 1 ∨ k = 2 := by have h : k < 3 := hk; omega
    rcases hk3 with rfl | rfl | rfl
    · exact ⟨trivial, by go_simp; rfl, by go_simp; rfl, by go_simp; rfl, by go_simp; rfl, none, 0, by go_simp; rfl, Nat.le_refl _, SliceR.nil _ _ _⟩
    · exact ⟨trivial, by go_simp; rfl, by go_simp; rfl, by go_simp; rfl, by go_simp; rfl, none, 0, by go_simp; rfl, Nat.le_refl _, SliceR.nil _ _ _⟩
    · exact ⟨trivial, by go_simp; rfl, by go_simp; rfl, by go_simp; rfl, by go_simp; rfl, none, 0, by go_simp; rfl, Nat.le_refl _, SliceR.nil _ _ _⟩
theorem Vals.takeN {W : World} {ok : Nat → Prop} {A : Option Addr} {l : List Val} (h : Vals W ok A l) (k : Nat) : Vals W ok A (l.take k) := by
  refine ⟨Nat.le_trans (List.length_take_le' _ _) h.1, fun h0 => ?_⟩
  have h1 : 0 < l.length := Nat.lt_of_lt_of_le h0 (List.length_take_le' _ _)
  obtain ⟨b, o, hA, hc⟩ := h.2 h1
  refine ⟨b, o, hA, fun j hj => ?_⟩
  rw [List.getElem_take]
  exact hc j _
theorem cap_live : ∀ x ∈ gL.nodes, capN x := by
  intro x hx
  rcases List.mem_cons.1 hx with e | e
  · subst e; exact ⟨by decide, by decide, fun p hp => absurd hp (by simp)⟩
  · rw [List.mem_singleton.1 e]; exact ⟨by decide, by decide, fun p hp => absurd hp (by simp)⟩
set_option maxRecDepth 100000 in
set_option maxHeartbeats 6400000 in
theorem l_lives (w : World) (hz : ZeroAt w) : Calls Tryz.prog 9 #[] w fun e w' => e = .returned (.bool true) ∧ Ext w w' := by
  obtain ⟨h, w1, hh, hw1, hGR, hbc, hx1⟩ := box_live w
  have HW1 := Lib.hid hw1
  have HH := Lib.hid hh
  have HGR := Lib.hid hGR
  have HX1 := Lib.hid hx1
  have HZ := Lib.hid hz
  obtain ⟨b0, b1, b2, b3⟩ := hbc
  clear hw1 hh hGR hz
  go_enter Tryz.func9, Tryz.ntmps9
  go_upto_region 2 with (fail)
  rw [← HH.out, ← HW1.out]
  clear HW1
  obtain ⟨hs, w2, hhs, hw2, s0, hx2⟩ : ∃ (hs : Nat) (w2 : World), hs = w1.heap.size ∧ w2 = w1.alloc (.cells #[.string ⟨#[84]⟩] 9) ∧ w2.cell? ⟨hs, 0, none⟩ = some (.string ⟨#[84]⟩) ∧ Ext w1 w2 := ⟨_, _, rfl, rfl, by go_simp, (Ext.refl _).alloc _⟩
  have HTY := Lib.hid (show Strs w2 (fun _ => True) (some ⟨hs, 0, none⟩) [tL] from ⟨by decide, fun _ => ⟨_, _, rfl, fun k hk => by
    have hk0 : k = 0 := by have h1 : k < 1 := hk; omega
    subst hk0
    exact ⟨trivial, s0⟩⟩⟩)
  have HW2 := Lib.hid hw2
  have HS := Lib.hid hhs
  clear hw2 hhs
  go_upto_region 3 with (fail)
  rw [← HS.out, ← HW2.out]
  clear HW2 HS HH
  go_upto_region 4 with (first | (go_at_call 21; ((with_reducible refine (lpc1 _ _ rfl).mono ?_); rintro r q1 ⟨B1, c1, rfl, hc1, hV1, hp1⟩)) | (go_at_call 21; ((with_reducible refine (lpc2 _ _ rfl).mono ?_); rintro r q2 ⟨B2, c2, rfl, hc2, hV2, hp2⟩)) | (go_at_call 21; ((with_reducible refine (lpc3 _ _ rfl).mono ?_); rintro r q3 ⟨B3, c3, rfl, hc3, hV3, hp3⟩)) | (go_at_call 21; ((with_reducible refine (lpc4 _ _ rfl).mono ?_); rintro r q4 ⟨B4, c4, rfl, hc4, hV4, hp4⟩)))
  obtain ⟨L, ql, hL, hql, hAC⟩ : ∃ (L : Nat) (ql : World), L = q4.heap.size ∧ ql = q4.alloc (.cells #[.int .i64 7, .int .i64 0, .int .i64 0, .string ByteArray.empty, .slice B1 1 c1, .int .i64 7, .int .i64 0, .int .i64 0, .string ByteArray.empty, .slice B2 3 c2, .int .i64 7, .int .i64 0, .int .i64 0, .string ByteArray.empty, .slice B3 5 c3, .int .i64 7, .int .i64 0, .int .i64 0, .string ByteArray.empty, .slice B4 5 c4] 37) ∧ ∀ j, j < 20 → ql.cell? ⟨L, j, none⟩ = #[.int .i64 7, .int .i64 0, .int .i64 0, .string ByteArray.empty, .slice B1 1 c1, .int .i64 7, .int .i64 0, .int .i64 0, .string ByteArray.empty, .slice B2 3 c2, .int .i64 7, .int .i64 0, .int .i64 0, .string ByteArray.empty, .slice B3 5 c3, .int .i64 7, .int .i64 0, .int .i64 0, .string ByteArray.empty, .slice B4 5 c4][j]? := ⟨_, _, rfl, rfl, fun j _ => by rw [cell_of_row _ _ _ _ _ _ (heap_alloc_new q4 _)]⟩
  have hpl : Ext q4 ql := by rw [hql]; exact (Ext.refl _).alloc _
  have HQL := Lib.hid hql
  have HLL := Lib.hid hL
  have HAL := Lib.hid (all_at (hV1.ext (((hp2.trans hp3).trans hp4).trans hpl)) (hV2.ext ((hp3.trans hp4).trans hpl)) (hV3.ext (hp4.trans hpl)) (hV4.ext hpl) hc1 hc2 hc3 hc4 hAC)
  have HAC := Lib.hid hAC
  have H2L := Lib.hid ((((hp1.trans hp2).trans hp3).trans hp4).trans hpl)
  rw [← HLL.out, ← HQL.out]
  have HV1L := Lib.hid (hV1.ext (((hp2.trans hp3).trans hp4).trans hpl))
  have HV2L := Lib.hid (hV2.ext ((hp3.trans hp4).trans hpl))
  clear hql hL hAC HQL HLL hV1 hV2 hV3 hV4 hp1 hp2 hp3 hp4 hpl
  go_upto_region 5 with (go_at_call 21; ((with_reducible refine (lpc5 _ _ rfl).mono ?_); rintro r q5 ⟨B5, c5, rfl, hc5, hV5, hp5⟩))
  obtain ⟨bk, w9, hbk, hw9, k0, k1, k2, k3, k4, hx9⟩ : ∃ (bk : Nat) (w9 : World), bk = q5.heap.size ∧ w9 = q5.alloc (.cells #[.int .i64 7, .int .i64 0, .int .i64 0, .string ByteArray.empty, .slice B5 5 c5] 37) ∧ w9.cell? ⟨bk, 0, none⟩ = some (.int .i64 7) ∧ w9.cell? ⟨bk, 1, none⟩ = some (.int .i64 0) ∧ w9.cell? ⟨bk, 2, none⟩ = some (.int .i64 0) ∧ w9.cell? ⟨bk, 3, none⟩ = some (.string ByteArray.empty) ∧ w9.cell? ⟨bk, 4, none⟩ = some (.slice B5 5 c5) ∧ Ext q5 w9 := ⟨_, _, rfl, rfl, by go_simp, by go_simp, by go_simp, by go_simp, by go_simp, (Ext.refl _).alloc _⟩
  have HW9 := Lib.hid hw9
  have HBK := Lib.hid hbk
  have hl9 := hp5.trans hx9
  have h29 := H2L.out.trans hl9
  have h19 := hx2.trans h29
  have HX9 := Lib.hid (HX1.out.trans h19)
  have HGR9 := Lib.hid (HGR.out.ext h19)
  have HTY9 := Lib.hid (HTY.out.ext h29)
  have HAL9 := Lib.hid (HAL.out.ext hl9)
  have HBK9 := Lib.hid (hV5.ext hx9)
  have HV19 := Lib.hid (HV1L.out.ext hl9)
  have HV29 := Lib.hid (HV2L.out.ext hl9)
  replace b0 := h19.cell b0
  replace b1 := h19.cell b1
  replace b2 := h19.cell b2
  replace b3 := h19.cell b3
  have a0 := hl9.cell (HAC.out 0 (by decide))
  have a1 := hl9.cell (HAC.out 1 (by decide))
  have a2 := hl9.cell (HAC.out 2 (by decide))
  have a3 := hl9.cell (HAC.out 3 (by decide))
  have a4 := hl9.cell (HAC.out 4 (by decide))
  have a5 := hl9.cell (HAC.out 5 (by decide))
  have a6 := hl9.cell (HAC.out 6 (by decide))
  have a7 := hl9.cell (HAC.out 7 (by decide))
  have a8 := hl9.cell (HAC.out 8 (by decide))
  have a9 := hl9.cell (HAC.out 9 (by decide))
  rw [← HBK.out, ← HW9.out]
  clear hw9 hbk HW9 HBK hp5 hx9 hl9 h29 h19 H2L HAC HAL HTY HGR hx1 hx2 s0 hV5
  obtain ⟨bx, hbx⟩ : ∃ bx, bx = h + 1 + 1 := ⟨_, rfl⟩
  rw [show h + 2 = bx from hbx.symm] at b0 b1 b2 b3
  rw [← hbx]
  clear hbx
  have MK5 := Lib.hid (fun V (e' : Ext w9 V) => (⟨e'.cell b0, e'.cell b1, e'.cell b2, e'.cell b3, e'.cell k0, e'.cell k1, e'.cell k2, e'.cell k3, e'.cell k4, e'.cell a0, e'.cell a1, e'.cell a2, e'.cell a3, e'.cell a4, e'.cell a5, e'.cell a6, e'.cell a7, e'.cell a8, e'.cell a9⟩ : (V.cell? ⟨bx, 0, none⟩ = some (.slice (some ⟨h, 0, none⟩) 2 2) ∧ V.cell? ⟨bx, 1, none⟩ = some (.slice (some ⟨h + 1, 0, none⟩) 3 3) ∧ V.cell? ⟨bx, 2, none⟩ = some (.int .i64 3) ∧ V.cell? ⟨bx, 3, none⟩ = some (.int .i64 4) ∧ V.cell? ⟨bk, 0, none⟩ = some (.int .i64 7) ∧ V.cell? ⟨bk, 1, none⟩ = some (.int .i64 0) ∧ V.cell? ⟨bk, 2, none⟩ = some (.int .i64 0) ∧ V.cell? ⟨bk, 3, none⟩ = some (.string ByteArray.empty) ∧ V.cell? ⟨bk, 4, none⟩ = some (.slice B5 5 c5) ∧ V.cell? ⟨L, 0, none⟩ = some (.int .i64 7) ∧ V.cell? ⟨L, 1, none⟩ = some (.int .i64 0) ∧ V.cell? ⟨L, 2, none⟩ = some (.int .i64 0) ∧ V.cell? ⟨L, 3, none⟩ = some (.string ByteArray.empty) ∧ V.cell? ⟨L, 4, none⟩ = some (.slice B1 1 c1) ∧ V.cell? ⟨L, 5, none⟩ = some (.int .i64 7) ∧ V.cell? ⟨L, 6, none⟩ = some (.int .i64 0) ∧ V.cell? ⟨L, 7, none⟩ = some (.int .i64 0) ∧ V.cell? ⟨L, 8, none⟩ = some (.string ByteArray.empty) ∧ V.cell? ⟨L, 9, none⟩ = some (.slice B2 3 c2))))
  have HF1 := Lib.hid (fun W (e' : Ext w9 W) => ((by have h0 := p_From gL [tL] 1 1 1 0 2 _ _ _ _ _ 2 3 1 W (HZ.out.ext (HX9.out.trans e')) (HGR9.out.ext e') cap_live (HTY9.out.ext e') (fun _ _ => by decide); rw [live_1] at h0; exact h0.mono (fun r w' ⟨A', c', h1, _, h3, h4⟩ => ⟨A', c', h1, h3, h4⟩)) : Calls Tryz.prog 11 #[.agg #[.slice (some ⟨h, 0, none⟩) 2 2, .slice (some ⟨h + 1, 0, none⟩) 3 3, .int .i64 3, .int .i64 4], .int .i64 1, (.slice (some ⟨hs, 0, none⟩) 1 1), .int .i64 1, .int .i64 1, .int .i64 0, .int .i64 2] W fun r w' => ∃ A' c', r = .returned (.slice A' 4 c') ∧ Vals w' (fun b => W.heap.size ≤ b) A' allL ∧ Ext W w'))
  have HF2 := Lib.hid (fun W (e' : Ext w9 W) => ((by have h0 := p_From gL [tL] 1 1 3 0 2 _ _ _ _ _ 2 3 1 W (HZ.out.ext (HX9.out.trans e')) (HGR9.out.ext e') cap_live (HTY9.out.ext e') (fun _ _ => by decide); rw [live_2] at h0; exact h0.mono (fun r w' ⟨A', c', h1, _, h3, h4⟩ => ⟨A', c', h1, h3, h4⟩)) : Calls Tryz.prog 11 #[.agg #[.slice (some ⟨h, 0, none⟩) 2 2, .slice (some ⟨h + 1, 0, none⟩) 3 3, .int .i64 3, .int .i64 4], .int .i64 1, (.slice (some ⟨hs, 0, none⟩) 1 1), .int .i64 1, .int .i64 3, .int .i64 0, .int .i64 2] W fun r w' => ∃ A' c', r = .returned (.slice A' 3 c') ∧ Vals w' (fun b => W.heap.size ≤ b) A' [pathV (altV [1]), pathV (altV [1, 1, 2]), pathV (altV [1, 1, 2, 2, 1])] ∧ Ext W w'))
  have HF3 := Lib.hid (fun W (e' : Ext w9 W) => ((by have h0 := p_From gL [tL] 1 1 4 0 2 _ _ _ _ _ 2 3 1 W (HZ.out.ext (HX9.out.trans e')) (HGR9.out.ext e') cap_live (HTY9.out.ext e') (fun _ _ => by decide); rw [live_7] at h0; exact h0.mono (fun r w' ⟨A', c', h1, _, h3, h4⟩ => ⟨A', c', h1, h4⟩)) : Calls Tryz.prog 11 #[.agg #[.slice (some ⟨h, 0, none⟩) 2 2, .slice (some ⟨h + 1, 0, none⟩) 3 3, .int .i64 3, .int .i64 4], .int .i64 1, (.slice (some ⟨hs, 0, none⟩) 1 1), .int .i64 1, .int .i64 4, .int .i64 0, .int .i64 2] W fun r w' => ∃ A' c', r = .returned (.slice A' 0 c') ∧ Ext W w'))
  have HS1 := Lib.hid (fun W A c okx (hV : Vals W okx A allL) (e' : Ext w9 W) => (by exact r24_Same allL okx _ A (some ⟨L, 0, none⟩) c 4 W hV (HAL9.out.ext e') (szL_all (by intro x hx; simp only [allL, List.mem_cons, List.not_mem_nil, or_false] at hx; rcases hx with rfl | rfl | rfl | rfl <;> exact sz_alt _)) : Calls Tryz.prog 10 #[.slice A 4 c, .slice (some ⟨L, 0, none⟩) 4 4] W fun r w' => r = .returned (.bool true) ∧ Ext W w'))
  have HS2 := Lib.hid (fun W A c okx (hV : Vals W okx A [pathV (altV [1]), pathV (altV [1, 1, 2]), pathV (altV [1, 1, 2, 2, 1])]) (e' : Ext w9 W) => (by exact r24_Same [pathV (altV [1]), pathV (altV [1, 1, 2]), pathV (altV [1, 1, 2, 2, 1])] okx _ A (some ⟨L, 0, none⟩) c 4 W hV ((HAL9.out.ext e').takeN 3) (szL_all (by intro x hx; simp only [List.mem_cons, List.not_mem_nil, or_false] at hx; rcases hx with rfl | rfl | rfl <;> exact sz_alt _)) : Calls Tryz.prog 10 #[.slice A 3 c, .slice (some ⟨L, 0, none⟩) 3 4] W fun r w' => r = .returned (.bool true) ∧ Ext W w'))
  have HS3 := Lib.hid (fun W A c H okx (hV : Vals W okx A [pathV (altV [2, 3, 2])]) (hV2 : Vals W (fun _ => True) (some ⟨H, 0, none⟩) [pathV (altV [2, 3, 2])]) => (by exact r24_Same [pathV (altV [2, 3, 2])] okx _ A (some ⟨H, 0, none⟩) c 1 W hV hV2 (szL_all (by intro x hx; simp only [List.mem_cons, List.not_mem_nil, or_false] at hx; rw [hx]; exact sz_alt _)) : Calls Tryz.prog 10 #[.slice A 1 c, .slice (some ⟨H, 0, none⟩) 1 1] W fun r w' => r = .returned (.bool true) ∧ Ext W w'))
  have HB1 := Lib.hid (fun W (e' : Ext w9 W) => ((by have h0 := p_Between gL [] 2 2 1 3 1 1 _ (fun _ => True) _ _ none 2 3 0 W (HZ.out.ext (HX9.out.trans e')) (HGR9.out.ext e') cap_live (SliceR.nil _ _ _) (fun _ _ => by decide); rw [live_3] at h0; exact h0.mono (fun r w' ⟨A', c', h1, _, h3, h4⟩ => ⟨A', c', h1, h3, h4⟩)) : Calls Tryz.prog 13 #[.agg #[.slice (some ⟨h, 0, none⟩) 2 2, .slice (some ⟨h + 1, 0, none⟩) 3 3, .int .i64 3, .int .i64 4], .int .i64 2, .int .i64 2, .slice none 0 0, .int .i64 1, .int .i64 3, .int .i64 1, .int .i64 1] W fun r w' => ∃ A' c', r = .returned (.slice A' 1 c') ∧ Vals w' (fun b => W.heap.size ≤ b) A' [pathV (altV [2, 3, 2])] ∧ Ext W w'))
  have HI1 := Lib.hid (fun W (e' : Ext w9 W) => ((by have h0 := p_Is gL (pathV (altV [1, 1, 2, 1, 1])) [] 3 3 _ (fun _ => True) _ _ _ none B5 2 3 0 c5 W (HGR9.out.ext e') cap_live (SliceR.nil _ _ _) (HBK9.out.ext e'); rw [live_4] at h0; exact h0) : Calls Tryz.prog 15 #[.agg #[.slice (some ⟨h, 0, none⟩) 2 2, .slice (some ⟨h + 1, 0, none⟩) 3 3, .int .i64 3, .int .i64 4], .agg #[.int .i64 7, .int .i64 0, .int .i64 0, .string ByteArray.empty, .slice B5 5 c5], .slice none 0 0, .int .i64 3, .int .i64 3] W fun r w' => r = .returned (.bool true) ∧ Ext W w'))
  have HI2 := Lib.hid (fun W (e' : Ext w9 W) => ((by have h0 := p_Is gL (pathV (altV [1, 1, 2, 1, 1])) [] 3 2 _ (fun _ => True) _ _ _ none B5 2 3 0 c5 W (HGR9.out.ext e') cap_live (SliceR.nil _ _ _) (HBK9.out.ext e'); rw [live_5] at h0; exact h0) : Calls Tryz.prog 15 #[.agg #[.slice (some ⟨h, 0, none⟩) 2 2, .slice (some ⟨h + 1, 0, none⟩) 3 3, .int .i64 3, .int .i64 4], .agg #[.int .i64 7, .int .i64 0, .int .i64 0, .string ByteArray.empty, .slice B5 5 c5], .slice none 0 0, .int .i64 3, .int .i64 2] W fun r w' => r = .returned (.bool false) ∧ Ext W w'))
  have HI3 := Lib.hid (fun W (e' : Ext w9 W) => ((by have h0 := p_Is gL (pathV (altV [1, 1, 2, 1, 1])) [] 1 1 _ (fun _ => True) _ _ _ none B5 2 3 0 c5 W (HGR9.out.ext e') cap_live (SliceR.nil _ _ _) (HBK9.out.ext e'); rw [live_6] at h0; exact h0) : Calls Tryz.prog 15 #[.agg #[.slice (some ⟨h, 0, none⟩) 2 2, .slice (some ⟨h + 1, 0, none⟩) 3 3, .int .i64 3, .int .i64 4], .agg #[.int .i64 7, .int .i64 0, .int .i64 0, .string ByteArray.empty, .slice B5 5 c5], .slice none 0 0, .int .i64 1, .int .i64 1] W fun r w' => r = .returned (.bool false) ∧ Ext W w'))
  have HH1 := Lib.hid (fun W (e' : Ext w9 W) => ((by have h0 := p_Hops (pathV (altV [1, 1, 2, 1, 1])) _ B5 c5 W (HBK9.out.ext e'); rw [live_8] at h0; exact h0) : Calls Tryz.prog 17 #[.agg #[.int .i64 7, .int .i64 0, .int .i64 0, .string ByteArray.empty, .slice B5 5 c5]] W fun r w' => r = .returned (.int .i64 2) ∧ Ext W w'))
  have HH2 := Lib.hid (fun W => ((by have h0 := p_Hops (.mk 0 0 0 ByteArray.empty []) (fun _ => True) none 0 W (SliceR.nil _ _ _); rw [live_9] at h0; exact h0) : Calls Tryz.prog 17 #[.agg #[.int .i64 0, .int .i64 0, .int .i64 0, .string ⟨#[]⟩, .slice none 0 0]] W fun r w' => r = .returned (.int .i64 (-1)) ∧ Ext W w'))
  have HO1 := Lib.hid (fun W (e' : Ext w9 W) => ((by have h0 := p_Order (pathV (altV [1])) (pathV (altV [1, 1, 2])) _ _ B1 B2 c1 c2 W (HZ.out.ext (HX9.out.trans e')) (HV19.out.ext e') (HV29.out.ext e'); rw [live_0] at h0; exact h0) : Calls Tryz.prog 19 #[.agg #[.int .i64 7, .int .i64 0, .int .i64 0, .string ByteArray.empty, .slice B1 1 c1], .agg #[.int .i64 7, .int .i64 0, .int .i64 0, .string ByteArray.empty, .slice B2 3 c2]] W fun r w' => r = .returned (.int .i64 (-1)) ∧ Ext W w'))
  have lp6 := Lib.hid (fun H W (hnu : Nums W (fun _ => True) (some ⟨H, 0, none⟩) [2, 3, 2]) => lpN [2, 3, 2] 3 rfl H W hnu (by decide))
  clear HV1L HV2L HV19 HV29 HAL9 HBK9 HGR9 HTY9 b0 b1 b2 b3 k0 k1 k2 k3 k4 a0 a1 a2 a3 a4 a5 a6 a7 a8 a9 hc1 hc2 hc3 hc4 hc5 HX1 HZ
  refine wp_region_held_drew (S := (fun V => V.cell? ⟨bx, 0, none⟩ = some (.slice (some ⟨h, 0, none⟩) 2 2) ∧ V.cell? ⟨bx, 1, none⟩ = some (.slice (some ⟨h + 1, 0, none⟩) 3 3) ∧ V.cell? ⟨bx, 2, none⟩ = some (.int .i64 3) ∧ V.cell? ⟨bx, 3, none⟩ = some (.int .i64 4) ∧ V.cell? ⟨bk, 0, none⟩ = some (.int .i64 7) ∧ V.cell? ⟨bk, 1, none⟩ = some (.int .i64 0) ∧ V.cell? ⟨bk, 2, none⟩ = some (.int .i64 0) ∧ V.cell? ⟨bk, 3, none⟩ = some (.string ByteArray.empty) ∧ V.cell? ⟨bk, 4, none⟩ = some (.slice B5 5 c5) ∧ V.cell? ⟨L, 0, none⟩ = some (.int .i64 7) ∧ V.cell? ⟨L, 1, none⟩ = some (.int .i64 0) ∧ V.cell? ⟨L, 2, none⟩ = some (.int .i64 0) ∧ V.cell? ⟨L, 3, none⟩ = some (.string ByteArray.empty) ∧ V.cell? ⟨L, 4, none⟩ = some (.slice B1 1 c1) ∧ V.cell? ⟨L, 5, none⟩ = some (.int .i64 7) ∧ V.cell? ⟨L, 6, none⟩ = some (.int .i64 0) ∧ V.cell? ⟨L, 7, none⟩ = some (.int .i64 0) ∧ V.cell? ⟨L, 8, none⟩ = some (.string ByteArray.empty) ∧ V.cell? ⟨L, 9, none⟩ = some (.slice B2 3 c2))) (by kernel_rfl) ?hs16001 (fun hHeld => ?go16001)
  case hs16001 => (exact MK5.out _ (by solve_by_elim [X0, X1, X2, X3]))
  refine TK 0 (v := ?v16002) hHeld ?hy16002 ?_
  case hy16002 => (intro w hSw; (try dsimp only at hSw); go_simp <;> first | with_reducible rfl | rw [if_neg (by omega)] | rw [if_pos (by omega)])
  (try simp only [PU])
  refine TK 1 (v := ?v16003) hHeld ?hy16003 ?_
  case hy16003 => (intro w _; go_simp <;> rfl)
  (try simp only [PU])
  refine TK 3 (v := ?v16004) hHeld ?hy16004 ?_
  case hy16004 => (intro w _; go_simp <;> rfl)
  (try simp only [PU])
  refine wpAnyH_ready (rs := [2]) (by kernel_rfl) (by simp) ?_
  refine AllReadyH.cons (o := ⟨_, _, _, _, _, _⟩) rfl (fun K hK => ?step16005x0) ?more16005x0
  case more16005x0 => exact AllReadyH.nil
  go_simp
  (with_reducible refine (HF1.out _ (by solve_by_elim [X0, X1, X2, X3])).mono ?_; rintro r v2 ⟨D2, d2, rfl, hU2, hy2⟩; replace hy2 : Ext w9 v2 := Ext.trans (by solve_by_elim [X0, X1, X2, X3]) hy2)
  refine hK.out _ _ ?hS16005x0 (fun H16005 => ?_)
  case hS16005x0 => first | (exact MK5.out _ (by solve_by_elim [X0, X1, X2, X3])) | ((try dsimp only); (exact MK5.out _ (by solve_by_elim [X0, X1, X2, X3])))
  clear hK K
  clear hHeld
  (try simp only [PU])
  refine wpAnyH_ready (rs := [4]) (by kernel_rfl) (by simp) ?_
  refine AllReadyH.cons (o := ⟨_, _, _, _, _, _⟩) rfl (fun K hK => ?step16006x0) ?more16006x0
  case more16006x0 => exact AllReadyH.nil
  go_simp
  (with_reducible refine (HS1.out _ _ _ _ (hU2.ext (by solve_by_elim [X0, X1, X2, X3])) (by solve_by_elim [X0, X1, X2, X3])).mono ?_; rintro r v4 ⟨rfl, hy4⟩; replace hy4 : Ext w9 v4 := Ext.trans (by solve_by_elim [X0, X1, X2, X3]) hy4)
  refine hK.out _ _ ?hS16006x0 (fun H16006 => ?_)
  case hS16006x0 => first | (exact MK5.out _ (by solve_by_elim [X0, X1, X2, X3])) | ((try dsimp only); (exact MK5.out _ (by solve_by_elim [X0, X1, X2, X3])))
  clear hK K
  clear H16005
  (try simp only [PU])
  refine TK 5 (v := ?v16007) H16006 ?hy16007 ?_
  case hy16007 => (intro w _; go_simp <;> rfl)
  (try simp only [PU])
  refine TK 6 (v := ?v16008) H16006 ?hy16008 ?_
  case hy16008 => (intro w hSw; (try dsimp only at hSw); go_simp <;> first | with_reducible rfl | rw [if_neg (by omega)] | rw [if_pos (by omega)])
  (try simp only [PU])
  refine TK 7 (v := ?v16009) H16006 ?hy16009 ?_
  case hy16009 => (intro w _; go_simp <;> rfl)
  (try simp only [PU])
  refine TK 9 (v := ?v16010) H16006 ?hy16010 ?_
  case hy16010 => (intro w _; go_simp <;> rfl)
  (try simp only [PU])
  refine TK 10 (v := ?v16011) H16006 ?hy16011 ?_
  case hy16011 => (intro w _; go_simp <;> first | with_reducible rfl | rw [if_neg (by omega)] | rw [if_pos (by omega)])
  (try simp only [PU])
  refine wpAnyH_ready (rs := [8]) (by kernel_rfl) (by simp) ?_
  refine AllReadyH.cons (o := ⟨_, _, _, _, _, _⟩) rfl (fun K hK => ?step16012x0) ?more16012x0
  case more16012x0 => exact AllReadyH.nil
  go_simp
  (with_reducible refine (HF2.out _ (by solve_by_elim [X0, X1, X2, X3])).mono ?_; rintro r v8 ⟨D8, d8, rfl, hU8, hy8⟩; replace hy8 : Ext w9 v8 := Ext.trans (by solve_by_elim [X0, X1, X2, X3]) hy8)
  refine hK.out _ _ ?hS16012x0 (fun H16012 => ?_)
  case hS16012x0 => first | (exact MK5.out _ (by solve_by_elim [X0, X1, X2, X3])) | ((try dsimp only); (exact MK5.out _ (by solve_by_elim [X0, X1, X2, X3])))
  clear hK K
  clear H16006
  (try simp only [PU])
  refine wpAnyH_ready (rs := [11]) (by kernel_rfl) (by simp) ?_
  refine AllReadyH.cons (o := ⟨_, _, _, _, _, _⟩) rfl (fun K hK => ?step16013x0) ?more16013x0
  case more16013x0 => exact AllReadyH.nil
  go_simp
  (with_reducible refine (HS2.out _ _ _ _ (hU8.ext (by solve_by_elim [X0, X1, X2, X3])) (by solve_by_elim [X0, X1, X2, X3])).mono ?_; rintro r v11 ⟨rfl, hy11⟩; replace hy11 : Ext w9 v11 := Ext.trans (by solve_by_elim [X0, X1, X2, X3]) hy11)
  refine hK.out _ _ ?hS16013x0 (fun H16013 => ?_)
  case hS16013x0 => first | (exact MK5.out _ (by solve_by_elim [X0, X1, X2, X3])) | ((try dsimp only); (exact MK5.out _ (by solve_by_elim [X0, X1, X2, X3])))
  clear hK K
  clear H16012
  (try simp only [PU])
  refine TK 12 (v := ?v16014) H16013 ?hy16014 ?_
  case hy16014 => (intro w _; go_simp <;> rfl)
  (try simp only [PU])
  refine TK 13 (v := ?v16015) H16013 ?hy16015 ?_
  case hy16015 => (intro w _; go_simp <;> rfl)
  (try simp only [PU])
  refine TK 14 (v := ?v16016) H16013 ?hy16016 ?_
  case hy16016 => (intro w hSw; (try dsimp only at hSw); go_simp <;> first | with_reducible rfl | rw [if_neg (by omega)] | rw [if_pos (by omega)])
  (try simp only [PU])
  refine wpAnyH_ready (rs := [15, 16]) (by kernel_rfl) (by simp) ?_
  refine AllReadyH.cons (o := ⟨_, _, _, _, _, _⟩) rfl (fun K hK => ?step16017x0) ?more16017x0
  case more16017x0 =>
    refine AllReadyH.cons (o := ⟨_, _, _, _, _, _⟩) rfl (fun K hK => ?step16017x1) ?more16017x1
    case more16017x1 => exact AllReadyH.nil
    go_simp
    refine hK.out _ _ ?hS16017x1 (fun H16017 => ?_)
    case hS16017x1 => first | (exact MK5.out _ (by solve_by_elim [X0, X1, X2, X3])) | ((try dsimp only); (exact MK5.out _ (by solve_by_elim [X0, X1, X2, X3])))
    clear hK K
    clear H16013
    (try simp only [PU])
    refine wpAnyH_ready (rs := [15]) (by kernel_rfl) (by simp) ?_
    refine AllReadyH.cons (o := ⟨_, _, _, _, _, _⟩) rfl (fun K hK => ?step16018x0) ?more16018x0
    case more16018x0 => exact AllReadyH.nil
    go_simp
    (with_reducible refine (HB1.out _ (by solve_by_elim [X0, X1, X2, X3])).mono ?_; rintro r v15 ⟨D15, d15, rfl, hU15, hy15⟩; have hNU := nums_at (W := v15) (H := v11.heap.size) (n := 3) (ids := [2, 3, 2]) len3 (fun j hj => by have h3 : j = 0 ∨ j = 1 ∨ j = 2 := (by have : j < 3 := hj; omega); rcases h3 with rfl | rfl | rfl <;> exact hy15.cell (by go_simp)); replace hy15 : Ext w9 v15 := Ext.trans (by solve_by_elim [X0, X1, X2, X3]) hy15)
    refine hK.out _ _ ?hS16018x0 (fun H16018 => ?_)
    case hS16018x0 => first | (exact MK5.out _ (by solve_by_elim [X0, X1, X2, X3])) | ((try dsimp only); (exact MK5.out _ (by solve_by_elim [X0, X1, X2, X3])))
    clear hK K
    clear H16017
    (try simp only [PU])
    refine wpAnyH_ready (rs := [17]) (by kernel_rfl) (by simp) ?_
    refine AllReadyH.cons (o := ⟨_, _, _, _, _, _⟩) rfl (fun K hK => ?step16019x0) ?more16019x0
    case more16019x0 => exact AllReadyH.nil
    go_simp
    (with_reducible refine (lp6.out _ _ hNU).mono ?_; rintro r v17 ⟨D17, d17, rfl, hd17, hU17, hy17⟩; replace hU15 := hU15.ext (Ext.trans (by solve_by_elim [X0, X1, X2, X3]) hy17); replace hy17 : Ext w9 v17 := Ext.trans (by solve_by_elim [X0, X1, X2, X3]) hy17)
    refine hK.out _ _ ?hS16019x0 (fun H16019 => ?_)
    case hS16019x0 => first | (exact MK5.out _ (by solve_by_elim [X0, X1, X2, X3])) | ((try dsimp only); (exact MK5.out _ (by solve_by_elim [X0, X1, X2, X3])))
    clear hK K
    clear H16018
    (try simp only [PU])
    refine wpAnyH_ready (rs := [18]) (by kernel_rfl) (by simp) ?_
    refine AllReadyH.cons (o := ⟨_, _, _, _, _, _⟩) rfl (fun K hK => ?step16020x0) ?more16020x0
    case more16020x0 => exact AllReadyH.nil
    go_simp
    refine hK.out _ _ ?hS16020x0 (fun H16020 => ?_)
    case hS16020x0 => first | (exact MK5.out _ (by solve_by_elim [X0, X1, X2, X3])) | ((try dsimp only); (exact MK5.out _ (by solve_by_elim [X0, X1, X2, X3])))
    clear hK K
    clear H16019
    (try simp only [PU])
    refine wpAnyH_ready (rs := [19]) (by kernel_rfl) (by simp) ?_
    refine AllReadyH.cons (o := ⟨_, _, _, _, _, _⟩) rfl (fun K hK => ?step16021x0) ?more16021x0
    case more16021x0 => exact AllReadyH.nil
    go_simp
    (with_reducible refine (HS3.out _ _ _ _ _ (hU15.ext (by solve_by_elim [X0, X1, X2, X3])) (one_at (hU17.ext (by solve_by_elim [X0, X1, X2, X3])) hd17 (by go_simp) (by go_simp) (by go_simp) (by go_simp) (by go_simp) alt3)).mono ?_; rintro r v19 ⟨rfl, hy19⟩; replace hy19 : Ext w9 v19 := Ext.trans (by solve_by_elim [X0, X1, X2, X3]) hy19)
    refine hK.out _ _ ?hS16021x0 (fun H16021 => ?_)
    case hS16021x0 => first | (exact MK5.out _ (by solve_by_elim [X0, X1, X2, X3])) | ((try dsimp only); (exact MK5.out _ (by solve_by_elim [X0, X1, X2, X3])))
    clear hK K
    clear H16020
    (try simp only [PU])
    refine TK 20 (v := ?v16022) H16021 ?hy16022 ?_
    case hy16022 => (intro w _; go_simp <;> rfl)
    (try simp only [PU])
    refine TK 21 (v := ?v16023) H16021 ?hy16023 ?_
    case hy16023 => (intro w _; go_simp <;> rfl)
    (try simp only [PU])
    refine TK 22 (v := ?v16024) H16021 ?hy16024 ?_
    case hy16024 => (intro w hSw; (try dsimp only at hSw); go_simp <;> first | with_reducible rfl | rw [if_neg (by omega)] | rw [if_pos (by omega)])
    (try simp only [PU])
    refine TK 23 (v := ?v16025) H16021 ?hy16025 ?_
    case hy16025 => (intro w hSw; (try dsimp only at hSw); go_simp <;> first | with_reducible rfl | rw [if_neg (by omega)] | rw [if_pos (by omega)])
    (try simp only [PU])
    refine wpAnyH_ready (rs := [24]) (by kernel_rfl) (by simp) ?_
    refine AllReadyH.cons (o := ⟨_, _, _, _, _, _⟩) rfl (fun K hK => ?step16026x0) ?more16026x0
    case more16026x0 => exact AllReadyH.nil
    go_simp
    (with_reducible refine (HI1.out _ (by solve_by_elim [X0, X1, X2, X3])).mono ?_; rintro r v24 ⟨rfl, hy24⟩; replace hy24 : Ext w9 v24 := Ext.trans (by solve_by_elim [X0, X1, X2, X3]) hy24)
    refine hK.out _ _ ?hS16026x0 (fun H16026 => ?_)
    case hS16026x0 => first | (exact MK5.out _ (by solve_by_elim [X0, X1, X2, X3])) | ((try dsimp only); (exact MK5.out _ (by solve_by_elim [X0, X1, X2, X3])))
    clear hK K
    clear H16021
    (try simp only [PU])
    refine TK 25 (v := ?v16027) H16026 ?hy16027 ?_
    case hy16027 => (intro w _; go_simp <;> rfl)
    (try simp only [PU])
    refine TK 26 (v := ?v16028) H16026 ?hy16028 ?_
    case hy16028 => (intro w _; go_simp <;> rfl)
    (try simp only [PU])
    refine TK 27 (v := ?v16029) H16026 ?hy16029 ?_
    case hy16029 => (intro w hSw; (try dsimp only at hSw); go_simp <;> first | with_reducible rfl | rw [if_neg (by omega)] | rw [if_pos (by omega)])
    (try simp only [PU])
    refine TK 28 (v := ?v16030) H16026 ?hy16030 ?_
    case hy16030 => (intro w hSw; (try dsimp only at hSw); go_simp <;> first | with_reducible rfl | rw [if_neg (by omega)] | rw [if_pos (by omega)])
    (try simp only [PU])
    refine wpAnyH_ready (rs := [29]) (by kernel_rfl) (by simp) ?_
    refine AllReadyH.cons (o := ⟨_, _, _, _, _, _⟩) rfl (fun K hK => ?step16031x0) ?more16031x0
    case more16031x0 => exact AllReadyH.nil
    go_simp
    (with_reducible refine (HI2.out _ (by solve_by_elim [X0, X1, X2, X3])).mono ?_; rintro r v29 ⟨rfl, hy29⟩; replace hy29 : Ext w9 v29 := Ext.trans (by solve_by_elim [X0, X1, X2, X3]) hy29)
    refine hK.out _ _ ?hS16031x0 (fun H16031 => ?_)
    case hS16031x0 => first | (exact MK5.out _ (by solve_by_elim [X0, X1, X2, X3])) | ((try dsimp only); (exact MK5.out _ (by solve_by_elim [X0, X1, X2, X3])))
    clear hK K
    clear H16026
    (try simp only [PU])
    refine TK 30 (v := ?v16032) H16031 ?hy16032 ?_
    case hy16032 => (intro w _; go_simp <;> first | with_reducible rfl | rw [if_neg (by omega)] | rw [if_pos (by omega)])
    (try simp only [PU])
    refine TK 31 (v := ?v16033) H16031 ?hy16033 ?_
    case hy16033 => (intro w _; go_simp <;> rfl)
    (try simp only [PU])
    refine TK 32 (v := ?v16034) H16031 ?hy16034 ?_
    case hy16034 => (intro w _; go_simp <;> rfl)
    (try simp only [PU])
    refine TK 33 (v := ?v16035) H16031 ?hy16035 ?_
    case hy16035 => (intro w hSw; (try dsimp only at hSw); go_simp <;> first | with_reducible rfl | rw [if_neg (by omega)] | rw [if_pos (by omega)])
    (try simp only [PU])
    refine TK 34 (v := ?v16036) H16031 ?hy16036 ?_
    case hy16036 => (intro w hSw; (try dsimp only at hSw); go_simp <;> first | with_reducible rfl | rw [if_neg (by omega)] | rw [if_pos (by omega)])
    (try simp only [PU])
    refine wpAnyH_ready (rs := [35]) (by kernel_rfl) (by simp) ?_
    refine AllReadyH.cons (o := ⟨_, _, _, _, _, _⟩) rfl (fun K hK => ?step16037x0) ?more16037x0
    case more16037x0 => exact AllReadyH.nil
    go_simp
    (with_reducible refine (HI3.out _ (by solve_by_elim [X0, X1, X2, X3])).mono ?_; rintro r v35 ⟨rfl, hy35⟩; replace hy35 : Ext w9 v35 := Ext.trans (by solve_by_elim [X0, X1, X2, X3]) hy35)
    refine hK.out _ _ ?hS16037x0 (fun H16037 => ?_)
    case hS16037x0 => first | (exact MK5.out _ (by solve_by_elim [X0, X1, X2, X3])) | ((try dsimp only); (exact MK5.out _ (by solve_by_elim [X0, X1, X2, X3])))
    clear hK K
    clear H16031
    (try simp only [PU])
    refine TK 36 (v := ?v16038) H16037 ?hy16038 ?_
    case hy16038 => (intro w _; go_simp <;> first | with_reducible rfl | rw [if_neg (by omega)] | rw [if_pos (by omega)])
    (try simp only [PU])
    refine TK 37 (v := ?v16039) H16037 ?hy16039 ?_
    case hy16039 => (intro w _; go_simp <;> rfl)
    (try simp only [PU])
    refine TK 38 (v := ?v16040) H16037 ?hy16040 ?_
    case hy16040 => (intro w _; go_simp <;> rfl)
    (try simp only [PU])
    refine TK 39 (v := ?v16041) H16037 ?hy16041 ?_
    case hy16041 => (intro w hSw; (try dsimp only at hSw); go_simp <;> first | with_reducible rfl | rw [if_neg (by omega)] | rw [if_pos (by omega)])
    (try simp only [PU])
    refine TK 40 (v := ?v16042) H16037 ?hy16042 ?_
    case hy16042 => (intro w _; go_simp <;> rfl)
    (try simp only [PU])
    refine wpAnyH_ready (rs := [41]) (by kernel_rfl) (by simp) ?_
    refine AllReadyH.cons (o := ⟨_, _, _, _, _, _⟩) rfl (fun K hK => ?step16043x0) ?more16043x0
    case more16043x0 => exact AllReadyH.nil
    go_simp
    (with_reducible refine (HF3.out _ (by solve_by_elim [X0, X1, X2, X3])).mono ?_; rintro r v41 ⟨D41, d41, rfl, hy41⟩; replace hy41 : Ext w9 v41 := Ext.trans (by solve_by_elim [X0, X1, X2, X3]) hy41)
    refine hK.out _ _ ?hS16043x0 (fun H16043 => ?_)
    case hS16043x0 => first | (exact MK5.out _ (by solve_by_elim [X0, X1, X2, X3])) | ((try dsimp only); (exact MK5.out _ (by solve_by_elim [X0, X1, X2, X3])))
    clear hK K
    clear H16037
    (try simp only [PU])
    refine TK 42 (v := ?v16044) H16043 ?hy16044 ?_
    case hy16044 => (intro w _; go_simp <;> first | with_reducible rfl | rw [if_neg (by omega)] | rw [if_pos (by omega)])
    (try simp only [PU])
    refine TK 43 (v := ?v16045) H16043 ?hy16045 ?_
    case hy16045 => (intro w _; go_simp <;> first | with_reducible rfl | rw [if_neg (by omega)] | rw [if_pos (by omega)])
    (try simp only [PU])
    refine TK 44 (v := ?v16046) H16043 ?hy16046 ?_
    case hy16046 => (intro w _; go_simp <;> rfl)
    (try simp only [PU])
    refine TK 45 (v := ?v16047) H16043 ?hy16047 ?_
    case hy16047 => (intro w _; go_simp <;> rfl)
    (try simp only [PU])
    refine TK 46 (v := ?v16048) H16043 ?hy16048 ?_
    case hy16048 => (intro w hSw; (try dsimp only at hSw); go_simp <;> first | with_reducible rfl | rw [if_neg (by omega)] | rw [if_pos (by omega)])
    (try simp only [PU])
    refine wpAnyH_ready (rs := [47]) (by kernel_rfl) (by simp) ?_
    refine AllReadyH.cons (o := ⟨_, _, _, _, _, _⟩) rfl (fun K hK => ?step16049x0) ?more16049x0
    case more16049x0 => exact AllReadyH.nil
    go_simp
    (with_reducible refine (HH1.out _ (by solve_by_elim [X0, X1, X2, X3])).mono ?_; rintro r v47 ⟨rfl, hy47⟩; replace hy47 : Ext w9 v47 := Ext.trans (by solve_by_elim [X0, X1, X2, X3]) hy47)
    refine hK.out _ _ ?hS16049x0 (fun H16049 => ?_)
    case hS16049x0 => first | (exact MK5.out _ (by solve_by_elim [X0, X1, X2, X3])) | ((try dsimp only); (exact MK5.out _ (by solve_by_elim [X0, X1, X2, X3])))
    clear hK K
    clear H16043
    (try simp only [PU])
    refine TK 48 (v := ?v16050) H16049 ?hy16050 ?_
    case hy16050 => (intro w _; go_simp <;> first | with_reducible rfl | rw [if_neg (by omega)] | rw [if_pos (by omega)])
    (try simp only [PU])
    refine TK 49 (v := ?v16051) H16049 ?hy16051 ?_
    case hy16051 => (intro w _; go_simp <;> rfl)
    (try simp only [PU])
    refine TK 50 (v := ?v16052) H16049 ?hy16052 ?_
    case hy16052 => (intro w _; go_simp <;> rfl)
    (try simp only [PU])
    refine TK 51 (v := ?v16053) H16049 ?hy16053 ?_
    case hy16053 => (intro w _; go_simp <;> rfl)
    (try simp only [PU])
    refine wpAnyH_ready (rs := [52]) (by kernel_rfl) (by simp) ?_
    refine AllReadyH.cons (o := ⟨_, _, _, _, _, _⟩) rfl (fun K hK => ?step16054x0) ?more16054x0
    case more16054x0 => exact AllReadyH.nil
    go_simp
    (with_reducible refine (HH2.out _).mono ?_; rintro r v52 ⟨rfl, hy52⟩; replace hy52 : Ext w9 v52 := Ext.trans (by solve_by_elim [X0, X1, X2, X3]) hy52)
    refine hK.out _ _ ?hS16054x0 (fun H16054 => ?_)
    case hS16054x0 => first | (exact MK5.out _ (by solve_by_elim [X0, X1, X2, X3])) | ((try dsimp only); (exact MK5.out _ (by solve_by_elim [X0, X1, X2, X3])))
    clear hK K
    clear H16049
    (try simp only [PU])
    refine TK 53 (v := ?v16055) H16054 ?hy16055 ?_
    case hy16055 => (intro w _; go_simp <;> first | with_reducible rfl | rw [if_neg (by omega)] | rw [if_pos (by omega)])
    (try simp only [PU])
    refine TK 54 (v := ?v16056) H16054 ?hy16056 ?_
    case hy16056 => (intro w _; go_simp <;> rfl)
    (try simp only [PU])
    refine TK 55 (v := ?v16057) H16054 ?hy16057 ?_
    case hy16057 => (intro w _; go_simp <;> rfl)
    (try simp only [PU])
    refine TK 56 (v := ?v16058) H16054 ?hy16058 ?_
    case hy16058 => (intro w _; go_simp <;> rfl)
    (try simp only [PU])
    refine TK 57 (v := ?v16059) H16054 ?hy16059 ?_
    case hy16059 => (intro w _; go_simp <;> first | with_reducible rfl | rw [if_neg (by omega)] | rw [if_pos (by omega)])
    (try simp only [PU])
    refine TK 58 (v := ?v16060) H16054 ?hy16060 ?_
    case hy16060 => (intro w hSw; (try dsimp only at hSw); go_simp <;> first | with_reducible rfl | rw [if_neg (by omega)] | rw [if_pos (by omega)])
    (try simp only [PU])
    refine TK 59 (v := ?v16061) H16054 ?hy16061 ?_
    case hy16061 => (intro w _; go_simp <;> rfl)
    (try simp only [PU])
    refine TK 60 (v := ?v16062) H16054 ?hy16062 ?_
    case hy16062 => (intro w _; go_simp <;> first | with_reducible rfl | rw [if_neg (by omega)] | rw [if_pos (by omega)])
    (try simp only [PU])
    refine TK 61 (v := ?v16063) H16054 ?hy16063 ?_
    case hy16063 => (intro w hSw; (try dsimp only at hSw); go_simp <;> first | with_reducible rfl | rw [if_neg (by omega)] | rw [if_pos (by omega)])
    (try simp only [PU])
    refine wpAnyH_ready (rs := [62]) (by kernel_rfl) (by simp) ?_
    refine AllReadyH.cons (o := ⟨_, _, _, _, _, _⟩) rfl (fun K hK => ?step16064x0) ?more16064x0
    case more16064x0 => exact AllReadyH.nil
    go_simp
    (with_reducible refine (HO1.out _ (by solve_by_elim [X0, X1, X2, X3])).mono ?_; rintro r v62 ⟨rfl, hy62⟩; replace hy62 : Ext w9 v62 := Ext.trans (by solve_by_elim [X0, X1, X2, X3]) hy62)
    refine hK.out _ _ ?hS16064x0 (fun H16064 => ?_)
    case hS16064x0 => first | (exact MK5.out _ (by solve_by_elim [X0, X1, X2, X3])) | ((try dsimp only); (exact MK5.out _ (by solve_by_elim [X0, X1, X2, X3])))
    clear hK K
    clear H16054
    (try simp only [PU])
    refine TK 63 (v := ?v16065) H16064 ?hy16065 ?_
    case hy16065 => (intro w _; go_simp <;> first | with_reducible rfl | rw [if_neg (by omega)] | rw [if_pos (by omega)])
    (try simp only [PU])
    refine TK 64 (v := ?v16066) H16064 ?hy16066 ?_
    case hy16066 => (intro w _; go_simp <;> rfl)
    (try simp only [PU])
    refine TK 65 (v := ?v16067) H16064 ?hy16067 ?_
    case hy16067 => (intro w _; go_simp <;> first | with_reducible rfl | rw [if_neg (by omega)] | rw [if_pos (by omega)])
    (try simp only [PU])
    refine wpAnyH_done (by kernel_rfl) ?_ _
    clear H16064
    go_wp2_with fail
    go_ret
    exact ⟨rfl, HX9.out.trans (by solve_by_elim [X0, X1, X2, X3])⟩
  go_simp
  (with_reducible refine (HB1.out _ (by solve_by_elim [X0, X1, X2, X3])).mono ?_; rintro r v15 ⟨D15, d15, rfl, hU15, hy15⟩; replace hy15 : Ext w9 v15 := Ext.trans (by solve_by_elim [X0, X1, X2, X3]) hy15)
  refine hK.out _ _ ?hS16017x0 (fun H16017 => ?_)
  case hS16017x0 => first | (exact MK5.out _ (by solve_by_elim [X0, X1, X2, X3])) | ((try dsimp only); (exact MK5.out _ (by solve_by_elim [X0, X1, X2, X3])))
  clear hK K
  clear H16013
  (try simp only [PU])
  refine wpAnyH_ready (rs := [16]) (by kernel_rfl) (by simp) ?_
  refine AllReadyH.cons (o := ⟨_, _, _, _, _, _⟩) rfl (fun K hK => ?step16068x0) ?more16068x0
  case more16068x0 => exact AllReadyH.nil
  go_simp
  refine hK.out _ _ ?hS16068x0 (fun H16068 => ?_)
  case hS16068x0 => first | (exact MK5.out _ (by solve_by_elim [X0, X1, X2, X3])) | ((try dsimp only); (exact MK5.out _ (by solve_by_elim [X0, X1, X2, X3])))
  clear hK K
  clear H16017
  (try simp only [PU])
  refine wpAnyH_ready (rs := [17]) (by kernel_rfl) (by simp) ?_
  refine AllReadyH.cons (o := ⟨_, _, _, _, _, _⟩) rfl (fun K hK => ?step16069x0) ?more16069x0
  case more16069x0 => exact AllReadyH.nil
  go_simp
  (with_reducible refine (lp6.out _ _ (nums_at (n := 3) (ids := [2, 3, 2]) len3 (fun j hj => by have h3 : j = 0 ∨ j = 1 ∨ j = 2 := (by have : j < 3 := hj; omega); rcases h3 with rfl | rfl | rfl <;> go_simp))).mono ?_; rintro r v17 ⟨D17, d17, rfl, hd17, hU17, hy17⟩; replace hU15 := hU15.ext (Ext.trans (by solve_by_elim [X0, X1, X2, X3]) hy17); replace hy17 : Ext w9 v17 := Ext.trans (by solve_by_elim [X0, X1, X2, X3]) hy17)
  refine hK.out _ _ ?hS16069x0 (fun H16069 => ?_)
  case hS16069x0 => first | (exact MK5.out _ (by solve_by_elim [X0, X1, X2, X3])) | ((try dsimp only); (exact MK5.out _ (by solve_by_elim [X0, X1, X2, X3])))
  clear hK K
  clear H16068
  (try simp only [PU])
  refine wpAnyH_ready (rs := [18]) (by kernel_rfl) (by simp) ?_
  refine AllReadyH.cons (o := ⟨_, _, _, _, _, _⟩) rfl (fun K hK => ?step16070x0) ?more16070x0
  case more16070x0 => exact AllReadyH.nil
  go_simp
  refine hK.out _ _ ?hS16070x0 (fun H16070 => ?_)
  case hS16070x0 => first | (exact MK5.out _ (by solve_by_elim [X0, X1, X2, X3])) | ((try dsimp only); (exact MK5.out _ (by solve_by_elim [X0, X1, X2, X3])))
  clear hK K
  clear H16069
  (try simp only [PU])
  refine wpAnyH_ready (rs := [19]) (by kernel_rfl) (by simp) ?_
  refine AllReadyH.cons (o := ⟨_, _, _, _, _, _⟩) rfl (fun K hK => ?step16071x0) ?more16071x0
  case more16071x0 => exact AllReadyH.nil
  go_simp
  (with_reducible refine (HS3.out _ _ _ _ _ (hU15.ext (by solve_by_elim [X0, X1, X2, X3])) (one_at (hU17.ext (by solve_by_elim [X0, X1, X2, X3])) hd17 (by go_simp) (by go_simp) (by go_simp) (by go_simp) (by go_simp) alt3)).mono ?_; rintro r v19 ⟨rfl, hy19⟩; replace hy19 : Ext w9 v19 := Ext.trans (by solve_by_elim [X0, X1, X2, X3]) hy19)
  refine hK.out _ _ ?hS16071x0 (fun H16071 => ?_)
  case hS16071x0 => first | (exact MK5.out _ (by solve_by_elim [X0, X1, X2, X3])) | ((try dsimp only); (exact MK5.out _ (by solve_by_elim [X0, X1, X2, X3])))
  clear hK K
  clear H16070
  (try simp only [PU])
  refine TK 20 (v := ?v16072) H16071 ?hy16072 ?_
  case hy16072 => (intro w _; go_simp <;> rfl)
  (try simp only [PU])
  refine TK 21 (v := ?v16073) H16071 ?hy16073 ?_
  case hy16073 => (intro w _; go_simp <;> rfl)
  (try simp only [PU])
  refine TK 22 (v := ?v16074) H16071 ?hy16074 ?_
  case hy16074 => (intro w hSw; (try dsimp only at hSw); go_simp <;> first | with_reducible rfl | rw [if_neg (by omega)] | rw [if_pos (by omega)])
  (try simp only [PU])
  refine TK 23 (v := ?v16075) H16071 ?hy16075 ?_
  case hy16075 => (intro w hSw; (try dsimp only at hSw); go_simp <;> first | with_reducible rfl | rw [if_neg (by omega)] | rw [if_pos (by omega)])
  (try simp only [PU])
  refine wpAnyH_ready (rs := [24]) (by kernel_rfl) (by simp) ?_
  refine AllReadyH.cons (o := ⟨_, _, _, _, _, _⟩) rfl (fun K hK => ?step16076x0) ?more16076x0
  case more16076x0 => exact AllReadyH.nil
  go_simp
  (with_reducible refine (HI1.out _ (by solve_by_elim [X0, X1, X2, X3])).mono ?_; rintro r v24 ⟨rfl, hy24⟩; replace hy24 : Ext w9 v24 := Ext.trans (by solve_by_elim [X0, X1, X2, X3]) hy24)
  refine hK.out _ _ ?hS16076x0 (fun H16076 => ?_)
  case hS16076x0 => first | (exact MK5.out _ (by solve_by_elim [X0, X1, X2, X3])) | ((try dsimp only); (exact MK5.out _ (by solve_by_elim [X0, X1, X2, X3])))
  clear hK K
  clear H16071
  (try simp only [PU])
  refine TK 25 (v := ?v16077) H16076 ?hy16077 ?_
  case hy16077 => (intro w _; go_simp <;> rfl)
  (try simp only [PU])
  refine TK 26 (v := ?v16078) H16076 ?hy16078 ?_
  case hy16078 => (intro w _; go_simp <;> rfl)
  (try simp only [PU])
  refine TK 27 (v := ?v16079) H16076 ?hy16079 ?_
  case hy16079 => (intro w hSw; (try dsimp only at hSw); go_simp <;> first | with_reducible rfl | rw [if_neg (by omega)] | rw [if_pos (by omega)])
  (try simp only [PU])
  refine TK 28 (v := ?v16080) H16076 ?hy16080 ?_
  case hy16080 => (intro w hSw; (try dsimp only at hSw); go_simp <;> first | with_reducible rfl | rw [if_neg (by omega)] | rw [if_pos (by omega)])
  (try simp only [PU])
  refine wpAnyH_ready (rs := [29]) (by kernel_rfl) (by simp) ?_
  refine AllReadyH.cons (o := ⟨_, _, _, _, _, _⟩) rfl (fun K hK => ?step16081x0) ?more16081x0
  case more16081x0 => exact AllReadyH.nil
  go_simp
  (with_reducible refine (HI2.out _ (by solve_by_elim [X0, X1, X2, X3])).mono ?_; rintro r v29 ⟨rfl, hy29⟩; replace hy29 : Ext w9 v29 := Ext.trans (by solve_by_elim [X0, X1, X2, X3]) hy29)
  refine hK.out _ _ ?hS16081x0 (fun H16081 => ?_)
  case hS16081x0 => first | (exact MK5.out _ (by solve_by_elim [X0, X1, X2, X3])) | ((try dsimp only); (exact MK5.out _ (by solve_by_elim [X0, X1, X2, X3])))
  clear hK K
  clear H16076
  (try simp only [PU])
  refine TK 30 (v := ?v16082) H16081 ?hy16082 ?_
  case hy16082 => (intro w _; go_simp <;> first | with_reducible rfl | rw [if_neg (by omega)] | rw [if_pos (by omega)])
  (try simp only [PU])
  refine TK 31 (v := ?v16083) H16081 ?hy16083 ?_
  case hy16083 => (intro w _; go_simp <;> rfl)
  (try simp only [PU])
  refine TK 32 (v := ?v16084) H16081 ?hy16084 ?_
  case hy16084 => (intro w _; go_simp <;> rfl)
  (try simp only [PU])
  refine TK 33 (v := ?v16085) H16081 ?hy16085 ?_
  case hy16085 => (intro w hSw; (try dsimp only at hSw); go_simp <;> first | with_reducible rfl | rw [if_neg (by omega)] | rw [if_pos (by omega)])
  (try simp only [PU])
  refine TK 34 (v := ?v16086) H16081 ?hy16086 ?_
  case hy16086 => (intro w hSw; (try dsimp only at hSw); go_simp <;> first | with_reducible rfl | rw [if_neg (by omega)] | rw [if_pos (by omega)])
  (try simp only [PU])
  refine wpAnyH_ready (rs := [35]) (by kernel_rfl) (by simp) ?_
  refine AllReadyH.cons (o := ⟨_, _, _, _, _, _⟩) rfl (fun K hK => ?step16087x0) ?more16087x0
  case more16087x0 => exact AllReadyH.nil
  go_simp
  (with_reducible refine (HI3.out _ (by solve_by_elim [X0, X1, X2, X3])).mono ?_; rintro r v35 ⟨rfl, hy35⟩; replace hy35 : Ext w9 v35 := Ext.trans (by solve_by_elim [X0, X1, X2, X3]) hy35)
  refine hK.out _ _ ?hS16087x0 (fun H16087 => ?_)
  case hS16087x0 => first | (exact MK5.out _ (by solve_by_elim [X0, X1, X2, X3])) | ((try dsimp only); (exact MK5.out _ (by solve_by_elim [X0, X1, X2, X3])))
  clear hK K
  clear H16081
  (try simp only [PU])
  refine TK 36 (v := ?v16088) H16087 ?hy16088 ?_
  case hy16088 => (intro w _; go_simp <;> first | with_reducible rfl | rw [if_neg (by omega)] | rw [if_pos (by omega)])
  (try simp only [PU])
  refine TK 37 (v := ?v16089) H16087 ?hy16089 ?_
  case hy16089 => (intro w _; go_simp <;> rfl)
  (try simp only [PU])
  refine TK 38 (v := ?v16090) H16087 ?hy16090 ?_
  case hy16090 => (intro w _; go_simp <;> rfl)
  (try simp only [PU])
  refine TK 39 (v := ?v16091) H16087 ?hy16091 ?_
  case hy16091 => (intro w hSw; (try dsimp only at hSw); go_simp <;> first | with_reducible rfl | rw [if_neg (by omega)] | rw [if_pos (by omega)])
  (try simp only [PU])
  refine TK 40 (v := ?v16092) H16087 ?hy16092 ?_
  case hy16092 => (intro w _; go_simp <;> rfl)
  (try simp only [PU])
  refine wpAnyH_ready (rs := [41]) (by kernel_rfl) (by simp) ?_
  refine AllReadyH.cons (o := ⟨_, _, _, _, _, _⟩) rfl (fun K hK => ?step16093x0) ?more16093x0
  case more16093x0 => exact AllReadyH.nil
  go_simp
  (with_reducible refine (HF3.out _ (by solve_by_elim [X0, X1, X2, X3])).mono ?_; rintro r v41 ⟨D41, d41, rfl, hy41⟩; replace hy41 : Ext w9 v41 := Ext.trans (by solve_by_elim [X0, X1, X2, X3]) hy41)
  refine hK.out _ _ ?hS16093x0 (fun H16093 => ?_)
  case hS16093x0 => first | (exact MK5.out _ (by solve_by_elim [X0, X1, X2, X3])) | ((try dsimp only); (exact MK5.out _ (by solve_by_elim [X0, X1, X2, X3])))
  clear hK K
  clear H16087
  (try simp only [PU])
  refine TK 42 (v := ?v16094) H16093 ?hy16094 ?_
  case hy16094 => (intro w _; go_simp <;> first | with_reducible rfl | rw [if_neg (by omega)] | rw [if_pos (by omega)])
  (try simp only [PU])
  refine TK 43 (v := ?v16095) H16093 ?hy16095 ?_
  case hy16095 => (intro w _; go_simp <;> first | with_reducible rfl | rw [if_neg (by omega)] | rw [if_pos (by omega)])
  (try simp only [PU])
  refine TK 44 (v := ?v16096) H16093 ?hy16096 ?_
  case hy16096 => (intro w _; go_simp <;> rfl)
  (try simp only [PU])
  refine TK 45 (v := ?v16097) H16093 ?hy16097 ?_
  case hy16097 => (intro w _; go_simp <;> rfl)
  (try simp only [PU])
  refine TK 46 (v := ?v16098) H16093 ?hy16098 ?_
  case hy16098 => (intro w hSw; (try dsimp only at hSw); go_simp <;> first | with_reducible rfl | rw [if_neg (by omega)] | rw [if_pos (by omega)])
  (try simp only [PU])
  refine wpAnyH_ready (rs := [47]) (by kernel_rfl) (by simp) ?_
  refine AllReadyH.cons (o := ⟨_, _, _, _, _, _⟩) rfl (fun K hK => ?step16099x0) ?more16099x0
  case more16099x0 => exact AllReadyH.nil
  go_simp
  (with_reducible refine (HH1.out _ (by solve_by_elim [X0, X1, X2, X3])).mono ?_; rintro r v47 ⟨rfl, hy47⟩; replace hy47 : Ext w9 v47 := Ext.trans (by solve_by_elim [X0, X1, X2, X3]) hy47)
  refine hK.out _ _ ?hS16099x0 (fun H16099 => ?_)
  case hS16099x0 => first | (exact MK5.out _ (by solve_by_elim [X0, X1, X2, X3])) | ((try dsimp only); (exact MK5.out _ (by solve_by_elim [X0, X1, X2, X3])))
  clear hK K
  clear H16093
  (try simp only [PU])
  refine TK 48 (v := ?v16100) H16099 ?hy16100 ?_
  case hy16100 => (intro w _; go_simp <;> first | with_reducible rfl | rw [if_neg (by omega)] | rw [if_pos (by omega)])
  (try simp only [PU])
  refine TK 49 (v := ?v16101) H16099 ?hy16101 ?_
  case hy16101 => (intro w _; go_simp <;> rfl)
  (try simp only [PU])
  refine TK 50 (v := ?v16102) H16099 ?hy16102 ?_
  case hy16102 => (intro w _; go_simp <;> rfl)
  (try simp only [PU])
  refine TK 51 (v := ?v16103) H16099 ?hy16103 ?_
  case hy16103 => (intro w _; go_simp <;> rfl)
  (try simp only [PU])
  refine wpAnyH_ready (rs := [52]) (by kernel_rfl) (by simp) ?_
  refine AllReadyH.cons (o := ⟨_, _, _, _, _, _⟩) rfl (fun K hK => ?step16104x0) ?more16104x0
  case more16104x0 => exact AllReadyH.nil
  go_simp
  (with_reducible refine (HH2.out _).mono ?_; rintro r v52 ⟨rfl, hy52⟩; replace hy52 : Ext w9 v52 := Ext.trans (by solve_by_elim [X0, X1, X2, X3]) hy52)
  refine hK.out _ _ ?hS16104x0 (fun H16104 => ?_)
  case hS16104x0 => first | (exact MK5.out _ (by solve_by_elim [X0, X1, X2, X3])) | ((try dsimp only); (exact MK5.out _ (by solve_by_elim [X0, X1, X2, X3])))
  clear hK K
  clear H16099
  (try simp only [PU])
  refine TK 53 (v := ?v16105) H16104 ?hy16105 ?_
  case hy16105 => (intro w _; go_simp <;> first | with_reducible rfl | rw [if_neg (by omega)] | rw [if_pos (by omega)])
  (try simp only [PU])
  refine TK 54 (v := ?v16106) H16104 ?hy16106 ?_
  case hy16106 => (intro w _; go_simp <;> rfl)
  (try simp only [PU])
  refine TK 55 (v := ?v16107) H16104 ?hy16107 ?_
  case hy16107 => (intro w _; go_simp <;> rfl)
  (try simp only [PU])
  refine TK 56 (v := ?v16108) H16104 ?hy16108 ?_
  case hy16108 => (intro w _; go_simp <;> rfl)
  (try simp only [PU])
  refine TK 57 (v := ?v16109) H16104 ?hy16109 ?_
  case hy16109 => (intro w _; go_simp <;> first | with_reducible rfl | rw [if_neg (by omega)] | rw [if_pos (by omega)])
  (try simp only [PU])
  refine TK 58 (v := ?v16110) H16104 ?hy16110 ?_
  case hy16110 => (intro w hSw; (try dsimp only at hSw); go_simp <;> first | with_reducible rfl | rw [if_neg (by omega)] | rw [if_pos (by omega)])
  (try simp only [PU])
  refine TK 59 (v := ?v16111) H16104 ?hy16111 ?_
  case hy16111 => (intro w _; go_simp <;> rfl)
  (try simp only [PU])
  refine TK 60 (v := ?v16112) H16104 ?hy16112 ?_
  case hy16112 => (intro w _; go_simp <;> first | with_reducible rfl | rw [if_neg (by omega)] | rw [if_pos (by omega)])
  (try simp only [PU])
  refine TK 61 (v := ?v16113) H16104 ?hy16113 ?_
  case hy16113 => (intro w hSw; (try dsimp only at hSw); go_simp <;> first | with_reducible rfl | rw [if_neg (by omega)] | rw [if_pos (by omega)])
  (try simp only [PU])
  refine wpAnyH_ready (rs := [62]) (by kernel_rfl) (by simp) ?_
  refine AllReadyH.cons (o := ⟨_, _, _, _, _, _⟩) rfl (fun K hK => ?step16114x0) ?more16114x0
  case more16114x0 => exact AllReadyH.nil
  go_simp
  (with_reducible refine (HO1.out _ (by solve_by_elim [X0, X1, X2, X3])).mono ?_; rintro r v62 ⟨rfl, hy62⟩; replace hy62 : Ext w9 v62 := Ext.trans (by solve_by_elim [X0, X1, X2, X3]) hy62)
  refine hK.out _ _ ?hS16114x0 (fun H16114 => ?_)
  case hS16114x0 => first | (exact MK5.out _ (by solve_by_elim [X0, X1, X2, X3])) | ((try dsimp only); (exact MK5.out _ (by solve_by_elim [X0, X1, X2, X3])))
  clear hK K
  clear H16104
  (try simp only [PU])
  refine TK 63 (v := ?v16115) H16114 ?hy16115 ?_
  case hy16115 => (intro w _; go_simp <;> first | with_reducible rfl | rw [if_neg (by omega)] | rw [if_pos (by omega)])
  (try simp only [PU])
  refine TK 64 (v := ?v16116) H16114 ?hy16116 ?_
  case hy16116 => (intro w _; go_simp <;> rfl)
  (try simp only [PU])
  refine TK 65 (v := ?v16117) H16114 ?hy16117 ?_
  case hy16117 => (intro w _; go_simp <;> first | with_reducible rfl | rw [if_neg (by omega)] | rw [if_pos (by omega)])
  (try simp only [PU])
  refine wpAnyH_done (by kernel_rfl) ?_ _
  clear H16114
  go_wp2_with fail
  go_ret
  exact ⟨rfl, HX9.out.trans (by solve_by_elim [X0, X1, X2, X3])⟩
end Go.Proofs.YtigmdddeplnciaaGreatDoor
