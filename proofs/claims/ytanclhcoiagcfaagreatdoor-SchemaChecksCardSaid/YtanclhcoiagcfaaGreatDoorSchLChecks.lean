/- THE LAW Checks. -/
import Derived.Test.YtanclhcoiagcfaaGreatDoorSchLLen
namespace Go.Proofs.YtanclhcoiagcfaaGreatDoor
open Go.RowKit

set_option maxRecDepth 100000 in
set_option maxHeartbeats 3200000 in
theorem l_Checks (r : RuleP) (k : Int) (w : World) (hw : LaidS w) : Calls Tryz.prog 3 #[r.val, .int .i64 k] w fun e w' => e = .returned (.bool true) ∧ Ext w w' := by
  have C1 := fun W => s_Check r W
  have C2 := fun W => r9_Check r W
  have C3 := fun W (h : LaidW W) => s_Text r W h
  have C4 := fun W => r9_Text r W
  have C5 := fun W => s_Fault k W
  have C6 := fun W => r9_Fault k W
  generalize chkR r = z at C1 C2
  generalize asB (textL r) = t at C3 C4
  generalize faultV k = y at C5 C6
  obtain ⟨rk, rn, rnm, rky, rfr, rto⟩ := r
  simp only [RuleP.val] at C1 C2 C3 C4
  simp only [RuleP.val]
  obtain ⟨g, w2, hg, hw2, hb, hx, -⟩ := box_rule w ⟨rk, rn, rnm, rky, rfr, rto⟩ 23
  have Hg := Lib.hid hg
  have Hw2 := Lib.hid hw2
  clear hg hw2
  have hw' := hw.ext hx
  have HC := Lib.hid C1
  have HRC := Lib.hid C2
  have HT := Lib.hid (fun W (e : Ext w2 W) => C3 W (hw'.ext e).1)
  have HRT := Lib.hid C4
  have HF := Lib.hid (fun W => (C5 W).mono (fun _ w' h => (⟨h.1, h.2 ▸ Ext.refl _⟩ : _ ∧ Ext W w')))
  have HRF := Lib.hid (fun W => (C6 W).mono (fun _ w' h => (⟨h.1, h.2 ▸ Ext.refl _⟩ : _ ∧ Ext W w')))
  have HL := Lib.hid (fun W (e : Ext w2 W) => l_lives W (hw'.ext e))
  obtain ⟨b0, b1, b2, b3, b4, b5⟩ := id hb
  have MK := Lib.hid (fun V (e : Ext w2 V) => (by exact ⟨e.cell b0, e.cell b1, e.cell b2, e.cell b3, e.cell b4, e.cell b5, e⟩ : (fun V => V.cell? ⟨g, 0, none⟩ = some (.int .i64 rk) ∧ V.cell? ⟨g, 1, none⟩ = some (.int .i64 rn) ∧ V.cell? ⟨g, 2, none⟩ = some (.string rnm) ∧ V.cell? ⟨g, 3, none⟩ = some (.string rky) ∧ V.cell? ⟨g, 4, none⟩ = some (.string rfr) ∧ V.cell? ⟨g, 5, none⟩ = some (.string rto) ∧ Ext w2 V) V))
  clear C1 C2 C3 C4 C5 C6 b0 b1 b2 b3 b4 b5 hb hw hw'
  go_enter Tryz.func3, Tryz.ntmps3
  go_upto_region 1 with (fail)
  rw [← Hw2.out, ← Hg.out]
  clear Hw2 Hg
  refine wp_region_held_drew (S := (fun V => V.cell? ⟨g, 0, none⟩ = some (.int .i64 rk) ∧ V.cell? ⟨g, 1, none⟩ = some (.int .i64 rn) ∧ V.cell? ⟨g, 2, none⟩ = some (.string rnm) ∧ V.cell? ⟨g, 3, none⟩ = some (.string rky) ∧ V.cell? ⟨g, 4, none⟩ = some (.string rfr) ∧ V.cell? ⟨g, 5, none⟩ = some (.string rto) ∧ Ext w2 V)) (by kernel_rfl) ?hs1 (fun hHeld => ?go1)
  case hs1 => (exact MK.out _ (by repeat (first | with_reducible exact Ext.refl _ | with_reducible assumption | with_reducible refine Ext.drew ?_ | with_reducible refine Ext.drewN ?_ _ | with_reducible refine Ext.alloc ?_ _)))
  refine wpAnyH_take (i := 0) (oi := { dst := (some 5), op := (Op.load 23 (Operand.tmp 2)), type := 23, pos := "law.go:25", after := #[], guard := none }) (v := ?v2) rfl (by kernel_rfl) (by kernel_rfl) (by kernel_rfl) (fun _ _ _ h => h) (Or.inl ⟨rfl, ?hy2⟩) hHeld ?rest2
  case hy2 => (intro w hSw; (try dsimp only at hSw); go_simp <;> first | with_reducible rfl | rw [if_neg (by omega)] | rw [if_pos (by omega)])
  (try simp only [Act.put]); (try simp only [List.setIfInBounds_toArray]); (try simp only [List.set_cons_succ]); (try simp only [List.set_cons_zero])
  refine wpAnyH_take (i := 2) (oi := { dst := (some 7), op := (Op.load 23 (Operand.tmp 2)), type := 23, pos := "law.go:25", after := #[], guard := none }) (v := ?v3) rfl (by kernel_rfl) (by kernel_rfl) (by kernel_rfl) (fun _ _ _ h => h) (Or.inl ⟨rfl, ?hy3⟩) hHeld ?rest3
  case hy3 => (intro w hSw; (try dsimp only at hSw); go_simp <;> first | with_reducible rfl | rw [if_neg (by omega)] | rw [if_pos (by omega)])
  (try simp only [Act.put]); (try simp only [List.setIfInBounds_toArray]); (try simp only [List.set_cons_succ]); (try simp only [List.set_cons_zero])
  refine wpAnyH_ready (rs := [1]) (by kernel_rfl) (by simp) ?_
  refine AllReadyH.cons (o := { dst := (some 6), op := (Op.call { callee := (Callee.value (Operand.func 6)), args := #[(Operand.tmp 5)], argTypes := #[23] }), type := 24, pos := "law.go:25", after := #[{ on := 0, ground := Ground.data }], guard := none }) rfl (fun K hK => ?step4x0) ?more4x0
  case more4x0 => exact AllReadyH.nil
  go_simp
  (go_at_call 6; refine (HC.out _).mono ?_; rintro e w' ⟨rfl, hb⟩; replace hb : Ext w2 w' := Ext.trans (by repeat (first | with_reducible exact Ext.refl _ | with_reducible assumption | with_reducible refine Ext.drew ?_ | with_reducible refine Ext.drewN ?_ _ | with_reducible refine Ext.alloc ?_ _)) hb)
  refine hK.out _ _ ?hS4x0 (fun hHeld4 => ?rest4x0)
  case hS4x0 => first | (exact MK.out _ (by repeat (first | with_reducible exact Ext.refl _ | with_reducible assumption | with_reducible refine Ext.drew ?_ | with_reducible refine Ext.drewN ?_ _ | with_reducible refine Ext.alloc ?_ _))) | ((try dsimp only); (exact MK.out _ (by repeat (first | with_reducible exact Ext.refl _ | with_reducible assumption | with_reducible refine Ext.drew ?_ | with_reducible refine Ext.drewN ?_ _ | with_reducible refine Ext.alloc ?_ _))))
  clear hK K
  clear hHeld
  (try simp only [Act.put]); (try simp only [List.setIfInBounds_toArray]); (try simp only [List.set_cons_succ]); (try simp only [List.set_cons_zero])
  refine wpAnyH_ready (rs := [3]) (by kernel_rfl) (by simp) ?_
  refine AllReadyH.cons (o := { dst := (some 8), op := (Op.call { callee := (Callee.value (Operand.func 7)), args := #[(Operand.tmp 7)], argTypes := #[23] }), type := 24, pos := "law.go:25", after := #[{ on := 2, ground := Ground.data }, { on := 1, ground := Ground.chain }], guard := none }) rfl (fun K hK => ?step5x0) ?more5x0
  case more5x0 => exact AllReadyH.nil
  go_simp
  (go_at_call 7; refine (HRC.out _).mono ?_; rintro e w' ⟨rfl, hb⟩; replace hb : Ext w2 w' := Ext.trans (by repeat (first | with_reducible exact Ext.refl _ | with_reducible assumption | with_reducible refine Ext.drew ?_ | with_reducible refine Ext.drewN ?_ _ | with_reducible refine Ext.alloc ?_ _)) hb)
  refine hK.out _ _ ?hS5x0 (fun hHeld5 => ?rest5x0)
  case hS5x0 => first | (exact MK.out _ (by repeat (first | with_reducible exact Ext.refl _ | with_reducible assumption | with_reducible refine Ext.drew ?_ | with_reducible refine Ext.drewN ?_ _ | with_reducible refine Ext.alloc ?_ _))) | ((try dsimp only); (exact MK.out _ (by repeat (first | with_reducible exact Ext.refl _ | with_reducible assumption | with_reducible refine Ext.drew ?_ | with_reducible refine Ext.drewN ?_ _ | with_reducible refine Ext.alloc ?_ _))))
  clear hK K
  clear hHeld4
  (try simp only [Act.put]); (try simp only [List.setIfInBounds_toArray]); (try simp only [List.set_cons_succ]); (try simp only [List.set_cons_zero])
  refine wpAnyH_take (i := 4) (oi := { dst := (some 9), op := (Op.binOp BinOp.eql 24 (Operand.tmp 6) (Operand.tmp 8) 24), type := 4, pos := "law.go:25", after := #[{ on := 1, ground := Ground.data }, { on := 3, ground := Ground.data }], guard := none }) (v := ?v6) rfl (by kernel_rfl) (by kernel_rfl) (by kernel_rfl) (fun _ _ _ h => h) (Or.inl ⟨rfl, ?hy6⟩) hHeld5 ?rest6
  case hy6 => (intro w hSw; (try dsimp only at hSw); go_simp <;> first | with_reducible rfl | rw [if_neg (by omega)] | rw [if_pos (by omega)])
  (try simp only [Act.put]); (try simp only [List.setIfInBounds_toArray]); (try simp only [List.set_cons_succ]); (try simp only [List.set_cons_zero])
  refine wpAnyH_take (i := 5) (oi := { dst := (some 10), op := (Op.move (Operand.tmp 9)), type := 4, pos := "law.go:25", after := #[{ on := 4, ground := Ground.data }, { on := 3, ground := Ground.chain }], guard := none }) (v := ?v7) rfl (by kernel_rfl) (by kernel_rfl) (by kernel_rfl) (fun _ _ _ h => h) (Or.inl ⟨rfl, ?hy7⟩) hHeld5 ?rest7
  case hy7 => (intro w hSw; (try dsimp only at hSw); go_simp <;> first | with_reducible rfl | rw [if_neg (by omega)] | rw [if_pos (by omega)])
  (try simp only [Act.put]); (try simp only [List.setIfInBounds_toArray]); (try simp only [List.set_cons_succ]); (try simp only [List.set_cons_zero])
  refine wpAnyH_take (i := 6) (oi := { dst := (some 11), op := (Op.load 23 (Operand.tmp 2)), type := 23, pos := "law.go:25", after := #[{ on := 5, ground := Ground.guard }], guard := (some (5, true)) }) (v := ?v8) rfl (by kernel_rfl) (by kernel_rfl) (by kernel_rfl) (fun _ _ _ h => h) (Or.inl ⟨rfl, ?hy8⟩) hHeld5 ?rest8
  case hy8 => (intro w hSw; (try dsimp only at hSw); go_simp <;> first | with_reducible rfl | rw [if_neg (by omega)] | rw [if_pos (by omega)])
  (try simp only [Act.put]); (try simp only [List.setIfInBounds_toArray]); (try simp only [List.set_cons_succ]); (try simp only [List.set_cons_zero])
  refine wpAnyH_take (i := 8) (oi := { dst := (some 13), op := (Op.load 23 (Operand.tmp 2)), type := 23, pos := "law.go:25", after := #[{ on := 5, ground := Ground.guard }], guard := (some (5, true)) }) (v := ?v9) rfl (by kernel_rfl) (by kernel_rfl) (by kernel_rfl) (fun _ _ _ h => h) (Or.inl ⟨rfl, ?hy9⟩) hHeld5 ?rest9
  case hy9 => (intro w hSw; (try dsimp only at hSw); go_simp <;> first | with_reducible rfl | rw [if_neg (by omega)] | rw [if_pos (by omega)])
  (try simp only [Act.put]); (try simp only [List.setIfInBounds_toArray]); (try simp only [List.set_cons_succ]); (try simp only [List.set_cons_zero])
  refine wpAnyH_ready (rs := [7]) (by kernel_rfl) (by simp) ?_
  refine AllReadyH.cons (o := { dst := (some 12), op := (Op.call { callee := (Callee.value (Operand.func 8)), args := #[(Operand.tmp 11)], argTypes := #[23] }), type := 9, pos := "law.go:25", after := #[{ on := 6, ground := Ground.data }, { on := 5, ground := Ground.chain }, { on := 5, ground := Ground.guard }], guard := (some (5, true)) }) rfl (fun K hK => ?step10x0) ?more10x0
  case more10x0 => exact AllReadyH.nil
  go_simp
  (go_at_call 8; refine (HT.out _ (by repeat (first | with_reducible exact Ext.refl _ | with_reducible assumption | with_reducible refine Ext.drew ?_ | with_reducible refine Ext.drewN ?_ _ | with_reducible refine Ext.alloc ?_ _))).mono ?_; rintro e w' ⟨rfl, hb⟩; replace hb : Ext w2 w' := Ext.trans (by repeat (first | with_reducible exact Ext.refl _ | with_reducible assumption | with_reducible refine Ext.drew ?_ | with_reducible refine Ext.drewN ?_ _ | with_reducible refine Ext.alloc ?_ _)) hb)
  refine hK.out _ _ ?hS10x0 (fun hHeld10 => ?rest10x0)
  case hS10x0 => first | (exact MK.out _ (by repeat (first | with_reducible exact Ext.refl _ | with_reducible assumption | with_reducible refine Ext.drew ?_ | with_reducible refine Ext.drewN ?_ _ | with_reducible refine Ext.alloc ?_ _))) | ((try dsimp only); (exact MK.out _ (by repeat (first | with_reducible exact Ext.refl _ | with_reducible assumption | with_reducible refine Ext.drew ?_ | with_reducible refine Ext.drewN ?_ _ | with_reducible refine Ext.alloc ?_ _))))
  clear hK K
  clear hHeld5
  (try simp only [Act.put]); (try simp only [List.setIfInBounds_toArray]); (try simp only [List.set_cons_succ]); (try simp only [List.set_cons_zero])
  refine wpAnyH_ready (rs := [9]) (by kernel_rfl) (by simp) ?_
  refine AllReadyH.cons (o := { dst := (some 14), op := (Op.call { callee := (Callee.value (Operand.func 9)), args := #[(Operand.tmp 13)], argTypes := #[23] }), type := 9, pos := "law.go:25", after := #[{ on := 8, ground := Ground.data }, { on := 7, ground := Ground.chain }, { on := 5, ground := Ground.guard }], guard := (some (5, true)) }) rfl (fun K hK => ?step11x0) ?more11x0
  case more11x0 => exact AllReadyH.nil
  go_simp
  (go_at_call 9; refine (HRT.out _).mono ?_; rintro e w' ⟨rfl, hb⟩; replace hb : Ext w2 w' := Ext.trans (by repeat (first | with_reducible exact Ext.refl _ | with_reducible assumption | with_reducible refine Ext.drew ?_ | with_reducible refine Ext.drewN ?_ _ | with_reducible refine Ext.alloc ?_ _)) hb)
  refine hK.out _ _ ?hS11x0 (fun hHeld11 => ?rest11x0)
  case hS11x0 => first | (exact MK.out _ (by repeat (first | with_reducible exact Ext.refl _ | with_reducible assumption | with_reducible refine Ext.drew ?_ | with_reducible refine Ext.drewN ?_ _ | with_reducible refine Ext.alloc ?_ _))) | ((try dsimp only); (exact MK.out _ (by repeat (first | with_reducible exact Ext.refl _ | with_reducible assumption | with_reducible refine Ext.drew ?_ | with_reducible refine Ext.drewN ?_ _ | with_reducible refine Ext.alloc ?_ _))))
  clear hK K
  clear hHeld10
  (try simp only [Act.put]); (try simp only [List.setIfInBounds_toArray]); (try simp only [List.set_cons_succ]); (try simp only [List.set_cons_zero])
  refine wpAnyH_take (i := 10) (oi := { dst := (some 15), op := (Op.binOp BinOp.eql 9 (Operand.tmp 12) (Operand.tmp 14) 9), type := 4, pos := "law.go:25", after := #[{ on := 7, ground := Ground.data }, { on := 9, ground := Ground.data }, { on := 5, ground := Ground.guard }], guard := (some (5, true)) }) (v := ?v12) rfl (by kernel_rfl) (by kernel_rfl) (by kernel_rfl) (fun _ _ _ h => h) (Or.inl ⟨rfl, ?hy12⟩) hHeld11 ?rest12
  case hy12 => (intro w hSw; (try dsimp only at hSw); go_simp <;> first | with_reducible rfl | rw [if_neg (by omega)] | rw [if_pos (by omega)])
  (try simp only [Act.put]); (try simp only [List.setIfInBounds_toArray]); (try simp only [List.set_cons_succ]); (try simp only [List.set_cons_zero])
  refine wpAnyH_take (i := 11) (oi := { dst := (some 16), op := (Op.pick (Operand.tmp 10) (Operand.tmp 15) (Operand.const (Value.bool false))), type := 4, pos := "law.go:25", after := #[{ on := 5, ground := Ground.data }, { on := 10, ground := Ground.data }], guard := none }) (v := ?v13) rfl (by kernel_rfl) (by kernel_rfl) (by kernel_rfl) (fun _ _ _ h => h) (Or.inl ⟨rfl, ?hy13⟩) hHeld11 ?rest13
  case hy13 => (intro w hSw; (try dsimp only at hSw); go_simp <;> first | with_reducible rfl | rw [if_neg (by omega)] | rw [if_pos (by omega)])
  (try simp only [Act.put]); (try simp only [List.setIfInBounds_toArray]); (try simp only [List.set_cons_succ]); (try simp only [List.set_cons_zero])
  refine wpAnyH_take (i := 12) (oi := { dst := (some 17), op := (Op.move (Operand.tmp 16)), type := 4, pos := "law.go:25", after := #[{ on := 11, ground := Ground.data }, { on := 9, ground := Ground.chain }], guard := none }) (v := ?v14) rfl (by kernel_rfl) (by kernel_rfl) (by kernel_rfl) (fun _ _ _ h => h) (Or.inl ⟨rfl, ?hy14⟩) hHeld11 ?rest14
  case hy14 => (intro w hSw; (try dsimp only at hSw); go_simp <;> first | with_reducible rfl | rw [if_neg (by omega)] | rw [if_pos (by omega)])
  (try simp only [Act.put]); (try simp only [List.setIfInBounds_toArray]); (try simp only [List.set_cons_succ]); (try simp only [List.set_cons_zero])
  refine wpAnyH_take (i := 13) (oi := { dst := (some 18), op := (Op.move (Operand.tmp 1)), type := 3, pos := "law.go:25", after := #[{ on := 12, ground := Ground.guard }], guard := (some (12, true)) }) (v := ?v15) rfl (by kernel_rfl) (by kernel_rfl) (by kernel_rfl) (fun _ _ _ h => h) (Or.inl ⟨rfl, ?hy15⟩) hHeld11 ?rest15
  case hy15 => (intro w hSw; (try dsimp only at hSw); go_simp <;> first | with_reducible rfl | rw [if_neg (by omega)] | rw [if_pos (by omega)])
  (try simp only [Act.put]); (try simp only [List.setIfInBounds_toArray]); (try simp only [List.set_cons_succ]); (try simp only [List.set_cons_zero])
  refine wpAnyH_take (i := 15) (oi := { dst := (some 20), op := (Op.move (Operand.tmp 1)), type := 3, pos := "law.go:25", after := #[{ on := 12, ground := Ground.guard }], guard := (some (12, true)) }) (v := ?v16) rfl (by kernel_rfl) (by kernel_rfl) (by kernel_rfl) (fun _ _ _ h => h) (Or.inl ⟨rfl, ?hy16⟩) hHeld11 ?rest16
  case hy16 => (intro w hSw; (try dsimp only at hSw); go_simp <;> first | with_reducible rfl | rw [if_neg (by omega)] | rw [if_pos (by omega)])
  (try simp only [Act.put]); (try simp only [List.setIfInBounds_toArray]); (try simp only [List.set_cons_succ]); (try simp only [List.set_cons_zero])
  refine wpAnyH_ready (rs := [14]) (by kernel_rfl) (by simp) ?_
  refine AllReadyH.cons (o := { dst := (some 19), op := (Op.call { callee := (Callee.value (Operand.func 10)), args := #[(Operand.tmp 18)], argTypes := #[3] }), type := 24, pos := "law.go:25", after := #[{ on := 13, ground := Ground.data }, { on := 12, ground := Ground.chain }, { on := 12, ground := Ground.guard }], guard := (some (12, true)) }) rfl (fun K hK => ?step17x0) ?more17x0
  case more17x0 => exact AllReadyH.nil
  go_simp
  (go_at_call 10; refine (HF.out _).mono ?_; rintro e w' ⟨rfl, hb⟩; replace hb : Ext w2 w' := Ext.trans (by repeat (first | with_reducible exact Ext.refl _ | with_reducible assumption | with_reducible refine Ext.drew ?_ | with_reducible refine Ext.drewN ?_ _ | with_reducible refine Ext.alloc ?_ _)) hb)
  refine hK.out _ _ ?hS17x0 (fun hHeld17 => ?rest17x0)
  case hS17x0 => first | (exact MK.out _ (by repeat (first | with_reducible exact Ext.refl _ | with_reducible assumption | with_reducible refine Ext.drew ?_ | with_reducible refine Ext.drewN ?_ _ | with_reducible refine Ext.alloc ?_ _))) | ((try dsimp only); (exact MK.out _ (by repeat (first | with_reducible exact Ext.refl _ | with_reducible assumption | with_reducible refine Ext.drew ?_ | with_reducible refine Ext.drewN ?_ _ | with_reducible refine Ext.alloc ?_ _))))
  clear hK K
  clear hHeld11
  (try simp only [Act.put]); (try simp only [List.setIfInBounds_toArray]); (try simp only [List.set_cons_succ]); (try simp only [List.set_cons_zero])
  refine wpAnyH_ready (rs := [16]) (by kernel_rfl) (by simp) ?_
  refine AllReadyH.cons (o := { dst := (some 21), op := (Op.call { callee := (Callee.value (Operand.func 11)), args := #[(Operand.tmp 20)], argTypes := #[3] }), type := 24, pos := "law.go:25", after := #[{ on := 15, ground := Ground.data }, { on := 14, ground := Ground.chain }, { on := 12, ground := Ground.guard }], guard := (some (12, true)) }) rfl (fun K hK => ?step18x0) ?more18x0
  case more18x0 => exact AllReadyH.nil
  go_simp
  (go_at_call 11; refine (HRF.out _).mono ?_; rintro e w' ⟨rfl, hb⟩; replace hb : Ext w2 w' := Ext.trans (by repeat (first | with_reducible exact Ext.refl _ | with_reducible assumption | with_reducible refine Ext.drew ?_ | with_reducible refine Ext.drewN ?_ _ | with_reducible refine Ext.alloc ?_ _)) hb)
  refine hK.out _ _ ?hS18x0 (fun hHeld18 => ?rest18x0)
  case hS18x0 => first | (exact MK.out _ (by repeat (first | with_reducible exact Ext.refl _ | with_reducible assumption | with_reducible refine Ext.drew ?_ | with_reducible refine Ext.drewN ?_ _ | with_reducible refine Ext.alloc ?_ _))) | ((try dsimp only); (exact MK.out _ (by repeat (first | with_reducible exact Ext.refl _ | with_reducible assumption | with_reducible refine Ext.drew ?_ | with_reducible refine Ext.drewN ?_ _ | with_reducible refine Ext.alloc ?_ _))))
  clear hK K
  clear hHeld17
  (try simp only [Act.put]); (try simp only [List.setIfInBounds_toArray]); (try simp only [List.set_cons_succ]); (try simp only [List.set_cons_zero])
  refine wpAnyH_take (i := 17) (oi := { dst := (some 22), op := (Op.binOp BinOp.eql 24 (Operand.tmp 19) (Operand.tmp 21) 24), type := 4, pos := "law.go:25", after := #[{ on := 14, ground := Ground.data }, { on := 16, ground := Ground.data }, { on := 12, ground := Ground.guard }], guard := (some (12, true)) }) (v := ?v19) rfl (by kernel_rfl) (by kernel_rfl) (by kernel_rfl) (fun _ _ _ h => h) (Or.inl ⟨rfl, ?hy19⟩) hHeld18 ?rest19
  case hy19 => (intro w hSw; (try dsimp only at hSw); go_simp <;> first | with_reducible rfl | rw [if_neg (by omega)] | rw [if_pos (by omega)])
  (try simp only [Act.put]); (try simp only [List.setIfInBounds_toArray]); (try simp only [List.set_cons_succ]); (try simp only [List.set_cons_zero])
  refine wpAnyH_take (i := 18) (oi := { dst := (some 23), op := (Op.pick (Operand.tmp 17) (Operand.tmp 22) (Operand.const (Value.bool false))), type := 4, pos := "law.go:25", after := #[{ on := 12, ground := Ground.data }, { on := 17, ground := Ground.data }], guard := none }) (v := ?v20) rfl (by kernel_rfl) (by kernel_rfl) (by kernel_rfl) (fun _ _ _ h => h) (Or.inl ⟨rfl, ?hy20⟩) hHeld18 ?rest20
  case hy20 => (intro w hSw; (try dsimp only at hSw); go_simp <;> first | with_reducible rfl | rw [if_neg (by omega)] | rw [if_pos (by omega)])
  (try simp only [Act.put]); (try simp only [List.setIfInBounds_toArray]); (try simp only [List.set_cons_succ]); (try simp only [List.set_cons_zero])
  refine wpAnyH_take (i := 19) (oi := { dst := (some 24), op := (Op.move (Operand.tmp 23)), type := 4, pos := "law.go:25", after := #[{ on := 18, ground := Ground.data }, { on := 16, ground := Ground.chain }], guard := none }) (v := ?v21) rfl (by kernel_rfl) (by kernel_rfl) (by kernel_rfl) (fun _ _ _ h => h) (Or.inl ⟨rfl, ?hy21⟩) hHeld18 ?rest21
  case hy21 => (intro w hSw; (try dsimp only at hSw); go_simp <;> first | with_reducible rfl | rw [if_neg (by omega)] | rw [if_pos (by omega)])
  (try simp only [Act.put]); (try simp only [List.setIfInBounds_toArray]); (try simp only [List.set_cons_succ]); (try simp only [List.set_cons_zero])
  refine wpAnyH_ready (rs := [20]) (by kernel_rfl) (by simp) ?_
  refine AllReadyH.cons (o := { dst := (some 25), op := (Op.call { callee := (Callee.value (Operand.func 12)), args := #[], argTypes := #[] }), type := 4, pos := "law.go:25", after := #[{ on := 19, ground := Ground.chain }, { on := 19, ground := Ground.guard }], guard := (some (19, true)) }) rfl (fun K hK => ?step22x0) ?more22x0
  case more22x0 => exact AllReadyH.nil
  go_simp
  (go_at_call 12; refine (HL.out _ (by repeat (first | with_reducible exact Ext.refl _ | with_reducible assumption | with_reducible refine Ext.drew ?_ | with_reducible refine Ext.drewN ?_ _ | with_reducible refine Ext.alloc ?_ _))).mono ?_; rintro e w' ⟨rfl, hb⟩; replace hb : Ext w2 w' := Ext.trans (by repeat (first | with_reducible exact Ext.refl _ | with_reducible assumption | with_reducible refine Ext.drew ?_ | with_reducible refine Ext.drewN ?_ _ | with_reducible refine Ext.alloc ?_ _)) hb)
  refine hK.out _ _ ?hS22x0 (fun hHeld22 => ?rest22x0)
  case hS22x0 => first | (exact MK.out _ (by repeat (first | with_reducible exact Ext.refl _ | with_reducible assumption | with_reducible refine Ext.drew ?_ | with_reducible refine Ext.drewN ?_ _ | with_reducible refine Ext.alloc ?_ _))) | ((try dsimp only); (exact MK.out _ (by repeat (first | with_reducible exact Ext.refl _ | with_reducible assumption | with_reducible refine Ext.drew ?_ | with_reducible refine Ext.drewN ?_ _ | with_reducible refine Ext.alloc ?_ _))))
  clear hK K
  clear hHeld18
  (try simp only [Act.put]); (try simp only [List.setIfInBounds_toArray]); (try simp only [List.set_cons_succ]); (try simp only [List.set_cons_zero])
  refine wpAnyH_take (i := 21) (oi := { dst := (some 26), op := (Op.pick (Operand.tmp 24) (Operand.tmp 25) (Operand.const (Value.bool false))), type := 4, pos := "law.go:25", after := #[{ on := 19, ground := Ground.data }, { on := 20, ground := Ground.data }], guard := none }) (v := ?v23) rfl (by kernel_rfl) (by kernel_rfl) (by kernel_rfl) (fun _ _ _ h => h) (Or.inl ⟨rfl, ?hy23⟩) hHeld22 ?rest23
  case hy23 => (intro w hSw; (try dsimp only at hSw); go_simp <;> first | with_reducible rfl | rw [if_neg (by omega)] | rw [if_pos (by omega)])
  (try simp only [Act.put]); (try simp only [List.setIfInBounds_toArray]); (try simp only [List.set_cons_succ]); (try simp only [List.set_cons_zero])
  refine wpAnyH_take (i := 22) (oi := { dst := (some 4), op := (Op.assign (Operand.tmp 26)), type := 4, pos := "law.go:25", after := #[{ on := 21, ground := Ground.data }, { on := 20, ground := Ground.chain }, { on := 0, ground := Ground.phase }, { on := 1, ground := Ground.phase }, { on := 2, ground := Ground.phase }, { on := 3, ground := Ground.phase }, { on := 4, ground := Ground.phase }, { on := 5, ground := Ground.phase }, { on := 6, ground := Ground.phase }, { on := 7, ground := Ground.phase }, { on := 8, ground := Ground.phase }, { on := 9, ground := Ground.phase }, { on := 10, ground := Ground.phase }, { on := 11, ground := Ground.phase }, { on := 12, ground := Ground.phase }, { on := 13, ground := Ground.phase }, { on := 14, ground := Ground.phase }, { on := 15, ground := Ground.phase }, { on := 16, ground := Ground.phase }, { on := 17, ground := Ground.phase }, { on := 18, ground := Ground.phase }, { on := 19, ground := Ground.phase }, { on := 20, ground := Ground.phase }, { on := 21, ground := Ground.phase }], guard := none }) (v := ?v24) rfl (by kernel_rfl) (by kernel_rfl) (by kernel_rfl) (fun _ _ _ h => h) (Or.inl ⟨rfl, ?hy24⟩) hHeld22 ?rest24
  case hy24 => (intro w hSw; (try dsimp only at hSw); go_simp <;> first | with_reducible rfl | rw [if_neg (by omega)] | rw [if_pos (by omega)])
  (try simp only [Act.put]); (try simp only [List.setIfInBounds_toArray]); (try simp only [List.set_cons_succ]); (try simp only [List.set_cons_zero])
  refine wpAnyH_done (by kernel_rfl) ?_ _
  clear hHeld22
  go_wp2_with fail
  exact bodyPost_ret (v := .bool true) (by simp [results, Tryz.results3, go_sem] <;> rfl) rfl ⟨rfl, hx.trans (by repeat (first | with_reducible exact Ext.refl _ | with_reducible assumption | with_reducible refine Ext.drew ?_ | with_reducible refine Ext.drewN ?_ _ | with_reducible refine Ext.alloc ?_ _))⟩

end Go.Proofs.YtanclhcoiagcfaaGreatDoor
