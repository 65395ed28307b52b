/- THE WALK over the reference's Text. -/
import Derived.Test.YtanclhcoiagcfaaGreatDoorSchT
namespace Go.Proofs.YtanclhcoiagcfaaGreatDoor
open Go.RowKit

theorem name_size {s : ByteArray} (h : nameB s = true) : s.size ≤ 20 := by
  have := name_len h; simpa using this
theorem name_size' {s : ByteArray} (h : s.size ≠ 0 → nameB s = true) : s.size ≤ 20 := by
  by_cases h0 : s.size = 0
  · omega
  · exact name_size (h h0)
theorem star_size {s : ByteArray} (h : s.size ≠ 0 → nameB s = true) : (starB s).size ≤ 20 := by
  have h1 := name_size' h
  show (starL s.data.toList).toArray.size ≤ 20
  unfold starL
  split
  · simp
  · simpa using h1
theorem word_size (n : Int) : (wordB n).size ≤ 4 := by
  show (wordN n).toArray.size ≤ 4
  unfold wordN
  repeat' split
  all_goals simp
theorem digits_size {n : Nat} (h : n ≤ 4000) : (asB (Lib.decDigits n)).size ≤ 4 := by
  have := decDigits_length 3 n (by omega)
  simpa [asB, ByteArray.size] using this
theorem ba_app (a b : ByteArray) : (a ++ b).data.toList = a.data.toList ++ b.data.toList := by simp
theorem asB_eq {a : ByteArray} {l : List UInt8} (h : a.data.toList = l) : a = asB l := ba_ext h

set_option maxRecDepth 100000 in
set_option maxHeartbeats 1600000 in
theorem r9_Text1 (an : Int) (anm aky afr ato : ByteArray) (w : World) (hok : chkR ⟨1, an, anm, aky, afr, ato⟩ = 0) : Calls Tryz.prog 9 #[.agg #[.int .i64 1, .int .i64 an, .string anm, .string aky, .string afr, .string ato]] w fun e w' => e = .returned (.string (asB (textL ⟨1, an, anm, aky, afr, ato⟩))) ∧ Ext w w' := by
  obtain ⟨-, -, hnum, hk1, hk2, hnm, hky, hfr, hto⟩ := chkR_ok hok
  simp only at hnum hk1 hk2 hnm hky hfr hto
  have z1 := name_size hnm
  have z2 : aky.size ≤ 20 := by exact name_size (hky rfl)
  have z3 := star_size hfr
  have z4 := star_size hto
  have z5 := word_size an
  clear hnum
  have HT := Lib.hid (show textL ⟨1, an, anm, aky, afr, ato⟩ = joinW (headL 1 :: tailW ⟨1, an, anm, aky, afr, ato⟩) by unfold textL; rw [if_pos hok])
  clear hk1 hk2 hnm hky hfr hto
  have HC := Lib.hid (fun W => r9_Check ⟨1, an, anm, aky, afr, ato⟩ W)
  have HOK := Lib.hid hok
  obtain ⟨g, w1, hg, hw1, hb, hx, -⟩ := box_rule w ⟨1, an, anm, aky, afr, ato⟩ 23
  obtain ⟨c0, c1, c2, c3, c4, c5⟩ := id hb
  simp only at c0 c1 c2 c3 c4 c5 hw1
  have HW1 := Lib.hid hw1
  have HG := Lib.hid hg
  clear hw1 hg hok
  go_enter Tryz.func9, Tryz.ntmps9
  go_wp2_with fail
  rw [← HW1.out, ← HG.out]
  go_wp2_with fail
  refine (HC.out _).mono ?_
  rintro e w2 ⟨rfl, hb2⟩
  have hb2 : Ext w1 w2 := hb2
  replace hb := hb.ext hb2
  replace hx := hx.trans hb2
  rw [HOK.out]
  clear c0 c1 c2 c3 c4 c5 hb2 HW1 HG HC HOK
  obtain ⟨c0, c1, c2, c3, c4, c5⟩ := id hb
  simp only at c0 c1 c2 c3 c4 c5
  go_wp2_with fail
  go_ret
  refine ⟨congrArg Ending.returned (congrArg Value.string (asB_eq ?_)), hx.trans (by repeat (first | with_reducible exact Ext.refl _ | with_reducible assumption | with_reducible refine Ext.drew ?_ | with_reducible refine Ext.drewN ?_ _ | with_reducible refine Ext.alloc ?_ _))⟩
  rw [HT.out]
  simp [joinW, headL, tailW, keyK]

set_option maxRecDepth 100000 in
set_option maxHeartbeats 1600000 in
theorem r9_Text2 (an : Int) (anm aky afr ato : ByteArray) (w : World) (hok : chkR ⟨2, an, anm, aky, afr, ato⟩ = 0) : Calls Tryz.prog 9 #[.agg #[.int .i64 2, .int .i64 an, .string anm, .string aky, .string afr, .string ato]] w fun e w' => e = .returned (.string (asB (textL ⟨2, an, anm, aky, afr, ato⟩))) ∧ Ext w w' := by
  obtain ⟨-, -, hnum, hk1, hk2, hnm, hky, hfr, hto⟩ := chkR_ok hok
  simp only at hnum hk1 hk2 hnm hky hfr hto
  have z1 := name_size hnm
  have z2 : aky.size ≤ 20 := by exact name_size (hky rfl)
  have z3 := star_size hfr
  have z4 := star_size hto
  have z5 := word_size an
  clear hnum
  have HT := Lib.hid (show textL ⟨2, an, anm, aky, afr, ato⟩ = joinW (headL 2 :: tailW ⟨2, an, anm, aky, afr, ato⟩) by unfold textL; rw [if_pos hok])
  clear hk1 hk2 hnm hky hfr hto
  have HC := Lib.hid (fun W => r9_Check ⟨2, an, anm, aky, afr, ato⟩ W)
  have HOK := Lib.hid hok
  obtain ⟨g, w1, hg, hw1, hb, hx, -⟩ := box_rule w ⟨2, an, anm, aky, afr, ato⟩ 23
  obtain ⟨c0, c1, c2, c3, c4, c5⟩ := id hb
  simp only at c0 c1 c2 c3 c4 c5 hw1
  have HW1 := Lib.hid hw1
  have HG := Lib.hid hg
  clear hw1 hg hok
  go_enter Tryz.func9, Tryz.ntmps9
  go_wp2_with fail
  rw [← HW1.out, ← HG.out]
  go_wp2_with fail
  refine (HC.out _).mono ?_
  rintro e w2 ⟨rfl, hb2⟩
  have hb2 : Ext w1 w2 := hb2
  replace hb := hb.ext hb2
  replace hx := hx.trans hb2
  rw [HOK.out]
  clear c0 c1 c2 c3 c4 c5 hb2 HW1 HG HC HOK
  obtain ⟨c0, c1, c2, c3, c4, c5⟩ := id hb
  simp only at c0 c1 c2 c3 c4 c5
  go_wp2_with fail
  go_ret
  refine ⟨congrArg Ending.returned (congrArg Value.string (asB_eq ?_)), hx.trans (by repeat (first | with_reducible exact Ext.refl _ | with_reducible assumption | with_reducible refine Ext.drew ?_ | with_reducible refine Ext.drewN ?_ _ | with_reducible refine Ext.alloc ?_ _))⟩
  rw [HT.out]
  simp [joinW, headL, tailW, keyK]

set_option maxRecDepth 100000 in
set_option maxHeartbeats 1600000 in
theorem r9_Text3 (an : Int) (anm aky afr ato : ByteArray) (w : World) (hok : chkR ⟨3, an, anm, aky, afr, ato⟩ = 0) : Calls Tryz.prog 9 #[.agg #[.int .i64 3, .int .i64 an, .string anm, .string aky, .string afr, .string ato]] w fun e w' => e = .returned (.string (asB (textL ⟨3, an, anm, aky, afr, ato⟩))) ∧ Ext w w' := by
  obtain ⟨-, -, hnum, hk1, hk2, hnm, hky, hfr, hto⟩ := chkR_ok hok
  simp only at hnum hk1 hk2 hnm hky hfr hto
  have z1 := name_size hnm
  have z2 : aky.size ≤ 20 := by exact name_size (hky rfl)
  have z3 := star_size hfr
  have z4 := star_size hto
  have z5 := word_size an
  replace hnum : an = 1 ∨ an = 2 ∨ an = 4 := by simpa [numB, or_assoc] using hnum
  have HT := Lib.hid (show textL ⟨3, an, anm, aky, afr, ato⟩ = joinW (headL 3 :: tailW ⟨3, an, anm, aky, afr, ato⟩) by unfold textL; rw [if_pos hok])
  clear hk1 hk2 hnm hky hfr hto
  have HC := Lib.hid (fun W => r9_Check ⟨3, an, anm, aky, afr, ato⟩ W)
  have HOK := Lib.hid hok
  obtain ⟨g, w1, hg, hw1, hb, hx, -⟩ := box_rule w ⟨3, an, anm, aky, afr, ato⟩ 23
  obtain ⟨c0, c1, c2, c3, c4, c5⟩ := id hb
  simp only at c0 c1 c2 c3 c4 c5 hw1
  have HW1 := Lib.hid hw1
  have HG := Lib.hid hg
  clear hw1 hg hok
  go_enter Tryz.func9, Tryz.ntmps9
  go_wp2_with fail
  rw [← HW1.out, ← HG.out]
  go_wp2_with fail
  refine (HC.out _).mono ?_
  rintro e w2 ⟨rfl, hb2⟩
  have hb2 : Ext w1 w2 := hb2
  replace hb := hb.ext hb2
  replace hx := hx.trans hb2
  rw [HOK.out]
  clear c0 c1 c2 c3 c4 c5 hb2 HW1 HG HC HOK
  obtain ⟨c0, c1, c2, c3, c4, c5⟩ := id hb
  simp only at c0 c1 c2 c3 c4 c5
  have MK := Lib.hid (fun V (e : Ext w2 V) => mk_one hb e)
  clear hb
  go_wp2_with fail
  refine wp_region_held_drew (S := (fun V => V.cell? ⟨g, 0, none⟩ = some (.int .i64 3) ∧ V.cell? ⟨g, 1, none⟩ = some (.int .i64 an) ∧ V.cell? ⟨g, 2, none⟩ = some (.string anm) ∧ V.cell? ⟨g, 3, none⟩ = some (.string aky) ∧ V.cell? ⟨g, 4, none⟩ = some (.string afr) ∧ V.cell? ⟨g, 5, none⟩ = some (.string ato) ∧ Ext w2 V)) (by kernel_rfl) ?hs1 (fun hHeld => ?go1)
  case hs1 => (exact MK.out _ (by repeat (first | with_reducible exact Ext.refl _ | with_reducible assumption | with_reducible refine Ext.drew ?_ | with_reducible refine Ext.drewN ?_ _ | with_reducible refine Ext.alloc ?_ _)))
  refine wpAnyH_take (i := 0) (oi := { dst := (some 28), op := (Op.fieldAddr 23 (Operand.tmp 1) 2), type := 0, pos := "ref.go:226", after := #[], guard := none }) (v := ?v2) rfl (by kernel_rfl) (by kernel_rfl) (by kernel_rfl) (fun _ _ _ h => h) (Or.inl ⟨rfl, ?hy2⟩) hHeld ?rest2
  case hy2 => (intro w hSw; (try dsimp only at hSw); go_simp <;> first | with_reducible rfl | rw [if_neg (by omega)] | rw [if_pos (by omega)])
  (try simp only [Act.put]); (try simp only [List.setIfInBounds_toArray]); (try simp only [List.set_cons_succ]); (try simp only [List.set_cons_zero])
  refine wpAnyH_take (i := 1) (oi := { dst := (some 29), op := (Op.load 9 (Operand.tmp 28)), type := 9, pos := "ref.go:226", after := #[{ on := 0, ground := Ground.data }], guard := none }) (v := ?v3) rfl (by kernel_rfl) (by kernel_rfl) (by kernel_rfl) (fun _ _ _ h => h) (Or.inl ⟨rfl, ?hy3⟩) hHeld ?rest3
  case hy3 => (intro w hSw; (try dsimp only at hSw); go_simp <;> first | with_reducible rfl | rw [if_neg (by omega)] | rw [if_pos (by omega)])
  (try simp only [Act.put]); (try simp only [List.setIfInBounds_toArray]); (try simp only [List.set_cons_succ]); (try simp only [List.set_cons_zero])
  refine wpAnyH_take (i := 2) (oi := { dst := (some 30), op := (Op.binOp BinOp.add 9 (Operand.const (Value.string { data := #[107, 105, 110, 100, 32] })) (Operand.tmp 29) 9), type := 9, pos := "ref.go:226", after := #[{ on := 1, ground := Ground.data }], guard := none }) (v := ?v4) rfl (by kernel_rfl) (by kernel_rfl) (by kernel_rfl) (fun _ _ _ h => h) (Or.inl ⟨rfl, ?hy4⟩) hHeld ?rest4
  case hy4 => (intro w hSw; (try dsimp only at hSw); go_simp <;> first | with_reducible rfl | rw [if_neg (by omega)] | rw [if_pos (by omega)])
  (try simp only [Act.put]); (try simp only [List.setIfInBounds_toArray]); (try simp only [List.set_cons_succ]); (try simp only [List.set_cons_zero])
  refine wpAnyH_take (i := 3) (oi := { dst := (some 31), op := (Op.binOp BinOp.add 9 (Operand.tmp 30) (Operand.const (Value.string { data := #[32] })) 9), type := 9, pos := "ref.go:226", after := #[{ on := 2, ground := Ground.data }], guard := none }) (v := ?v5) rfl (by kernel_rfl) (by kernel_rfl) (by kernel_rfl) (fun _ _ _ h => h) (Or.inl ⟨rfl, ?hy5⟩) hHeld ?rest5
  case hy5 => (intro w hSw; (try dsimp only at hSw); go_simp <;> first | with_reducible rfl | rw [if_neg (by omega)] | rw [if_pos (by omega)])
  (try simp only [Act.put]); (try simp only [List.setIfInBounds_toArray]); (try simp only [List.set_cons_succ]); (try simp only [List.set_cons_zero])
  refine wpAnyH_take (i := 4) (oi := { dst := (some 32), op := (Op.fieldAddr 23 (Operand.tmp 1) 3), type := 0, pos := "ref.go:226", after := #[], guard := none }) (v := ?v6) rfl (by kernel_rfl) (by kernel_rfl) (by kernel_rfl) (fun _ _ _ h => h) (Or.inl ⟨rfl, ?hy6⟩) hHeld ?rest6
  case hy6 => (intro w hSw; (try dsimp only at hSw); go_simp <;> first | with_reducible rfl | rw [if_neg (by omega)] | rw [if_pos (by omega)])
  (try simp only [Act.put]); (try simp only [List.setIfInBounds_toArray]); (try simp only [List.set_cons_succ]); (try simp only [List.set_cons_zero])
  refine wpAnyH_take (i := 5) (oi := { dst := (some 33), op := (Op.load 9 (Operand.tmp 32)), type := 9, pos := "ref.go:226", after := #[{ on := 4, ground := Ground.data }], guard := none }) (v := ?v7) rfl (by kernel_rfl) (by kernel_rfl) (by kernel_rfl) (fun _ _ _ h => h) (Or.inl ⟨rfl, ?hy7⟩) hHeld ?rest7
  case hy7 => (intro w hSw; (try dsimp only at hSw); go_simp <;> first | with_reducible rfl | rw [if_neg (by omega)] | rw [if_pos (by omega)])
  (try simp only [Act.put]); (try simp only [List.setIfInBounds_toArray]); (try simp only [List.set_cons_succ]); (try simp only [List.set_cons_zero])
  refine wpAnyH_take (i := 6) (oi := { dst := (some 34), op := (Op.binOp BinOp.add 9 (Operand.tmp 31) (Operand.tmp 33) 9), type := 9, pos := "ref.go:226", after := #[{ on := 3, ground := Ground.data }, { on := 5, ground := Ground.data }], guard := none }) (v := ?v8) rfl (by kernel_rfl) (by kernel_rfl) (by kernel_rfl) (fun _ _ _ h => h) (Or.inl ⟨rfl, ?hy8⟩) hHeld ?rest8
  case hy8 => (intro w hSw; (try dsimp only at hSw); go_simp <;> first | with_reducible rfl | rw [if_neg (by omega)] | rw [if_pos (by omega)])
  (try simp only [Act.put]); (try simp only [List.setIfInBounds_toArray]); (try simp only [List.set_cons_succ]); (try simp only [List.set_cons_zero])
  refine wpAnyH_take (i := 7) (oi := { dst := (some 35), op := (Op.binOp BinOp.add 9 (Operand.tmp 34) (Operand.const (Value.string { data := #[32] })) 9), type := 9, pos := "ref.go:226", after := #[{ on := 6, ground := Ground.data }], guard := none }) (v := ?v9) rfl (by kernel_rfl) (by kernel_rfl) (by kernel_rfl) (fun _ _ _ h => h) (Or.inl ⟨rfl, ?hy9⟩) hHeld ?rest9
  case hy9 => (intro w hSw; (try dsimp only at hSw); go_simp <;> first | with_reducible rfl | rw [if_neg (by omega)] | rw [if_pos (by omega)])
  (try simp only [Act.put]); (try simp only [List.setIfInBounds_toArray]); (try simp only [List.set_cons_succ]); (try simp only [List.set_cons_zero])
  refine wpAnyH_take (i := 8) (oi := { dst := (some 36), op := (Op.fieldAddr 23 (Operand.tmp 1) 1), type := 0, pos := "ref.go:226", after := #[], guard := none }) (v := ?v10) rfl (by kernel_rfl) (by kernel_rfl) (by kernel_rfl) (fun _ _ _ h => h) (Or.inl ⟨rfl, ?hy10⟩) hHeld ?rest10
  case hy10 => (intro w hSw; (try dsimp only at hSw); go_simp <;> first | with_reducible rfl | rw [if_neg (by omega)] | rw [if_pos (by omega)])
  (try simp only [Act.put]); (try simp only [List.setIfInBounds_toArray]); (try simp only [List.set_cons_succ]); (try simp only [List.set_cons_zero])
  refine wpAnyH_take (i := 9) (oi := { dst := (some 37), op := (Op.load 3 (Operand.tmp 36)), type := 3, pos := "ref.go:226", after := #[{ on := 8, ground := Ground.data }], guard := none }) (v := ?v11) rfl (by kernel_rfl) (by kernel_rfl) (by kernel_rfl) (fun _ _ _ h => h) (Or.inl ⟨rfl, ?hy11⟩) hHeld ?rest11
  case hy11 => (intro w hSw; (try dsimp only at hSw); go_simp <;> first | with_reducible rfl | rw [if_neg (by omega)] | rw [if_pos (by omega)])
  (try simp only [Act.put]); (try simp only [List.setIfInBounds_toArray]); (try simp only [List.set_cons_succ]); (try simp only [List.set_cons_zero])
  refine wpAnyH_ready (rs := [10]) (by kernel_rfl) (by simp) ?_
  refine AllReadyH.cons (o := { dst := (some 38), op := (Op.call { callee := (Callee.value (Operand.func 32)), args := #[(Operand.tmp 37)], argTypes := #[3] }), type := 9, pos := "ref.go:226", after := #[{ on := 9, ground := Ground.data }], guard := none }) rfl (fun K hK => ?step12x0) ?more12x0
  case more12x0 => exact AllReadyH.nil
  go_simp
  (go_at_call 32; refine (r9_word an _ hnum).mono ?_; rintro e w' ⟨rfl, rfl⟩)
  refine hK.out _ _ ?hS12x0 (fun hHeld12 => ?rest12x0)
  case hS12x0 => first | (exact MK.out _ (by repeat (first | with_reducible exact Ext.refl _ | with_reducible assumption | with_reducible refine Ext.drew ?_ | with_reducible refine Ext.drewN ?_ _ | with_reducible refine Ext.alloc ?_ _))) | ((try dsimp only); (exact MK.out _ (by repeat (first | with_reducible exact Ext.refl _ | with_reducible assumption | with_reducible refine Ext.drew ?_ | with_reducible refine Ext.drewN ?_ _ | with_reducible refine Ext.alloc ?_ _))))
  clear hK K
  clear hHeld
  (try simp only [Act.put]); (try simp only [List.setIfInBounds_toArray]); (try simp only [List.set_cons_succ]); (try simp only [List.set_cons_zero])
  refine wpAnyH_take (i := 11) (oi := { dst := (some 39), op := (Op.binOp BinOp.add 9 (Operand.tmp 35) (Operand.tmp 38) 9), type := 9, pos := "ref.go:226", after := #[{ on := 7, ground := Ground.data }, { on := 10, ground := Ground.data }], guard := none }) (v := ?v13) rfl (by kernel_rfl) (by kernel_rfl) (by kernel_rfl) (fun _ _ _ h => h) (Or.inl ⟨rfl, ?hy13⟩) hHeld12 ?rest13
  case hy13 => (intro w hSw; (try dsimp only at hSw); go_simp <;> first | with_reducible rfl | rw [if_neg (by omega)] | rw [if_pos (by omega)])
  (try simp only [Act.put]); (try simp only [List.setIfInBounds_toArray]); (try simp only [List.set_cons_succ]); (try simp only [List.set_cons_zero])
  refine wpAnyH_take (i := 12) (oi := { dst := (some 2), op := (Op.assign (Operand.tmp 39)), type := 9, pos := "ref.go:226", after := #[{ on := 11, ground := Ground.data }, { on := 10, ground := Ground.chain }, { on := 0, ground := Ground.phase }, { on := 1, ground := Ground.phase }, { on := 2, ground := Ground.phase }, { on := 3, ground := Ground.phase }, { on := 4, ground := Ground.phase }, { on := 5, ground := Ground.phase }, { on := 6, ground := Ground.phase }, { on := 7, ground := Ground.phase }, { on := 8, ground := Ground.phase }, { on := 9, ground := Ground.phase }, { on := 10, ground := Ground.phase }, { on := 11, ground := Ground.phase }], guard := none }) (v := ?v14) rfl (by kernel_rfl) (by kernel_rfl) (by kernel_rfl) (fun _ _ _ h => h) (Or.inl ⟨rfl, ?hy14⟩) hHeld12 ?rest14
  case hy14 => (intro w hSw; (try dsimp only at hSw); go_simp <;> first | with_reducible rfl | rw [if_neg (by omega)] | rw [if_pos (by omega)])
  (try simp only [Act.put]); (try simp only [List.setIfInBounds_toArray]); (try simp only [List.set_cons_succ]); (try simp only [List.set_cons_zero])
  refine wpAnyH_done (by kernel_rfl) ?_ _
  clear hHeld12
  go_wp2_with fail
  go_ret
  refine ⟨congrArg Ending.returned (congrArg Value.string (asB_eq ?_)), hx.trans (by repeat (first | with_reducible exact Ext.refl _ | with_reducible assumption | with_reducible refine Ext.drew ?_ | with_reducible refine Ext.drewN ?_ _ | with_reducible refine Ext.alloc ?_ _))⟩
  rw [HT.out]
  simp [joinW, headL, tailW, wordB, asB]

set_option maxRecDepth 100000 in
set_option maxHeartbeats 1600000 in
theorem r9_Text4 (an : Int) (anm aky afr ato : ByteArray) (w : World) (hok : chkR ⟨4, an, anm, aky, afr, ato⟩ = 0) : Calls Tryz.prog 9 #[.agg #[.int .i64 4, .int .i64 an, .string anm, .string aky, .string afr, .string ato]] w fun e w' => e = .returned (.string (asB (textL ⟨4, an, anm, aky, afr, ato⟩))) ∧ Ext w w' := by
  obtain ⟨-, -, hnum, hk1, hk2, hnm, hky, hfr, hto⟩ := chkR_ok hok
  simp only at hnum hk1 hk2 hnm hky hfr hto
  have z1 := name_size hnm
  have z2 : aky.size ≤ 20 := by exact name_size (hky rfl)
  have z3 := star_size hfr
  have z4 := star_size hto
  have z5 := word_size an
  clear hnum
  have HT := Lib.hid (show textL ⟨4, an, anm, aky, afr, ato⟩ = joinW (headL 4 :: tailW ⟨4, an, anm, aky, afr, ato⟩) by unfold textL; rw [if_pos hok])
  clear hk1 hk2 hnm hky hfr hto
  have HC := Lib.hid (fun W => r9_Check ⟨4, an, anm, aky, afr, ato⟩ W)
  have HOK := Lib.hid hok
  obtain ⟨g, w1, hg, hw1, hb, hx, -⟩ := box_rule w ⟨4, an, anm, aky, afr, ato⟩ 23
  obtain ⟨c0, c1, c2, c3, c4, c5⟩ := id hb
  simp only at c0 c1 c2 c3 c4 c5 hw1
  have HW1 := Lib.hid hw1
  have HG := Lib.hid hg
  clear hw1 hg hok
  go_enter Tryz.func9, Tryz.ntmps9
  go_wp2_with fail
  rw [← HW1.out, ← HG.out]
  go_wp2_with fail
  refine (HC.out _).mono ?_
  rintro e w2 ⟨rfl, hb2⟩
  have hb2 : Ext w1 w2 := hb2
  replace hb := hb.ext hb2
  replace hx := hx.trans hb2
  rw [HOK.out]
  clear c0 c1 c2 c3 c4 c5 hb2 HW1 HG HC HOK
  obtain ⟨c0, c1, c2, c3, c4, c5⟩ := id hb
  simp only at c0 c1 c2 c3 c4 c5
  go_wp2_with fail
  go_ret
  refine ⟨congrArg Ending.returned (congrArg Value.string (asB_eq ?_)), hx.trans (by repeat (first | with_reducible exact Ext.refl _ | with_reducible assumption | with_reducible refine Ext.drew ?_ | with_reducible refine Ext.drewN ?_ _ | with_reducible refine Ext.alloc ?_ _))⟩
  rw [HT.out]
  simp [joinW, headL, tailW, keyK]

set_option maxRecDepth 100000 in
set_option maxHeartbeats 1600000 in
theorem r9_Text5 (an : Int) (anm aky afr ato : ByteArray) (w : World) (hok : chkR ⟨5, an, anm, aky, afr, ato⟩ = 0) : Calls Tryz.prog 9 #[.agg #[.int .i64 5, .int .i64 an, .string anm, .string aky, .string afr, .string ato]] w fun e w' => e = .returned (.string (asB (textL ⟨5, an, anm, aky, afr, ato⟩))) ∧ Ext w w' := by
  obtain ⟨-, -, hnum, hk1, hk2, hnm, hky, hfr, hto⟩ := chkR_ok hok
  simp only at hnum hk1 hk2 hnm hky hfr hto
  have z1 := name_size hnm
  have z2 : aky.size ≤ 20 := by exact name_size (hky rfl)
  have z3 := star_size hfr
  have z4 := star_size hto
  have z5 := word_size an
  replace hnum : an = 1 ∨ an = 2 ∨ an = 4 := by simpa [numB, or_assoc] using hnum
  have HT := Lib.hid (show textL ⟨5, an, anm, aky, afr, ato⟩ = joinW (headL 5 :: tailW ⟨5, an, anm, aky, afr, ato⟩) by unfold textL; rw [if_pos hok])
  clear hk1 hk2 hnm hky hfr hto
  have HC := Lib.hid (fun W => r9_Check ⟨5, an, anm, aky, afr, ato⟩ W)
  have HOK := Lib.hid hok
  obtain ⟨g, w1, hg, hw1, hb, hx, -⟩ := box_rule w ⟨5, an, anm, aky, afr, ato⟩ 23
  obtain ⟨c0, c1, c2, c3, c4, c5⟩ := id hb
  simp only at c0 c1 c2 c3 c4 c5 hw1
  have HW1 := Lib.hid hw1
  have HG := Lib.hid hg
  clear hw1 hg hok
  go_enter Tryz.func9, Tryz.ntmps9
  go_wp2_with fail
  rw [← HW1.out, ← HG.out]
  go_wp2_with fail
  refine (HC.out _).mono ?_
  rintro e w2 ⟨rfl, hb2⟩
  have hb2 : Ext w1 w2 := hb2
  replace hb := hb.ext hb2
  replace hx := hx.trans hb2
  rw [HOK.out]
  clear c0 c1 c2 c3 c4 c5 hb2 HW1 HG HC HOK
  obtain ⟨c0, c1, c2, c3, c4, c5⟩ := id hb
  simp only at c0 c1 c2 c3 c4 c5
  have MK := Lib.hid (fun V (e : Ext w2 V) => mk_one hb e)
  clear hb
  go_wp2_with fail
  refine wp_region_held_drew (S := (fun V => V.cell? ⟨g, 0, none⟩ = some (.int .i64 5) ∧ V.cell? ⟨g, 1, none⟩ = some (.int .i64 an) ∧ V.cell? ⟨g, 2, none⟩ = some (.string anm) ∧ V.cell? ⟨g, 3, none⟩ = some (.string aky) ∧ V.cell? ⟨g, 4, none⟩ = some (.string afr) ∧ V.cell? ⟨g, 5, none⟩ = some (.string ato) ∧ Ext w2 V)) (by kernel_rfl) ?hs15 (fun hHeld => ?go15)
  case hs15 => (exact MK.out _ (by repeat (first | with_reducible exact Ext.refl _ | with_reducible assumption | with_reducible refine Ext.drew ?_ | with_reducible refine Ext.drewN ?_ _ | with_reducible refine Ext.alloc ?_ _)))
  refine wpAnyH_take (i := 0) (oi := { dst := (some 51), op := (Op.fieldAddr 23 (Operand.tmp 1) 2), type := 0, pos := "ref.go:230", after := #[], guard := none }) (v := ?v16) rfl (by kernel_rfl) (by kernel_rfl) (by kernel_rfl) (fun _ _ _ h => h) (Or.inl ⟨rfl, ?hy16⟩) hHeld ?rest16
  case hy16 => (intro w hSw; (try dsimp only at hSw); go_simp <;> first | with_reducible rfl | rw [if_neg (by omega)] | rw [if_pos (by omega)])
  (try simp only [Act.put]); (try simp only [List.setIfInBounds_toArray]); (try simp only [List.set_cons_succ]); (try simp only [List.set_cons_zero])
  refine wpAnyH_take (i := 1) (oi := { dst := (some 52), op := (Op.load 9 (Operand.tmp 51)), type := 9, pos := "ref.go:230", after := #[{ on := 0, ground := Ground.data }], guard := none }) (v := ?v17) rfl (by kernel_rfl) (by kernel_rfl) (by kernel_rfl) (fun _ _ _ h => h) (Or.inl ⟨rfl, ?hy17⟩) hHeld ?rest17
  case hy17 => (intro w hSw; (try dsimp only at hSw); go_simp <;> first | with_reducible rfl | rw [if_neg (by omega)] | rw [if_pos (by omega)])
  (try simp only [Act.put]); (try simp only [List.setIfInBounds_toArray]); (try simp only [List.set_cons_succ]); (try simp only [List.set_cons_zero])
  refine wpAnyH_take (i := 2) (oi := { dst := (some 53), op := (Op.binOp BinOp.add 9 (Operand.const (Value.string { data := #[101, 100, 103, 101, 32, 107, 105, 110, 100, 32] })) (Operand.tmp 52) 9), type := 9, pos := "ref.go:230", after := #[{ on := 1, ground := Ground.data }], guard := none }) (v := ?v18) rfl (by kernel_rfl) (by kernel_rfl) (by kernel_rfl) (fun _ _ _ h => h) (Or.inl ⟨rfl, ?hy18⟩) hHeld ?rest18
  case hy18 => (intro w hSw; (try dsimp only at hSw); go_simp <;> first | with_reducible rfl | rw [if_neg (by omega)] | rw [if_pos (by omega)])
  (try simp only [Act.put]); (try simp only [List.setIfInBounds_toArray]); (try simp only [List.set_cons_succ]); (try simp only [List.set_cons_zero])
  refine wpAnyH_take (i := 3) (oi := { dst := (some 54), op := (Op.binOp BinOp.add 9 (Operand.tmp 53) (Operand.const (Value.string { data := #[32] })) 9), type := 9, pos := "ref.go:230", after := #[{ on := 2, ground := Ground.data }], guard := none }) (v := ?v19) rfl (by kernel_rfl) (by kernel_rfl) (by kernel_rfl) (fun _ _ _ h => h) (Or.inl ⟨rfl, ?hy19⟩) hHeld ?rest19
  case hy19 => (intro w hSw; (try dsimp only at hSw); go_simp <;> first | with_reducible rfl | rw [if_neg (by omega)] | rw [if_pos (by omega)])
  (try simp only [Act.put]); (try simp only [List.setIfInBounds_toArray]); (try simp only [List.set_cons_succ]); (try simp only [List.set_cons_zero])
  refine wpAnyH_take (i := 4) (oi := { dst := (some 55), op := (Op.fieldAddr 23 (Operand.tmp 1) 3), type := 0, pos := "ref.go:230", after := #[], guard := none }) (v := ?v20) rfl (by kernel_rfl) (by kernel_rfl) (by kernel_rfl) (fun _ _ _ h => h) (Or.inl ⟨rfl, ?hy20⟩) hHeld ?rest20
  case hy20 => (intro w hSw; (try dsimp only at hSw); go_simp <;> first | with_reducible rfl | rw [if_neg (by omega)] | rw [if_pos (by omega)])
  (try simp only [Act.put]); (try simp only [List.setIfInBounds_toArray]); (try simp only [List.set_cons_succ]); (try simp only [List.set_cons_zero])
  refine wpAnyH_take (i := 5) (oi := { dst := (some 56), op := (Op.load 9 (Operand.tmp 55)), type := 9, pos := "ref.go:230", after := #[{ on := 4, ground := Ground.data }], guard := none }) (v := ?v21) rfl (by kernel_rfl) (by kernel_rfl) (by kernel_rfl) (fun _ _ _ h => h) (Or.inl ⟨rfl, ?hy21⟩) hHeld ?rest21
  case hy21 => (intro w hSw; (try dsimp only at hSw); go_simp <;> first | with_reducible rfl | rw [if_neg (by omega)] | rw [if_pos (by omega)])
  (try simp only [Act.put]); (try simp only [List.setIfInBounds_toArray]); (try simp only [List.set_cons_succ]); (try simp only [List.set_cons_zero])
  refine wpAnyH_take (i := 6) (oi := { dst := (some 57), op := (Op.binOp BinOp.add 9 (Operand.tmp 54) (Operand.tmp 56) 9), type := 9, pos := "ref.go:230", after := #[{ on := 3, ground := Ground.data }, { on := 5, ground := Ground.data }], guard := none }) (v := ?v22) rfl (by kernel_rfl) (by kernel_rfl) (by kernel_rfl) (fun _ _ _ h => h) (Or.inl ⟨rfl, ?hy22⟩) hHeld ?rest22
  case hy22 => (intro w hSw; (try dsimp only at hSw); go_simp <;> first | with_reducible rfl | rw [if_neg (by omega)] | rw [if_pos (by omega)])
  (try simp only [Act.put]); (try simp only [List.setIfInBounds_toArray]); (try simp only [List.set_cons_succ]); (try simp only [List.set_cons_zero])
  refine wpAnyH_take (i := 7) (oi := { dst := (some 58), op := (Op.binOp BinOp.add 9 (Operand.tmp 57) (Operand.const (Value.string { data := #[32] })) 9), type := 9, pos := "ref.go:230", after := #[{ on := 6, ground := Ground.data }], guard := none }) (v := ?v23) rfl (by kernel_rfl) (by kernel_rfl) (by kernel_rfl) (fun _ _ _ h => h) (Or.inl ⟨rfl, ?hy23⟩) hHeld ?rest23
  case hy23 => (intro w hSw; (try dsimp only at hSw); go_simp <;> first | with_reducible rfl | rw [if_neg (by omega)] | rw [if_pos (by omega)])
  (try simp only [Act.put]); (try simp only [List.setIfInBounds_toArray]); (try simp only [List.set_cons_succ]); (try simp only [List.set_cons_zero])
  refine wpAnyH_take (i := 8) (oi := { dst := (some 59), op := (Op.fieldAddr 23 (Operand.tmp 1) 1), type := 0, pos := "ref.go:230", after := #[], guard := none }) (v := ?v24) rfl (by kernel_rfl) (by kernel_rfl) (by kernel_rfl) (fun _ _ _ h => h) (Or.inl ⟨rfl, ?hy24⟩) hHeld ?rest24
  case hy24 => (intro w hSw; (try dsimp only at hSw); go_simp <;> first | with_reducible rfl | rw [if_neg (by omega)] | rw [if_pos (by omega)])
  (try simp only [Act.put]); (try simp only [List.setIfInBounds_toArray]); (try simp only [List.set_cons_succ]); (try simp only [List.set_cons_zero])
  refine wpAnyH_take (i := 9) (oi := { dst := (some 60), op := (Op.load 3 (Operand.tmp 59)), type := 3, pos := "ref.go:230", after := #[{ on := 8, ground := Ground.data }], guard := none }) (v := ?v25) rfl (by kernel_rfl) (by kernel_rfl) (by kernel_rfl) (fun _ _ _ h => h) (Or.inl ⟨rfl, ?hy25⟩) hHeld ?rest25
  case hy25 => (intro w hSw; (try dsimp only at hSw); go_simp <;> first | with_reducible rfl | rw [if_neg (by omega)] | rw [if_pos (by omega)])
  (try simp only [Act.put]); (try simp only [List.setIfInBounds_toArray]); (try simp only [List.set_cons_succ]); (try simp only [List.set_cons_zero])
  refine wpAnyH_ready (rs := [10]) (by kernel_rfl) (by simp) ?_
  refine AllReadyH.cons (o := { dst := (some 61), op := (Op.call { callee := (Callee.value (Operand.func 32)), args := #[(Operand.tmp 60)], argTypes := #[3] }), type := 9, pos := "ref.go:230", after := #[{ on := 9, ground := Ground.data }], guard := none }) rfl (fun K hK => ?step26x0) ?more26x0
  case more26x0 => exact AllReadyH.nil
  go_simp
  (go_at_call 32; refine (r9_word an _ hnum).mono ?_; rintro e w' ⟨rfl, rfl⟩)
  refine hK.out _ _ ?hS26x0 (fun hHeld26 => ?rest26x0)
  case hS26x0 => first | (exact MK.out _ (by repeat (first | with_reducible exact Ext.refl _ | with_reducible assumption | with_reducible refine Ext.drew ?_ | with_reducible refine Ext.drewN ?_ _ | with_reducible refine Ext.alloc ?_ _))) | ((try dsimp only); (exact MK.out _ (by repeat (first | with_reducible exact Ext.refl _ | with_reducible assumption | with_reducible refine Ext.drew ?_ | with_reducible refine Ext.drewN ?_ _ | with_reducible refine Ext.alloc ?_ _))))
  clear hK K
  clear hHeld
  (try simp only [Act.put]); (try simp only [List.setIfInBounds_toArray]); (try simp only [List.set_cons_succ]); (try simp only [List.set_cons_zero])
  refine wpAnyH_take (i := 11) (oi := { dst := (some 62), op := (Op.binOp BinOp.add 9 (Operand.tmp 58) (Operand.tmp 61) 9), type := 9, pos := "ref.go:230", after := #[{ on := 7, ground := Ground.data }, { on := 10, ground := Ground.data }], guard := none }) (v := ?v27) rfl (by kernel_rfl) (by kernel_rfl) (by kernel_rfl) (fun _ _ _ h => h) (Or.inl ⟨rfl, ?hy27⟩) hHeld26 ?rest27
  case hy27 => (intro w hSw; (try dsimp only at hSw); go_simp <;> first | with_reducible rfl | rw [if_neg (by omega)] | rw [if_pos (by omega)])
  (try simp only [Act.put]); (try simp only [List.setIfInBounds_toArray]); (try simp only [List.set_cons_succ]); (try simp only [List.set_cons_zero])
  refine wpAnyH_take (i := 12) (oi := { dst := (some 2), op := (Op.assign (Operand.tmp 62)), type := 9, pos := "ref.go:230", after := #[{ on := 11, ground := Ground.data }, { on := 10, ground := Ground.chain }, { on := 0, ground := Ground.phase }, { on := 1, ground := Ground.phase }, { on := 2, ground := Ground.phase }, { on := 3, ground := Ground.phase }, { on := 4, ground := Ground.phase }, { on := 5, ground := Ground.phase }, { on := 6, ground := Ground.phase }, { on := 7, ground := Ground.phase }, { on := 8, ground := Ground.phase }, { on := 9, ground := Ground.phase }, { on := 10, ground := Ground.phase }, { on := 11, ground := Ground.phase }], guard := none }) (v := ?v28) rfl (by kernel_rfl) (by kernel_rfl) (by kernel_rfl) (fun _ _ _ h => h) (Or.inl ⟨rfl, ?hy28⟩) hHeld26 ?rest28
  case hy28 => (intro w hSw; (try dsimp only at hSw); go_simp <;> first | with_reducible rfl | rw [if_neg (by omega)] | rw [if_pos (by omega)])
  (try simp only [Act.put]); (try simp only [List.setIfInBounds_toArray]); (try simp only [List.set_cons_succ]); (try simp only [List.set_cons_zero])
  refine wpAnyH_done (by kernel_rfl) ?_ _
  clear hHeld26
  go_wp2_with fail
  go_ret
  refine ⟨congrArg Ending.returned (congrArg Value.string (asB_eq ?_)), hx.trans (by repeat (first | with_reducible exact Ext.refl _ | with_reducible assumption | with_reducible refine Ext.drew ?_ | with_reducible refine Ext.drewN ?_ _ | with_reducible refine Ext.alloc ?_ _))⟩
  rw [HT.out]
  simp [joinW, headL, tailW, wordB, asB]

set_option maxRecDepth 100000 in
set_option maxHeartbeats 1600000 in
theorem r9_Text6 (an : Int) (anm aky afr ato : ByteArray) (w : World) (hok : chkR ⟨6, an, anm, aky, afr, ato⟩ = 0) : Calls Tryz.prog 9 #[.agg #[.int .i64 6, .int .i64 an, .string anm, .string aky, .string afr, .string ato]] w fun e w' => e = .returned (.string (asB (textL ⟨6, an, anm, aky, afr, ato⟩))) ∧ Ext w w' := by
  obtain ⟨-, -, hnum, hk1, hk2, hnm, hky, hfr, hto⟩ := chkR_ok hok
  simp only at hnum hk1 hk2 hnm hky hfr hto
  have z1 := name_size hnm
  have z2 : aky.size ≤ 20 := by have := hk1 rfl; omega
  have z3 := star_size hfr
  have z4 := star_size hto
  have z5 := word_size an
  clear hnum
  have HT := Lib.hid (show textL ⟨6, an, anm, aky, afr, ato⟩ = joinW (headL 6 :: tailW ⟨6, an, anm, aky, afr, ato⟩) by unfold textL; rw [if_pos hok])
  clear hk1 hk2 hnm hky hfr hto
  have HC := Lib.hid (fun W => r9_Check ⟨6, an, anm, aky, afr, ato⟩ W)
  have HOK := Lib.hid hok
  obtain ⟨g, w1, hg, hw1, hb, hx, -⟩ := box_rule w ⟨6, an, anm, aky, afr, ato⟩ 23
  obtain ⟨c0, c1, c2, c3, c4, c5⟩ := id hb
  simp only at c0 c1 c2 c3 c4 c5 hw1
  have HW1 := Lib.hid hw1
  have HG := Lib.hid hg
  clear hw1 hg hok
  go_enter Tryz.func9, Tryz.ntmps9
  go_wp2_with fail
  rw [← HW1.out, ← HG.out]
  go_wp2_with fail
  refine (HC.out _).mono ?_
  rintro e w2 ⟨rfl, hb2⟩
  have hb2 : Ext w1 w2 := hb2
  replace hb := hb.ext hb2
  replace hx := hx.trans hb2
  rw [HOK.out]
  clear c0 c1 c2 c3 c4 c5 hb2 HW1 HG HC HOK
  obtain ⟨c0, c1, c2, c3, c4, c5⟩ := id hb
  simp only at c0 c1 c2 c3 c4 c5
  have MK := Lib.hid (fun V (e : Ext w2 V) => mk_one hb e)
  clear hb
  go_wp2_with fail
  refine wp_region_held_drew (S := (fun V => V.cell? ⟨g, 0, none⟩ = some (.int .i64 6) ∧ V.cell? ⟨g, 1, none⟩ = some (.int .i64 an) ∧ V.cell? ⟨g, 2, none⟩ = some (.string anm) ∧ V.cell? ⟨g, 3, none⟩ = some (.string aky) ∧ V.cell? ⟨g, 4, none⟩ = some (.string afr) ∧ V.cell? ⟨g, 5, none⟩ = some (.string ato) ∧ Ext w2 V)) (by kernel_rfl) ?hs29 (fun hHeld => ?go29)
  case hs29 => (exact MK.out _ (by repeat (first | with_reducible exact Ext.refl _ | with_reducible assumption | with_reducible refine Ext.drew ?_ | with_reducible refine Ext.drewN ?_ _ | with_reducible refine Ext.alloc ?_ _)))
  refine wpAnyH_take (i := 0) (oi := { dst := (some 65), op := (Op.fieldAddr 23 (Operand.tmp 1) 2), type := 0, pos := "ref.go:232", after := #[], guard := none }) (v := ?v30) rfl (by kernel_rfl) (by kernel_rfl) (by kernel_rfl) (fun _ _ _ h => h) (Or.inl ⟨rfl, ?hy30⟩) hHeld ?rest30
  case hy30 => (intro w hSw; (try dsimp only at hSw); go_simp <;> first | with_reducible rfl | rw [if_neg (by omega)] | rw [if_pos (by omega)])
  (try simp only [Act.put]); (try simp only [List.setIfInBounds_toArray]); (try simp only [List.set_cons_succ]); (try simp only [List.set_cons_zero])
  refine wpAnyH_take (i := 1) (oi := { dst := (some 66), op := (Op.load 9 (Operand.tmp 65)), type := 9, pos := "ref.go:232", after := #[{ on := 0, ground := Ground.data }], guard := none }) (v := ?v31) rfl (by kernel_rfl) (by kernel_rfl) (by kernel_rfl) (fun _ _ _ h => h) (Or.inl ⟨rfl, ?hy31⟩) hHeld ?rest31
  case hy31 => (intro w hSw; (try dsimp only at hSw); go_simp <;> first | with_reducible rfl | rw [if_neg (by omega)] | rw [if_pos (by omega)])
  (try simp only [Act.put]); (try simp only [List.setIfInBounds_toArray]); (try simp only [List.set_cons_succ]); (try simp only [List.set_cons_zero])
  refine wpAnyH_take (i := 2) (oi := { dst := (some 67), op := (Op.binOp BinOp.add 9 (Operand.const (Value.string { data := #[101, 110, 100, 115, 32] })) (Operand.tmp 66) 9), type := 9, pos := "ref.go:232", after := #[{ on := 1, ground := Ground.data }], guard := none }) (v := ?v32) rfl (by kernel_rfl) (by kernel_rfl) (by kernel_rfl) (fun _ _ _ h => h) (Or.inl ⟨rfl, ?hy32⟩) hHeld ?rest32
  case hy32 => (intro w hSw; (try dsimp only at hSw); go_simp <;> first | with_reducible rfl | rw [if_neg (by omega)] | rw [if_pos (by omega)])
  (try simp only [Act.put]); (try simp only [List.setIfInBounds_toArray]); (try simp only [List.set_cons_succ]); (try simp only [List.set_cons_zero])
  refine wpAnyH_take (i := 3) (oi := { dst := (some 68), op := (Op.binOp BinOp.add 9 (Operand.tmp 67) (Operand.const (Value.string { data := #[32] })) 9), type := 9, pos := "ref.go:232", after := #[{ on := 2, ground := Ground.data }], guard := none }) (v := ?v33) rfl (by kernel_rfl) (by kernel_rfl) (by kernel_rfl) (fun _ _ _ h => h) (Or.inl ⟨rfl, ?hy33⟩) hHeld ?rest33
  case hy33 => (intro w hSw; (try dsimp only at hSw); go_simp <;> first | with_reducible rfl | rw [if_neg (by omega)] | rw [if_pos (by omega)])
  (try simp only [Act.put]); (try simp only [List.setIfInBounds_toArray]); (try simp only [List.set_cons_succ]); (try simp only [List.set_cons_zero])
  refine wpAnyH_take (i := 4) (oi := { dst := (some 69), op := (Op.fieldAddr 23 (Operand.tmp 1) 4), type := 0, pos := "ref.go:232", after := #[], guard := none }) (v := ?v34) rfl (by kernel_rfl) (by kernel_rfl) (by kernel_rfl) (fun _ _ _ h => h) (Or.inl ⟨rfl, ?hy34⟩) hHeld ?rest34
  case hy34 => (intro w hSw; (try dsimp only at hSw); go_simp <;> first | with_reducible rfl | rw [if_neg (by omega)] | rw [if_pos (by omega)])
  (try simp only [Act.put]); (try simp only [List.setIfInBounds_toArray]); (try simp only [List.set_cons_succ]); (try simp only [List.set_cons_zero])
  refine wpAnyH_take (i := 5) (oi := { dst := (some 70), op := (Op.load 9 (Operand.tmp 69)), type := 9, pos := "ref.go:232", after := #[{ on := 4, ground := Ground.data }], guard := none }) (v := ?v35) rfl (by kernel_rfl) (by kernel_rfl) (by kernel_rfl) (fun _ _ _ h => h) (Or.inl ⟨rfl, ?hy35⟩) hHeld ?rest35
  case hy35 => (intro w hSw; (try dsimp only at hSw); go_simp <;> first | with_reducible rfl | rw [if_neg (by omega)] | rw [if_pos (by omega)])
  (try simp only [Act.put]); (try simp only [List.setIfInBounds_toArray]); (try simp only [List.set_cons_succ]); (try simp only [List.set_cons_zero])
  refine wpAnyH_take (i := 9) (oi := { dst := (some 74), op := (Op.fieldAddr 23 (Operand.tmp 1) 5), type := 0, pos := "ref.go:232", after := #[], guard := none }) (v := ?v36) rfl (by kernel_rfl) (by kernel_rfl) (by kernel_rfl) (fun _ _ _ h => h) (Or.inl ⟨rfl, ?hy36⟩) hHeld ?rest36
  case hy36 => (intro w hSw; (try dsimp only at hSw); go_simp <;> first | with_reducible rfl | rw [if_neg (by omega)] | rw [if_pos (by omega)])
  (try simp only [Act.put]); (try simp only [List.setIfInBounds_toArray]); (try simp only [List.set_cons_succ]); (try simp only [List.set_cons_zero])
  refine wpAnyH_take (i := 10) (oi := { dst := (some 75), op := (Op.load 9 (Operand.tmp 74)), type := 9, pos := "ref.go:232", after := #[{ on := 9, ground := Ground.data }], guard := none }) (v := ?v37) rfl (by kernel_rfl) (by kernel_rfl) (by kernel_rfl) (fun _ _ _ h => h) (Or.inl ⟨rfl, ?hy37⟩) hHeld ?rest37
  case hy37 => (intro w hSw; (try dsimp only at hSw); go_simp <;> first | with_reducible rfl | rw [if_neg (by omega)] | rw [if_pos (by omega)])
  (try simp only [Act.put]); (try simp only [List.setIfInBounds_toArray]); (try simp only [List.set_cons_succ]); (try simp only [List.set_cons_zero])
  refine wpAnyH_ready (rs := [6]) (by kernel_rfl) (by simp) ?_
  refine AllReadyH.cons (o := { dst := (some 71), op := (Op.call { callee := (Callee.value (Operand.func 33)), args := #[(Operand.tmp 70)], argTypes := #[9] }), type := 9, pos := "ref.go:232", after := #[{ on := 5, ground := Ground.data }], guard := none }) rfl (fun K hK => ?step38x0) ?more38x0
  case more38x0 => exact AllReadyH.nil
  go_simp
  (go_at_call 33; refine (r9_label afr _).mono ?_; rintro e w' ⟨rfl, rfl⟩)
  refine hK.out _ _ ?hS38x0 (fun hHeld38 => ?rest38x0)
  case hS38x0 => first | (exact MK.out _ (by repeat (first | with_reducible exact Ext.refl _ | with_reducible assumption | with_reducible refine Ext.drew ?_ | with_reducible refine Ext.drewN ?_ _ | with_reducible refine Ext.alloc ?_ _))) | ((try dsimp only); (exact MK.out _ (by repeat (first | with_reducible exact Ext.refl _ | with_reducible assumption | with_reducible refine Ext.drew ?_ | with_reducible refine Ext.drewN ?_ _ | with_reducible refine Ext.alloc ?_ _))))
  clear hK K
  clear hHeld
  (try simp only [Act.put]); (try simp only [List.setIfInBounds_toArray]); (try simp only [List.set_cons_succ]); (try simp only [List.set_cons_zero])
  refine wpAnyH_take (i := 7) (oi := { dst := (some 72), op := (Op.binOp BinOp.add 9 (Operand.tmp 68) (Operand.tmp 71) 9), type := 9, pos := "ref.go:232", after := #[{ on := 3, ground := Ground.data }, { on := 6, ground := Ground.data }], guard := none }) (v := ?v39) rfl (by kernel_rfl) (by kernel_rfl) (by kernel_rfl) (fun _ _ _ h => h) (Or.inl ⟨rfl, ?hy39⟩) hHeld38 ?rest39
  case hy39 => (intro w hSw; (try dsimp only at hSw); go_simp <;> first | with_reducible rfl | rw [if_neg (by omega)] | rw [if_pos (by omega)])
  (try simp only [Act.put]); (try simp only [List.setIfInBounds_toArray]); (try simp only [List.set_cons_succ]); (try simp only [List.set_cons_zero])
  refine wpAnyH_take (i := 8) (oi := { dst := (some 73), op := (Op.binOp BinOp.add 9 (Operand.tmp 72) (Operand.const (Value.string { data := #[32] })) 9), type := 9, pos := "ref.go:232", after := #[{ on := 7, ground := Ground.data }], guard := none }) (v := ?v40) rfl (by kernel_rfl) (by kernel_rfl) (by kernel_rfl) (fun _ _ _ h => h) (Or.inl ⟨rfl, ?hy40⟩) hHeld38 ?rest40
  case hy40 => (intro w hSw; (try dsimp only at hSw); go_simp <;> first | with_reducible rfl | rw [if_neg (by omega)] | rw [if_pos (by omega)])
  (try simp only [Act.put]); (try simp only [List.setIfInBounds_toArray]); (try simp only [List.set_cons_succ]); (try simp only [List.set_cons_zero])
  refine wpAnyH_ready (rs := [11]) (by kernel_rfl) (by simp) ?_
  refine AllReadyH.cons (o := { dst := (some 76), op := (Op.call { callee := (Callee.value (Operand.func 33)), args := #[(Operand.tmp 75)], argTypes := #[9] }), type := 9, pos := "ref.go:232", after := #[{ on := 10, ground := Ground.data }, { on := 6, ground := Ground.chain }], guard := none }) rfl (fun K hK => ?step41x0) ?more41x0
  case more41x0 => exact AllReadyH.nil
  go_simp
  (go_at_call 33; refine (r9_label ato _).mono ?_; rintro e w' ⟨rfl, rfl⟩)
  refine hK.out _ _ ?hS41x0 (fun hHeld41 => ?rest41x0)
  case hS41x0 => first | (exact MK.out _ (by repeat (first | with_reducible exact Ext.refl _ | with_reducible assumption | with_reducible refine Ext.drew ?_ | with_reducible refine Ext.drewN ?_ _ | with_reducible refine Ext.alloc ?_ _))) | ((try dsimp only); (exact MK.out _ (by repeat (first | with_reducible exact Ext.refl _ | with_reducible assumption | with_reducible refine Ext.drew ?_ | with_reducible refine Ext.drewN ?_ _ | with_reducible refine Ext.alloc ?_ _))))
  clear hK K
  clear hHeld38
  (try simp only [Act.put]); (try simp only [List.setIfInBounds_toArray]); (try simp only [List.set_cons_succ]); (try simp only [List.set_cons_zero])
  refine wpAnyH_take (i := 12) (oi := { dst := (some 77), op := (Op.binOp BinOp.add 9 (Operand.tmp 73) (Operand.tmp 76) 9), type := 9, pos := "ref.go:232", after := #[{ on := 8, ground := Ground.data }, { on := 11, ground := Ground.data }], guard := none }) (v := ?v42) rfl (by kernel_rfl) (by kernel_rfl) (by kernel_rfl) (fun _ _ _ h => h) (Or.inl ⟨rfl, ?hy42⟩) hHeld41 ?rest42
  case hy42 => (intro w hSw; (try dsimp only at hSw); go_simp <;> first | with_reducible rfl | rw [if_neg (by omega)] | rw [if_pos (by omega)])
  (try simp only [Act.put]); (try simp only [List.setIfInBounds_toArray]); (try simp only [List.set_cons_succ]); (try simp only [List.set_cons_zero])
  refine wpAnyH_take (i := 13) (oi := { dst := (some 2), op := (Op.assign (Operand.tmp 77)), type := 9, pos := "ref.go:232", after := #[{ on := 12, ground := Ground.data }, { on := 11, ground := Ground.chain }, { on := 0, ground := Ground.phase }, { on := 1, ground := Ground.phase }, { on := 2, ground := Ground.phase }, { on := 3, ground := Ground.phase }, { on := 4, ground := Ground.phase }, { on := 5, ground := Ground.phase }, { on := 6, ground := Ground.phase }, { on := 7, ground := Ground.phase }, { on := 8, ground := Ground.phase }, { on := 9, ground := Ground.phase }, { on := 10, ground := Ground.phase }, { on := 11, ground := Ground.phase }, { on := 12, ground := Ground.phase }], guard := none }) (v := ?v43) rfl (by kernel_rfl) (by kernel_rfl) (by kernel_rfl) (fun _ _ _ h => h) (Or.inl ⟨rfl, ?hy43⟩) hHeld41 ?rest43
  case hy43 => (intro w hSw; (try dsimp only at hSw); go_simp <;> first | with_reducible rfl | rw [if_neg (by omega)] | rw [if_pos (by omega)])
  (try simp only [Act.put]); (try simp only [List.setIfInBounds_toArray]); (try simp only [List.set_cons_succ]); (try simp only [List.set_cons_zero])
  refine wpAnyH_done (by kernel_rfl) ?_ _
  clear hHeld41
  go_wp2_with fail
  go_ret
  refine ⟨congrArg Ending.returned (congrArg Value.string (asB_eq ?_)), hx.trans (by repeat (first | with_reducible exact Ext.refl _ | with_reducible assumption | with_reducible refine Ext.drew ?_ | with_reducible refine Ext.drewN ?_ _ | with_reducible refine Ext.alloc ?_ _))⟩
  rw [HT.out]
  simp [joinW, headL, tailW, keyK, starB, asB]

set_option maxRecDepth 100000 in
set_option maxHeartbeats 1600000 in
theorem r9_Text7 (m : Nat) (anm aky afr ato : ByteArray) (w : World) (hok : chkR ⟨7, (m : Int), anm, aky, afr, ato⟩ = 0) : Calls Tryz.prog 9 #[.agg #[.int .i64 7, .int .i64 (m : Int), .string anm, .string aky, .string afr, .string ato]] w fun e w' => e = .returned (.string (asB (textL ⟨7, (m : Int), anm, aky, afr, ato⟩))) ∧ Ext w w' := by
  obtain ⟨-, -, hnum, hk1, hk2, hnm, hky, hfr, hto⟩ := chkR_ok hok
  simp only at hnum hk1 hk2 hnm hky hfr hto
  have z1 := name_size hnm
  have z2 : aky.size ≤ 20 := by have := hk1 rfl; omega
  have z3 := star_size hfr
  have z4 := star_size hto
  have z5 := word_size (m : Int)
  replace hnum : m ≤ 4000 := by have h : (0 : Int) ≤ (m : Int) ∧ (m : Int) ≤ 4000 := (by simpa [numB] using hnum); omega
  have z6 := digits_size hnum
  have HT := Lib.hid (show textL ⟨7, (m : Int), anm, aky, afr, ato⟩ = joinW (headL 7 :: tailW ⟨7, (m : Int), anm, aky, afr, ato⟩) by unfold textL; rw [if_pos hok])
  clear hk1 hk2 hnm hky hfr hto
  have HC := Lib.hid (fun W => r9_Check ⟨7, (m : Int), anm, aky, afr, ato⟩ W)
  have HOK := Lib.hid hok
  obtain ⟨g, w1, hg, hw1, hb, hx, -⟩ := box_rule w ⟨7, (m : Int), anm, aky, afr, ato⟩ 23
  obtain ⟨c0, c1, c2, c3, c4, c5⟩ := id hb
  simp only at c0 c1 c2 c3 c4 c5 hw1
  have HW1 := Lib.hid hw1
  have HG := Lib.hid hg
  clear hw1 hg hok
  go_enter Tryz.func9, Tryz.ntmps9
  go_wp2_with fail
  rw [← HW1.out, ← HG.out]
  go_wp2_with fail
  refine (HC.out _).mono ?_
  rintro e w2 ⟨rfl, hb2⟩
  have hb2 : Ext w1 w2 := hb2
  replace hb := hb.ext hb2
  replace hx := hx.trans hb2
  rw [HOK.out]
  clear c0 c1 c2 c3 c4 c5 hb2 HW1 HG HC HOK
  obtain ⟨c0, c1, c2, c3, c4, c5⟩ := id hb
  simp only at c0 c1 c2 c3 c4 c5
  have MK := Lib.hid (fun V (e : Ext w2 V) => mk_one hb e)
  clear hb
  go_wp2_with fail
  refine wp_region_held_drew (S := (fun V => V.cell? ⟨g, 0, none⟩ = some (.int .i64 7) ∧ V.cell? ⟨g, 1, none⟩ = some (.int .i64 (m : Int)) ∧ V.cell? ⟨g, 2, none⟩ = some (.string anm) ∧ V.cell? ⟨g, 3, none⟩ = some (.string aky) ∧ V.cell? ⟨g, 4, none⟩ = some (.string afr) ∧ V.cell? ⟨g, 5, none⟩ = some (.string ato) ∧ Ext w2 V)) (by kernel_rfl) ?hs44 (fun hHeld => ?go44)
  case hs44 => (exact MK.out _ (by repeat (first | with_reducible exact Ext.refl _ | with_reducible assumption | with_reducible refine Ext.drew ?_ | with_reducible refine Ext.drewN ?_ _ | with_reducible refine Ext.alloc ?_ _)))
  refine wpAnyH_take (i := 0) (oi := { dst := (some 78), op := (Op.fieldAddr 23 (Operand.tmp 1) 2), type := 0, pos := "ref.go:234", after := #[], guard := none }) (v := ?v45) rfl (by kernel_rfl) (by kernel_rfl) (by kernel_rfl) (fun _ _ _ h => h) (Or.inl ⟨rfl, ?hy45⟩) hHeld ?rest45
  case hy45 => (intro w hSw; (try dsimp only at hSw); go_simp <;> first | with_reducible rfl | rw [if_neg (by omega)] | rw [if_pos (by omega)])
  (try simp only [Act.put]); (try simp only [List.setIfInBounds_toArray]); (try simp only [List.set_cons_succ]); (try simp only [List.set_cons_zero])
  refine wpAnyH_take (i := 1) (oi := { dst := (some 79), op := (Op.load 9 (Operand.tmp 78)), type := 9, pos := "ref.go:234", after := #[{ on := 0, ground := Ground.data }], guard := none }) (v := ?v46) rfl (by kernel_rfl) (by kernel_rfl) (by kernel_rfl) (fun _ _ _ h => h) (Or.inl ⟨rfl, ?hy46⟩) hHeld ?rest46
  case hy46 => (intro w hSw; (try dsimp only at hSw); go_simp <;> first | with_reducible rfl | rw [if_neg (by omega)] | rw [if_pos (by omega)])
  (try simp only [Act.put]); (try simp only [List.setIfInBounds_toArray]); (try simp only [List.set_cons_succ]); (try simp only [List.set_cons_zero])
  refine wpAnyH_take (i := 2) (oi := { dst := (some 80), op := (Op.binOp BinOp.add 9 (Operand.const (Value.string { data := #[109, 97, 120, 111, 117, 116, 32] })) (Operand.tmp 79) 9), type := 9, pos := "ref.go:234", after := #[{ on := 1, ground := Ground.data }], guard := none }) (v := ?v47) rfl (by kernel_rfl) (by kernel_rfl) (by kernel_rfl) (fun _ _ _ h => h) (Or.inl ⟨rfl, ?hy47⟩) hHeld ?rest47
  case hy47 => (intro w hSw; (try dsimp only at hSw); go_simp <;> first | with_reducible rfl | rw [if_neg (by omega)] | rw [if_pos (by omega)])
  (try simp only [Act.put]); (try simp only [List.setIfInBounds_toArray]); (try simp only [List.set_cons_succ]); (try simp only [List.set_cons_zero])
  refine wpAnyH_take (i := 3) (oi := { dst := (some 81), op := (Op.binOp BinOp.add 9 (Operand.tmp 80) (Operand.const (Value.string { data := #[32] })) 9), type := 9, pos := "ref.go:234", after := #[{ on := 2, ground := Ground.data }], guard := none }) (v := ?v48) rfl (by kernel_rfl) (by kernel_rfl) (by kernel_rfl) (fun _ _ _ h => h) (Or.inl ⟨rfl, ?hy48⟩) hHeld ?rest48
  case hy48 => (intro w hSw; (try dsimp only at hSw); go_simp <;> first | with_reducible rfl | rw [if_neg (by omega)] | rw [if_pos (by omega)])
  (try simp only [Act.put]); (try simp only [List.setIfInBounds_toArray]); (try simp only [List.set_cons_succ]); (try simp only [List.set_cons_zero])
  refine wpAnyH_take (i := 4) (oi := { dst := (some 82), op := (Op.fieldAddr 23 (Operand.tmp 1) 1), type := 0, pos := "ref.go:234", after := #[], guard := none }) (v := ?v49) rfl (by kernel_rfl) (by kernel_rfl) (by kernel_rfl) (fun _ _ _ h => h) (Or.inl ⟨rfl, ?hy49⟩) hHeld ?rest49
  case hy49 => (intro w hSw; (try dsimp only at hSw); go_simp <;> first | with_reducible rfl | rw [if_neg (by omega)] | rw [if_pos (by omega)])
  (try simp only [Act.put]); (try simp only [List.setIfInBounds_toArray]); (try simp only [List.set_cons_succ]); (try simp only [List.set_cons_zero])
  refine wpAnyH_take (i := 5) (oi := { dst := (some 83), op := (Op.load 3 (Operand.tmp 82)), type := 3, pos := "ref.go:234", after := #[{ on := 4, ground := Ground.data }], guard := none }) (v := ?v50) rfl (by kernel_rfl) (by kernel_rfl) (by kernel_rfl) (fun _ _ _ h => h) (Or.inl ⟨rfl, ?hy50⟩) hHeld ?rest50
  case hy50 => (intro w hSw; (try dsimp only at hSw); go_simp <;> first | with_reducible rfl | rw [if_neg (by omega)] | rw [if_pos (by omega)])
  (try simp only [Act.put]); (try simp only [List.setIfInBounds_toArray]); (try simp only [List.set_cons_succ]); (try simp only [List.set_cons_zero])
  refine wpAnyH_ready (rs := [6]) (by kernel_rfl) (by simp) ?_
  refine AllReadyH.cons (o := { dst := (some 84), op := (Op.call { callee := (Callee.value (Operand.func 34)), args := #[(Operand.tmp 83)], argTypes := #[3] }), type := 9, pos := "ref.go:234", after := #[{ on := 5, ground := Ground.data }], guard := none }) rfl (fun K hK => ?step51x0) ?more51x0
  case more51x0 => exact AllReadyH.nil
  go_simp
  (go_at_call 34; refine (r9_digits m _ hnum).mono ?_; rintro e w' ⟨rfl, hb⟩; replace hb : Ext w2 w' := Ext.trans (by repeat (first | with_reducible exact Ext.refl _ | with_reducible assumption | with_reducible refine Ext.drew ?_ | with_reducible refine Ext.drewN ?_ _ | with_reducible refine Ext.alloc ?_ _)) hb)
  refine hK.out _ _ ?hS51x0 (fun hHeld51 => ?rest51x0)
  case hS51x0 => first | (exact MK.out _ (by repeat (first | with_reducible exact Ext.refl _ | with_reducible assumption | with_reducible refine Ext.drew ?_ | with_reducible refine Ext.drewN ?_ _ | with_reducible refine Ext.alloc ?_ _))) | ((try dsimp only); (exact MK.out _ (by repeat (first | with_reducible exact Ext.refl _ | with_reducible assumption | with_reducible refine Ext.drew ?_ | with_reducible refine Ext.drewN ?_ _ | with_reducible refine Ext.alloc ?_ _))))
  clear hK K
  clear hHeld
  (try simp only [Act.put]); (try simp only [List.setIfInBounds_toArray]); (try simp only [List.set_cons_succ]); (try simp only [List.set_cons_zero])
  refine wpAnyH_take (i := 7) (oi := { dst := (some 85), op := (Op.binOp BinOp.add 9 (Operand.tmp 81) (Operand.tmp 84) 9), type := 9, pos := "ref.go:234", after := #[{ on := 3, ground := Ground.data }, { on := 6, ground := Ground.data }], guard := none }) (v := ?v52) rfl (by kernel_rfl) (by kernel_rfl) (by kernel_rfl) (fun _ _ _ h => h) (Or.inl ⟨rfl, ?hy52⟩) hHeld51 ?rest52
  case hy52 => (intro w hSw; (try dsimp only at hSw); go_simp <;> first | with_reducible rfl | rw [if_neg (by omega)] | rw [if_pos (by omega)])
  (try simp only [Act.put]); (try simp only [List.setIfInBounds_toArray]); (try simp only [List.set_cons_succ]); (try simp only [List.set_cons_zero])
  refine wpAnyH_take (i := 8) (oi := { dst := (some 2), op := (Op.assign (Operand.tmp 85)), type := 9, pos := "ref.go:234", after := #[{ on := 7, ground := Ground.data }, { on := 6, ground := Ground.chain }, { on := 0, ground := Ground.phase }, { on := 1, ground := Ground.phase }, { on := 2, ground := Ground.phase }, { on := 3, ground := Ground.phase }, { on := 4, ground := Ground.phase }, { on := 5, ground := Ground.phase }, { on := 6, ground := Ground.phase }, { on := 7, ground := Ground.phase }], guard := none }) (v := ?v53) rfl (by kernel_rfl) (by kernel_rfl) (by kernel_rfl) (fun _ _ _ h => h) (Or.inl ⟨rfl, ?hy53⟩) hHeld51 ?rest53
  case hy53 => (intro w hSw; (try dsimp only at hSw); go_simp <;> first | with_reducible rfl | rw [if_neg (by omega)] | rw [if_pos (by omega)])
  (try simp only [Act.put]); (try simp only [List.setIfInBounds_toArray]); (try simp only [List.set_cons_succ]); (try simp only [List.set_cons_zero])
  refine wpAnyH_done (by kernel_rfl) ?_ _
  clear hHeld51
  go_wp2_with fail
  go_ret
  refine ⟨congrArg Ending.returned (congrArg Value.string (asB_eq ?_)), hx.trans (by repeat (first | with_reducible exact Ext.refl _ | with_reducible assumption | with_reducible refine Ext.drew ?_ | with_reducible refine Ext.drewN ?_ _ | with_reducible refine Ext.alloc ?_ _))⟩
  rw [HT.out]
  simp [joinW, headL, tailW, keyK, asB, Lib.itoa]

set_option maxHeartbeats 800000 in
theorem r9_Text (a : RuleP) (w : World) : Calls Tryz.prog 9 #[a.val] w fun e w' => e = .returned (.string (asB (textL a))) ∧ Ext w w' := by
  by_cases hok : chkR a = 0
  · obtain ⟨h1, h7, hnum, -⟩ := chkR_ok hok
    obtain ⟨ak, an, anm, aky, afr, ato⟩ := a
    simp only at h1 h7 hnum
    have hk : ak = 1 ∨ ak = 2 ∨ ak = 3 ∨ ak = 4 ∨ ak = 5 ∨ ak = 6 ∨ ak = 7 := by omega
    rcases hk with rfl | rfl | rfl | rfl | rfl | rfl | rfl
    · exact r9_Text1 an anm aky afr ato w hok
    · exact r9_Text2 an anm aky afr ato w hok
    · exact r9_Text3 an anm aky afr ato w hok
    · exact r9_Text4 an anm aky afr ato w hok
    · exact r9_Text5 an anm aky afr ato w hok
    · exact r9_Text6 an anm aky afr ato w hok
    · have h : (0 : Int) ≤ an := by
        have h : (0 : Int) ≤ an ∧ an ≤ 4000 := by simpa [numB] using hnum
        exact h.1
      obtain ⟨m, rfl⟩ := Int.eq_ofNat_of_zero_le h
      exact r9_Text7 m anm aky afr ato w hok
  · have HT := Lib.hid (show textL a = [] by unfold textL; rw [if_neg hok])
    have HC := Lib.hid (fun W => r9_Check a W)
    obtain ⟨g, w1, hg, hw1, hb, hx, -⟩ := box_rule w a 23
    obtain ⟨c0, c1, c2, c3, c4, c5⟩ := id hb
    have HW1 := Lib.hid hw1
    have HG := Lib.hid hg
    have hok' : (chkR a != 0) = true := by simpa using hok
    clear hw1 hg hok
    show Calls Tryz.prog _ #[.agg #[.int .i64 a.kind, .int .i64 a.n, .string a.name, .string a.key, .string a.frm, .string a.tov]] w _
    go_enter Tryz.func9, Tryz.ntmps9
    go_wp2_with fail
    rw [← HW1.out, ← HG.out]
    go_wp2_with fail
    refine (HC.out _).mono ?_
    rintro e w2 ⟨rfl, hb2⟩
    have hb2 : Ext w1 w2 := hb2
    go_wp2_with fail
    go_ret
    exact ⟨congrArg Ending.returned (congrArg Value.string (asB_eq (by rw [HT.out]))), hx.trans hb2⟩

end Go.Proofs.YtanclhcoiagcfaaGreatDoor
