/- THE WALK over schema.Text. -/
import Derived.Test.YtanclhcoiagcfaaDoorSchY
import Derived.Test.YtanclhcoiagcfaaDoorNumP
import Derived.Test.YtanclhcoiagcfaaDoorRow
import Derived.Maps.AppendAt
namespace Go.Proofs.YtanclhcoiagcfaaDoor
open Go.RowKit

theorem own_run {Q : Program} {t e size bytes : Nat} (T : ElT Q t e size bytes) (wb w : World) (v : Value) (n : Nat) (xs : List Value) (hown : w.ownsRow wb.heap.size e size v n xs) (hE : Ext wb w)
    (ad : Addr) (m c : Nat) (news : List Value) (hl : news.length = m * size) (hnews : ∀ j u, news[j]? = some u → w.cell? (ad.add j) = some u) (h1 : ∀ u ∈ news, u.oneCell' = true)
    (h63 : n + m ≤ 1000000) (hbytes : bytes ≤ 1000000) (ty : TypeId) :
    ∃ v' w', (Builtin.append_ #[t, t] ty #[v, .slice (some ad) m c]).run Q w = .ok v' w' ∧ w'.ownsRow wb.heap.size e size v' (n + m) (xs ++ news) ∧ Ext wb w' := by
  obtain ⟨z, hz, hzc⟩ := T.hi
  obtain ⟨i, hi, hz0, hz1, hz2⟩ := info_parts hz
  obtain ⟨v', w', hr, ho, hg, -, -⟩ := run_append_own_at (P := Q) w wb.heap.size t ty e i z size bytes T.ht hi hz0 hz1 hz2 hzc T.hs v n xs hown ad m c news hl hnews h1 (by unfold maxLen; omega) (Nat.le_trans (Nat.mul_le_mul h63 hbytes) (by decide)) hE.le
  exact ⟨v', w', hr, ho, hE.grown hg (fun k hk => (hown.lt k hk).1)⟩

theorem join_is : ∀ ws : List (List UInt8), Lib.join ws [32] = joinW ws
  | [] => rfl
  | [a] => by rw [Lib.join_one]; rfl
  | a :: b :: r => by
    have h := join_is (b :: r)
    unfold Lib.join at h ⊢
    rw [List.intercalate_cons_cons, h]
    simp [joinW]

theorem strC_map (xs : List ByteArray) : xs.flatMap strC = xs.map Value.string := by
  induction xs with
  | nil => rfl
  | cons a r ih => rw [List.flatMap_cons, ih]; rfl

theorem s_Join (xs : List ByteArray) (base : Nat) (v : Value) (w : World) (hown : w.ownsRow base 9 1 v xs.length (xs.flatMap strC)) (h0 : 0 < xs.length) (h10 : xs.length ≤ 10) (hsz : ∀ x ∈ xs, x.size ≤ 20) :
    Calls Tryd.prog 33 #[v, .string ⟨#[32]⟩] w fun e w' => e = .returned (.string (asB (joinW (xs.map (·.data.toList))))) ∧ Ext w w' := by
  obtain ⟨g, cap, cur, rfl, hg, hh, hnc, hcm, hcl, hx⟩ : ∃ g cap cur, v = .slice (some ⟨g, 0, none⟩) xs.length cap ∧ base ≤ g ∧ w.heap[g]? = some (.cells cur 9 (0, 0)) ∧ xs.length ≤ cap ∧ cap ≤ maxLen ∧ cur.size = cap * 1 ∧ cur.toList.take (xs.length * 1) = xs.flatMap strC := by
    rcases hown.2 with ⟨_, h⟩ | h
    · omega
    · exact h
  rw [strC_map, Nat.mul_one] at hx
  have hlt : g < w.heap.size := by
    rcases Nat.lt_or_ge g w.heap.size with h | h
    · exact h
    · rw [Array.getElem?_eq_none h] at hh; cases hh
  have hlen : (Lib.join (xs.map (·.data.toList)) (⟨#[32]⟩ : ByteArray).data.toList).length ≤ 140737488355328 := by
    have hj := joinW_le 20 (xs.map (·.data.toList)) (by
      intro l hl
      obtain ⟨x, hx, rfl⟩ := List.mem_map.1 hl
      simpa using hsz x hx)
    rw [List.length_map] at hj
    rw [show (⟨#[32]⟩ : ByteArray).data.toList = [32] from rfl, join_is]
    omega
  refine (Tryd.strings_Join g 0 cap xs ⟨#[32]⟩ w (fun j x hj => ?_) hlt (by omega) hnc hlen).mono ?_
  · rw [Nat.zero_add, cell_of_row w g j cur 9 (0, 0) hh]
    have hjl : j < xs.length := (List.getElem?_eq_some_iff.1 hj).1
    have h2 : (cur.toList.take xs.length)[j]? = some (.string x) := by rw [hx, List.getElem?_map, hj]; rfl
    rw [List.getElem?_take, if_pos hjl] at h2
    simpa using h2
  · rintro e w' ⟨rfl, hb⟩
    refine ⟨?_, hb⟩
    rw [show (⟨#[32]⟩ : ByteArray).data.toList = [32] from rfl, join_is]
    rfl

theorem head_size (k : Int) : (headB k).size ≤ 20 := by
  have := headL_len k
  simpa [headB, asB, ByteArray.size] using this
theorem orS_star (s : ByteArray) : orS s ⟨#[42]⟩ = starB s := by
  unfold orS starB starL
  by_cases h : s.size = 0
  · rw [if_pos h, if_pos (size_zero h)]; rfl
  · rw [if_neg h, if_neg (size_nz h)]; rfl
theorem box_uses (w : World) (a b c : Bool) : ∃ (g : Nat) (w1 : World), g = w.heap.size ∧ w1 = w.alloc (.cells #[.bool a, .bool b, .bool c] 54) ∧ w1.cell? ⟨g, 0, none⟩ = some (.bool a) ∧ w1.cell? ⟨g, 1, none⟩ = some (.bool b) ∧ w1.cell? ⟨g, 2, none⟩ = some (.bool c) ∧ Ext w w1 :=
  ⟨_, _, rfl, rfl, by go_simp, by go_simp, by go_simp, (Ext.refl _).alloc _⟩

set_option maxRecDepth 100000 in
set_option maxHeartbeats 3200000 in
theorem s_Text1 (an : Int) (anm aky afr ato : ByteArray) (w : World) (hok : chkR ⟨1, an, anm, aky, afr, ato⟩ = 0) : Calls Tryd.prog 13 #[.agg #[.int .i64 1, .int .i64 an, .string anm, .string aky, .string afr, .string ato]] w fun e w' => e = .returned (.string (asB (textL ⟨1, an, anm, aky, afr, ato⟩))) ∧ Ext w w' := by
  obtain ⟨-, -, hnum, hk1, hk2, hnm, hky, hfr, hto⟩ := chkR_ok hok
  simp only at hnum hk1 hk2 hnm hky hfr hto
  have z1 := name_size hnm
  have z2 : aky.size ≤ 20 := by exact name_size (hky rfl)
  have z3 := star_size hfr
  have z4 := star_size hto
  have z5 := word_size an
  have z7 := head_size 1
  clear hnum
  have HT := Lib.hid (show textL ⟨1, an, anm, aky, afr, ato⟩ = joinW ([headB 1, anm, aky].map (·.data.toList)) by unfold textL; rw [if_pos hok]; rfl)
  have HS := Lib.hid (show ∀ x ∈ [headB 1, anm, aky], x.size ≤ 20 by
    intro x hx
    simp only [List.mem_cons, List.not_mem_nil, or_false] at hx
    rcases hx with rfl | rfl | rfl <;> omega)
  clear hk1 hk2 hnm hky hfr hto z1 z2 z3 z4 z5 z7
  have HC := Lib.hid (fun W => s_Check ⟨1, an, anm, aky, afr, ato⟩ W)
  have HF := Lib.hid (fun W => (by exact s_fields 1 W : Calls Tryd.prog 26 #[.int .i64 1] W fun e w' => e = .returned (.tuple #[.agg #[.bool true, .bool false, .bool false], .bool true]) ∧ Below W.heap.size W w'))
  have HOK := Lib.hid hok
  obtain ⟨g, w1, hg, hw1, hb, hx, -⟩ := box_rule w ⟨1, an, anm, aky, afr, ato⟩ 23
  obtain ⟨c0, c1, c2, c3, c4, c5⟩ := id hb
  simp only at c0 c1 c2 c3 c4 c5 hw1
  have HW1 := Lib.hid hw1
  have HG := Lib.hid hg
  clear hw1 hg hok
  go_enter Tryd.func13, Tryd.ntmps13
  go_wp2_with fail
  rw [← HW1.out, ← HG.out]
  go_wp2_with fail
  refine (HC.out _).mono ?_
  rintro e w2 ⟨rfl, hb2⟩
  have hb2 : Ext w1 w2 := hb2
  replace hb := hb.ext hb2
  replace hx := hx.trans hb2
  rw [HOK.out]
  clear c0 c1 c2 c3 c4 c5 hb2 HW1 HG HC HOK
  have MK := Lib.hid (fun V (e : Ext w2 V) => mk_one hb e)
  go_wp2_with fail
  refine wp_region_held_drew (S := (fun V => V.cell? ⟨g, 0, none⟩ = some (.int .i64 1) ∧ V.cell? ⟨g, 1, none⟩ = some (.int .i64 an) ∧ V.cell? ⟨g, 2, none⟩ = some (.string anm) ∧ V.cell? ⟨g, 3, none⟩ = some (.string aky) ∧ V.cell? ⟨g, 4, none⟩ = some (.string afr) ∧ V.cell? ⟨g, 5, none⟩ = some (.string ato) ∧ Ext w2 V)) (by kernel_rfl) ?hs1 (fun hHeld => ?go1)
  case hs1 => (exact MK.out _ (by repeat (first | with_reducible exact Ext.refl _ | with_reducible assumption | with_reducible refine Ext.drew ?_ | with_reducible refine Ext.drewN ?_ _ | with_reducible refine Ext.alloc ?_ _)))
  refine wpAnyH_take (i := 0) (oi := { dst := (some 9), op := (Op.fieldAddr 23 (Operand.tmp 1) 0), type := 0, pos := "schema.go:139", after := #[], guard := none }) (v := ?v2) rfl (by kernel_rfl) (by kernel_rfl) (by kernel_rfl) (fun _ _ _ h => h) (Or.inl ⟨rfl, ?hy2⟩) hHeld ?rest2
  case hy2 => (intro w hSw; (try dsimp only at hSw); go_simp <;> first | with_reducible rfl | rw [if_neg (by omega)] | rw [if_pos (by omega)])
  (try simp only [Act.put]); (try simp only [List.setIfInBounds_toArray]); (try simp only [List.set_cons_succ]); (try simp only [List.set_cons_zero])
  refine wpAnyH_take (i := 1) (oi := { dst := (some 10), op := (Op.load 3 (Operand.tmp 9)), type := 3, pos := "schema.go:139", after := #[{ on := 0, ground := Ground.data }], guard := none }) (v := ?v3) rfl (by kernel_rfl) (by kernel_rfl) (by kernel_rfl) (fun _ _ _ h => h) (Or.inl ⟨rfl, ?hy3⟩) hHeld ?rest3
  case hy3 => (intro w hSw; (try dsimp only at hSw); go_simp <;> first | with_reducible rfl | rw [if_neg (by omega)] | rw [if_pos (by omega)])
  (try simp only [Act.put]); (try simp only [List.setIfInBounds_toArray]); (try simp only [List.set_cons_succ]); (try simp only [List.set_cons_zero])
  refine wpAnyH_take (i := 3) (oi := { dst := (some 12), op := (Op.fieldAddr 23 (Operand.tmp 1) 2), type := 0, pos := "schema.go:139", after := #[], guard := none }) (v := ?v4) rfl (by kernel_rfl) (by kernel_rfl) (by kernel_rfl) (fun _ _ _ h => h) (Or.inl ⟨rfl, ?hy4⟩) hHeld ?rest4
  case hy4 => (intro w hSw; (try dsimp only at hSw); go_simp <;> first | with_reducible rfl | rw [if_neg (by omega)] | rw [if_pos (by omega)])
  (try simp only [Act.put]); (try simp only [List.setIfInBounds_toArray]); (try simp only [List.set_cons_succ]); (try simp only [List.set_cons_zero])
  refine wpAnyH_take (i := 4) (oi := { dst := (some 13), op := (Op.load 9 (Operand.tmp 12)), type := 9, pos := "schema.go:139", after := #[{ on := 3, ground := Ground.data }], guard := none }) (v := ?v5) rfl (by kernel_rfl) (by kernel_rfl) (by kernel_rfl) (fun _ _ _ h => h) (Or.inl ⟨rfl, ?hy5⟩) hHeld ?rest5
  case hy5 => (intro w hSw; (try dsimp only at hSw); go_simp <;> first | with_reducible rfl | rw [if_neg (by omega)] | rw [if_pos (by omega)])
  (try simp only [Act.put]); (try simp only [List.setIfInBounds_toArray]); (try simp only [List.set_cons_succ]); (try simp only [List.set_cons_zero])
  refine wpAnyH_ready (rs := [2]) (by kernel_rfl) (by simp) ?_
  refine AllReadyH.cons (o := { dst := (some 11), op := (Op.call { callee := (Callee.value (Operand.func 24)), args := #[(Operand.tmp 10)], argTypes := #[3] }), type := 9, pos := "schema.go:139", after := #[{ on := 1, ground := Ground.data }], guard := none }) rfl (fun K hK => ?step6x0) ?more6x0
  case more6x0 => exact AllReadyH.nil
  go_simp
  (go_at_call 24; refine (s_head 1 _ (by decide) (by decide)).mono ?_; rintro e w' ⟨rfl, rfl⟩)
  refine hK.out _ _ ?hS6x0 (fun hHeld6 => ?rest6x0)
  case hS6x0 => first | (exact MK.out _ (by repeat (first | with_reducible exact Ext.refl _ | with_reducible assumption | with_reducible refine Ext.drew ?_ | with_reducible refine Ext.drewN ?_ _ | with_reducible refine Ext.alloc ?_ _))) | ((try dsimp only); (exact MK.out _ (by repeat (first | with_reducible exact Ext.refl _ | with_reducible assumption | with_reducible refine Ext.drew ?_ | with_reducible refine Ext.drewN ?_ _ | with_reducible refine Ext.alloc ?_ _))))
  clear hK K
  clear hHeld
  (try simp only [Act.put]); (try simp only [List.setIfInBounds_toArray]); (try simp only [List.set_cons_succ]); (try simp only [List.set_cons_zero])
  refine wpAnyH_ready (rs := [5]) (by kernel_rfl) (by simp) ?_
  refine AllReadyH.cons (o := { dst := (some 14), op := (Op.buildSlice 51 2 #[(0, (Operand.tmp 11)), (1, (Operand.tmp 13))]), type := 51, pos := "schema.go:139", after := #[{ on := 2, ground := Ground.data }, { on := 4, ground := Ground.data }], guard := none }) rfl (fun K hK => ?step7x0) ?more7x0
  case more7x0 => exact AllReadyH.nil
  go_simp
  refine hK.out _ _ ?hS7x0 (fun hHeld7 => ?rest7x0)
  case hS7x0 => first | (exact MK.out _ (by repeat (first | with_reducible exact Ext.refl _ | with_reducible assumption | with_reducible refine Ext.drew ?_ | with_reducible refine Ext.drewN ?_ _ | with_reducible refine Ext.alloc ?_ _))) | ((try dsimp only); (exact MK.out _ (by repeat (first | with_reducible exact Ext.refl _ | with_reducible assumption | with_reducible refine Ext.drew ?_ | with_reducible refine Ext.drewN ?_ _ | with_reducible refine Ext.alloc ?_ _))))
  clear hK K
  clear hHeld6
  (try simp only [Act.put]); (try simp only [List.setIfInBounds_toArray]); (try simp only [List.set_cons_succ]); (try simp only [List.set_cons_zero])
  refine wpAnyH_take (i := 6) (oi := { dst := (some 3), op := (Op.assign (Operand.tmp 14)), type := 51, pos := "schema.go:139", after := #[{ on := 5, ground := Ground.data }, { on := 2, ground := Ground.chain }, { on := 0, ground := Ground.phase }, { on := 1, ground := Ground.phase }, { on := 2, ground := Ground.phase }, { on := 3, ground := Ground.phase }, { on := 4, ground := Ground.phase }, { on := 5, ground := Ground.phase }], guard := none }) (v := ?v8) rfl (by kernel_rfl) (by kernel_rfl) (by kernel_rfl) (fun _ _ _ h => h) (Or.inl ⟨rfl, ?hy8⟩) hHeld7 ?rest8
  case hy8 => (intro w hSw; (try dsimp only at hSw); go_simp <;> first | with_reducible rfl | rw [if_neg (by omega)] | rw [if_pos (by omega)])
  (try simp only [Act.put]); (try simp only [List.setIfInBounds_toArray]); (try simp only [List.set_cons_succ]); (try simp only [List.set_cons_zero])
  refine wpAnyH_done (by kernel_rfl) ?_ _
  clear hHeld7
  obtain ⟨c0, c1, c2, c3, c4, c5, -⟩ := MK.out ((w2.alloc (.cells #[.string (headB 1), .string anm] 9)).drew) (by repeat (first | with_reducible exact Ext.refl _ | with_reducible assumption | with_reducible refine Ext.drew ?_ | with_reducible refine Ext.drewN ?_ _ | with_reducible refine Ext.alloc ?_ _))
  go_wp2_with fail
  refine (HF.out _).mono ?_
  rintro e w4 ⟨rfl, hb4⟩
  have hb4 : Ext (w2.alloc (.cells #[.string (headB 1), .string anm] 9)).drew w4 := hb4
  replace hb4 : Ext (w2.alloc (.cells #[.string (headB 1), .string anm] 9)) w4 := ((Ext.refl _).drew).trans hb4
  have hE4 : Ext w2 w4 := Ext.trans (by repeat (first | with_reducible exact Ext.refl _ | with_reducible assumption | with_reducible refine Ext.drew ?_ | with_reducible refine Ext.drewN ?_ _ | with_reducible refine Ext.alloc ?_ _)) hb4
  have hown4 := own_ext (World.ownsRow_lit (size := 1) (e := 9) w2 #[.string (headB 1), .string anm] 2 (Nat.le_refl _) (by unfold maxLen; omega) rfl) hb4
  clear c0 c1 c2 c3 c4 c5 hb4 HF
  obtain ⟨g5, w5, hg5, hw5, u0, u1, u2, hE5⟩ := box_uses w4 true false false
  have HW5 := Lib.hid hw5
  have HG5 := Lib.hid hg5
  clear hw5 hg5
  go_upto_region 6 with (fail)
  rw [← HW5.out, ← HG5.out]
  have hown5 := own_ext hown4 hE5
  replace hE5 := hE4.trans hE5
  clear HW5 HG5 hown4 hE4
  obtain ⟨c0, c1, c2, c3, c4, c5⟩ := id (hb.ext hE5)
  simp only at c0 c1 c2 c3 c4 c5
  have HO := Lib.hid hown5
  clear hown5
  go_wp2_with (at_builtin; refine own_push T_str rfl (.tmp 45) (.tmp 48) rfl w2 w5 _ 2 _ (strC aky) rfl HO.out hE5 rfl rfl (strC_len _) (strC_one _) (by omega) (by decide) ?_; intro v2 w6 hown6 hE6)
  go_wp2_with fail
  refine (s_Join [headB 1, anm, aky] _ v2 w6 hown6 (by simp) (by simp) HS.out).mono ?_
  rintro e w8 ⟨rfl, hE8⟩
  go_wp2_with fail
  go_ret
  exact ⟨by rw [HT.out]; rfl, (hx.trans hE6).trans hE8⟩

set_option maxRecDepth 100000 in
set_option maxHeartbeats 3200000 in
theorem s_Text2 (an : Int) (anm aky afr ato : ByteArray) (w : World) (hok : chkR ⟨2, an, anm, aky, afr, ato⟩ = 0) : Calls Tryd.prog 13 #[.agg #[.int .i64 2, .int .i64 an, .string anm, .string aky, .string afr, .string ato]] w fun e w' => e = .returned (.string (asB (textL ⟨2, an, anm, aky, afr, ato⟩))) ∧ Ext w w' := by
  obtain ⟨-, -, hnum, hk1, hk2, hnm, hky, hfr, hto⟩ := chkR_ok hok
  simp only at hnum hk1 hk2 hnm hky hfr hto
  have z1 := name_size hnm
  have z2 : aky.size ≤ 20 := by exact name_size (hky rfl)
  have z3 := star_size hfr
  have z4 := star_size hto
  have z5 := word_size an
  have z7 := head_size 2
  clear hnum
  have HT := Lib.hid (show textL ⟨2, an, anm, aky, afr, ato⟩ = joinW ([headB 2, anm, aky].map (·.data.toList)) by unfold textL; rw [if_pos hok]; rfl)
  have HS := Lib.hid (show ∀ x ∈ [headB 2, anm, aky], x.size ≤ 20 by
    intro x hx
    simp only [List.mem_cons, List.not_mem_nil, or_false] at hx
    rcases hx with rfl | rfl | rfl <;> omega)
  clear hk1 hk2 hnm hky hfr hto z1 z2 z3 z4 z5 z7
  have HC := Lib.hid (fun W => s_Check ⟨2, an, anm, aky, afr, ato⟩ W)
  have HF := Lib.hid (fun W => (by exact s_fields 2 W : Calls Tryd.prog 26 #[.int .i64 2] W fun e w' => e = .returned (.tuple #[.agg #[.bool true, .bool false, .bool false], .bool true]) ∧ Below W.heap.size W w'))
  have HOK := Lib.hid hok
  obtain ⟨g, w1, hg, hw1, hb, hx, -⟩ := box_rule w ⟨2, an, anm, aky, afr, ato⟩ 23
  obtain ⟨c0, c1, c2, c3, c4, c5⟩ := id hb
  simp only at c0 c1 c2 c3 c4 c5 hw1
  have HW1 := Lib.hid hw1
  have HG := Lib.hid hg
  clear hw1 hg hok
  go_enter Tryd.func13, Tryd.ntmps13
  go_wp2_with fail
  rw [← HW1.out, ← HG.out]
  go_wp2_with fail
  refine (HC.out _).mono ?_
  rintro e w2 ⟨rfl, hb2⟩
  have hb2 : Ext w1 w2 := hb2
  replace hb := hb.ext hb2
  replace hx := hx.trans hb2
  rw [HOK.out]
  clear c0 c1 c2 c3 c4 c5 hb2 HW1 HG HC HOK
  have MK := Lib.hid (fun V (e : Ext w2 V) => mk_one hb e)
  go_wp2_with fail
  refine wp_region_held_drew (S := (fun V => V.cell? ⟨g, 0, none⟩ = some (.int .i64 2) ∧ V.cell? ⟨g, 1, none⟩ = some (.int .i64 an) ∧ V.cell? ⟨g, 2, none⟩ = some (.string anm) ∧ V.cell? ⟨g, 3, none⟩ = some (.string aky) ∧ V.cell? ⟨g, 4, none⟩ = some (.string afr) ∧ V.cell? ⟨g, 5, none⟩ = some (.string ato) ∧ Ext w2 V)) (by kernel_rfl) ?hs9 (fun hHeld => ?go9)
  case hs9 => (exact MK.out _ (by repeat (first | with_reducible exact Ext.refl _ | with_reducible assumption | with_reducible refine Ext.drew ?_ | with_reducible refine Ext.drewN ?_ _ | with_reducible refine Ext.alloc ?_ _)))
  refine wpAnyH_take (i := 0) (oi := { dst := (some 9), op := (Op.fieldAddr 23 (Operand.tmp 1) 0), type := 0, pos := "schema.go:139", after := #[], guard := none }) (v := ?v10) rfl (by kernel_rfl) (by kernel_rfl) (by kernel_rfl) (fun _ _ _ h => h) (Or.inl ⟨rfl, ?hy10⟩) hHeld ?rest10
  case hy10 => (intro w hSw; (try dsimp only at hSw); go_simp <;> first | with_reducible rfl | rw [if_neg (by omega)] | rw [if_pos (by omega)])
  (try simp only [Act.put]); (try simp only [List.setIfInBounds_toArray]); (try simp only [List.set_cons_succ]); (try simp only [List.set_cons_zero])
  refine wpAnyH_take (i := 1) (oi := { dst := (some 10), op := (Op.load 3 (Operand.tmp 9)), type := 3, pos := "schema.go:139", after := #[{ on := 0, ground := Ground.data }], guard := none }) (v := ?v11) rfl (by kernel_rfl) (by kernel_rfl) (by kernel_rfl) (fun _ _ _ h => h) (Or.inl ⟨rfl, ?hy11⟩) hHeld ?rest11
  case hy11 => (intro w hSw; (try dsimp only at hSw); go_simp <;> first | with_reducible rfl | rw [if_neg (by omega)] | rw [if_pos (by omega)])
  (try simp only [Act.put]); (try simp only [List.setIfInBounds_toArray]); (try simp only [List.set_cons_succ]); (try simp only [List.set_cons_zero])
  refine wpAnyH_take (i := 3) (oi := { dst := (some 12), op := (Op.fieldAddr 23 (Operand.tmp 1) 2), type := 0, pos := "schema.go:139", after := #[], guard := none }) (v := ?v12) rfl (by kernel_rfl) (by kernel_rfl) (by kernel_rfl) (fun _ _ _ h => h) (Or.inl ⟨rfl, ?hy12⟩) hHeld ?rest12
  case hy12 => (intro w hSw; (try dsimp only at hSw); go_simp <;> first | with_reducible rfl | rw [if_neg (by omega)] | rw [if_pos (by omega)])
  (try simp only [Act.put]); (try simp only [List.setIfInBounds_toArray]); (try simp only [List.set_cons_succ]); (try simp only [List.set_cons_zero])
  refine wpAnyH_take (i := 4) (oi := { dst := (some 13), op := (Op.load 9 (Operand.tmp 12)), type := 9, pos := "schema.go:139", after := #[{ on := 3, ground := Ground.data }], guard := none }) (v := ?v13) rfl (by kernel_rfl) (by kernel_rfl) (by kernel_rfl) (fun _ _ _ h => h) (Or.inl ⟨rfl, ?hy13⟩) hHeld ?rest13
  case hy13 => (intro w hSw; (try dsimp only at hSw); go_simp <;> first | with_reducible rfl | rw [if_neg (by omega)] | rw [if_pos (by omega)])
  (try simp only [Act.put]); (try simp only [List.setIfInBounds_toArray]); (try simp only [List.set_cons_succ]); (try simp only [List.set_cons_zero])
  refine wpAnyH_ready (rs := [2]) (by kernel_rfl) (by simp) ?_
  refine AllReadyH.cons (o := { dst := (some 11), op := (Op.call { callee := (Callee.value (Operand.func 24)), args := #[(Operand.tmp 10)], argTypes := #[3] }), type := 9, pos := "schema.go:139", after := #[{ on := 1, ground := Ground.data }], guard := none }) rfl (fun K hK => ?step14x0) ?more14x0
  case more14x0 => exact AllReadyH.nil
  go_simp
  (go_at_call 24; refine (s_head 2 _ (by decide) (by decide)).mono ?_; rintro e w' ⟨rfl, rfl⟩)
  refine hK.out _ _ ?hS14x0 (fun hHeld14 => ?rest14x0)
  case hS14x0 => first | (exact MK.out _ (by repeat (first | with_reducible exact Ext.refl _ | with_reducible assumption | with_reducible refine Ext.drew ?_ | with_reducible refine Ext.drewN ?_ _ | with_reducible refine Ext.alloc ?_ _))) | ((try dsimp only); (exact MK.out _ (by repeat (first | with_reducible exact Ext.refl _ | with_reducible assumption | with_reducible refine Ext.drew ?_ | with_reducible refine Ext.drewN ?_ _ | with_reducible refine Ext.alloc ?_ _))))
  clear hK K
  clear hHeld
  (try simp only [Act.put]); (try simp only [List.setIfInBounds_toArray]); (try simp only [List.set_cons_succ]); (try simp only [List.set_cons_zero])
  refine wpAnyH_ready (rs := [5]) (by kernel_rfl) (by simp) ?_
  refine AllReadyH.cons (o := { dst := (some 14), op := (Op.buildSlice 51 2 #[(0, (Operand.tmp 11)), (1, (Operand.tmp 13))]), type := 51, pos := "schema.go:139", after := #[{ on := 2, ground := Ground.data }, { on := 4, ground := Ground.data }], guard := none }) rfl (fun K hK => ?step15x0) ?more15x0
  case more15x0 => exact AllReadyH.nil
  go_simp
  refine hK.out _ _ ?hS15x0 (fun hHeld15 => ?rest15x0)
  case hS15x0 => first | (exact MK.out _ (by repeat (first | with_reducible exact Ext.refl _ | with_reducible assumption | with_reducible refine Ext.drew ?_ | with_reducible refine Ext.drewN ?_ _ | with_reducible refine Ext.alloc ?_ _))) | ((try dsimp only); (exact MK.out _ (by repeat (first | with_reducible exact Ext.refl _ | with_reducible assumption | with_reducible refine Ext.drew ?_ | with_reducible refine Ext.drewN ?_ _ | with_reducible refine Ext.alloc ?_ _))))
  clear hK K
  clear hHeld14
  (try simp only [Act.put]); (try simp only [List.setIfInBounds_toArray]); (try simp only [List.set_cons_succ]); (try simp only [List.set_cons_zero])
  refine wpAnyH_take (i := 6) (oi := { dst := (some 3), op := (Op.assign (Operand.tmp 14)), type := 51, pos := "schema.go:139", after := #[{ on := 5, ground := Ground.data }, { on := 2, ground := Ground.chain }, { on := 0, ground := Ground.phase }, { on := 1, ground := Ground.phase }, { on := 2, ground := Ground.phase }, { on := 3, ground := Ground.phase }, { on := 4, ground := Ground.phase }, { on := 5, ground := Ground.phase }], guard := none }) (v := ?v16) rfl (by kernel_rfl) (by kernel_rfl) (by kernel_rfl) (fun _ _ _ h => h) (Or.inl ⟨rfl, ?hy16⟩) hHeld15 ?rest16
  case hy16 => (intro w hSw; (try dsimp only at hSw); go_simp <;> first | with_reducible rfl | rw [if_neg (by omega)] | rw [if_pos (by omega)])
  (try simp only [Act.put]); (try simp only [List.setIfInBounds_toArray]); (try simp only [List.set_cons_succ]); (try simp only [List.set_cons_zero])
  refine wpAnyH_done (by kernel_rfl) ?_ _
  clear hHeld15
  obtain ⟨c0, c1, c2, c3, c4, c5, -⟩ := MK.out ((w2.alloc (.cells #[.string (headB 2), .string anm] 9)).drew) (by repeat (first | with_reducible exact Ext.refl _ | with_reducible assumption | with_reducible refine Ext.drew ?_ | with_reducible refine Ext.drewN ?_ _ | with_reducible refine Ext.alloc ?_ _))
  go_wp2_with fail
  refine (HF.out _).mono ?_
  rintro e w4 ⟨rfl, hb4⟩
  have hb4 : Ext (w2.alloc (.cells #[.string (headB 2), .string anm] 9)).drew w4 := hb4
  replace hb4 : Ext (w2.alloc (.cells #[.string (headB 2), .string anm] 9)) w4 := ((Ext.refl _).drew).trans hb4
  have hE4 : Ext w2 w4 := Ext.trans (by repeat (first | with_reducible exact Ext.refl _ | with_reducible assumption | with_reducible refine Ext.drew ?_ | with_reducible refine Ext.drewN ?_ _ | with_reducible refine Ext.alloc ?_ _)) hb4
  have hown4 := own_ext (World.ownsRow_lit (size := 1) (e := 9) w2 #[.string (headB 2), .string anm] 2 (Nat.le_refl _) (by unfold maxLen; omega) rfl) hb4
  clear c0 c1 c2 c3 c4 c5 hb4 HF
  obtain ⟨g5, w5, hg5, hw5, u0, u1, u2, hE5⟩ := box_uses w4 true false false
  have HW5 := Lib.hid hw5
  have HG5 := Lib.hid hg5
  clear hw5 hg5
  go_upto_region 6 with (fail)
  rw [← HW5.out, ← HG5.out]
  have hown5 := own_ext hown4 hE5
  replace hE5 := hE4.trans hE5
  clear HW5 HG5 hown4 hE4
  obtain ⟨c0, c1, c2, c3, c4, c5⟩ := id (hb.ext hE5)
  simp only at c0 c1 c2 c3 c4 c5
  have HO := Lib.hid hown5
  clear hown5
  go_wp2_with (at_builtin; refine own_push T_str rfl (.tmp 45) (.tmp 48) rfl w2 w5 _ 2 _ (strC aky) rfl HO.out hE5 rfl rfl (strC_len _) (strC_one _) (by omega) (by decide) ?_; intro v2 w6 hown6 hE6)
  go_wp2_with fail
  refine (s_Join [headB 2, anm, aky] _ v2 w6 hown6 (by simp) (by simp) HS.out).mono ?_
  rintro e w8 ⟨rfl, hE8⟩
  go_wp2_with fail
  go_ret
  exact ⟨by rw [HT.out]; rfl, (hx.trans hE6).trans hE8⟩

set_option maxRecDepth 100000 in
set_option maxHeartbeats 3200000 in
theorem s_Text3 (an : Int) (anm aky afr ato : ByteArray) (w : World) (hok : chkR ⟨3, an, anm, aky, afr, ato⟩ = 0) : Calls Tryd.prog 13 #[.agg #[.int .i64 3, .int .i64 an, .string anm, .string aky, .string afr, .string ato]] w fun e w' => e = .returned (.string (asB (textL ⟨3, an, anm, aky, afr, ato⟩))) ∧ Ext w w' := by
  obtain ⟨-, -, hnum, hk1, hk2, hnm, hky, hfr, hto⟩ := chkR_ok hok
  simp only at hnum hk1 hk2 hnm hky hfr hto
  have z1 := name_size hnm
  have z2 : aky.size ≤ 20 := by exact name_size (hky rfl)
  have z3 := star_size hfr
  have z4 := star_size hto
  have z5 := word_size an
  have z7 := head_size 3
  clear hnum
  have HT := Lib.hid (show textL ⟨3, an, anm, aky, afr, ato⟩ = joinW ([headB 3, anm, aky, wordB an].map (·.data.toList)) by unfold textL; rw [if_pos hok]; rfl)
  have HS := Lib.hid (show ∀ x ∈ [headB 3, anm, aky, wordB an], x.size ≤ 20 by
    intro x hx
    simp only [List.mem_cons, List.not_mem_nil, or_false] at hx
    rcases hx with rfl | rfl | rfl | rfl <;> omega)
  clear hk1 hk2 hnm hky hfr hto z1 z2 z3 z4 z5 z7
  have HC := Lib.hid (fun W => s_Check ⟨3, an, anm, aky, afr, ato⟩ W)
  have HF := Lib.hid (fun W => (by exact s_fields 3 W : Calls Tryd.prog 26 #[.int .i64 3] W fun e w' => e = .returned (.tuple #[.agg #[.bool true, .bool true, .bool false], .bool true]) ∧ Below W.heap.size W w'))
  have HOK := Lib.hid hok
  obtain ⟨g, w1, hg, hw1, hb, hx, -⟩ := box_rule w ⟨3, an, anm, aky, afr, ato⟩ 23
  obtain ⟨c0, c1, c2, c3, c4, c5⟩ := id hb
  simp only at c0 c1 c2 c3 c4 c5 hw1
  have HW1 := Lib.hid hw1
  have HG := Lib.hid hg
  clear hw1 hg hok
  go_enter Tryd.func13, Tryd.ntmps13
  go_wp2_with fail
  rw [← HW1.out, ← HG.out]
  go_wp2_with fail
  refine (HC.out _).mono ?_
  rintro e w2 ⟨rfl, hb2⟩
  have hb2 : Ext w1 w2 := hb2
  replace hb := hb.ext hb2
  replace hx := hx.trans hb2
  rw [HOK.out]
  clear c0 c1 c2 c3 c4 c5 hb2 HW1 HG HC HOK
  have MK := Lib.hid (fun V (e : Ext w2 V) => mk_one hb e)
  go_wp2_with fail
  refine wp_region_held_drew (S := (fun V => V.cell? ⟨g, 0, none⟩ = some (.int .i64 3) ∧ V.cell? ⟨g, 1, none⟩ = some (.int .i64 an) ∧ V.cell? ⟨g, 2, none⟩ = some (.string anm) ∧ V.cell? ⟨g, 3, none⟩ = some (.string aky) ∧ V.cell? ⟨g, 4, none⟩ = some (.string afr) ∧ V.cell? ⟨g, 5, none⟩ = some (.string ato) ∧ Ext w2 V)) (by kernel_rfl) ?hs17 (fun hHeld => ?go17)
  case hs17 => (exact MK.out _ (by repeat (first | with_reducible exact Ext.refl _ | with_reducible assumption | with_reducible refine Ext.drew ?_ | with_reducible refine Ext.drewN ?_ _ | with_reducible refine Ext.alloc ?_ _)))
  refine wpAnyH_take (i := 0) (oi := { dst := (some 9), op := (Op.fieldAddr 23 (Operand.tmp 1) 0), type := 0, pos := "schema.go:139", after := #[], guard := none }) (v := ?v18) rfl (by kernel_rfl) (by kernel_rfl) (by kernel_rfl) (fun _ _ _ h => h) (Or.inl ⟨rfl, ?hy18⟩) hHeld ?rest18
  case hy18 => (intro w hSw; (try dsimp only at hSw); go_simp <;> first | with_reducible rfl | rw [if_neg (by omega)] | rw [if_pos (by omega)])
  (try simp only [Act.put]); (try simp only [List.setIfInBounds_toArray]); (try simp only [List.set_cons_succ]); (try simp only [List.set_cons_zero])
  refine wpAnyH_take (i := 1) (oi := { dst := (some 10), op := (Op.load 3 (Operand.tmp 9)), type := 3, pos := "schema.go:139", after := #[{ on := 0, ground := Ground.data }], guard := none }) (v := ?v19) rfl (by kernel_rfl) (by kernel_rfl) (by kernel_rfl) (fun _ _ _ h => h) (Or.inl ⟨rfl, ?hy19⟩) hHeld ?rest19
  case hy19 => (intro w hSw; (try dsimp only at hSw); go_simp <;> first | with_reducible rfl | rw [if_neg (by omega)] | rw [if_pos (by omega)])
  (try simp only [Act.put]); (try simp only [List.setIfInBounds_toArray]); (try simp only [List.set_cons_succ]); (try simp only [List.set_cons_zero])
  refine wpAnyH_take (i := 3) (oi := { dst := (some 12), op := (Op.fieldAddr 23 (Operand.tmp 1) 2), type := 0, pos := "schema.go:139", after := #[], guard := none }) (v := ?v20) rfl (by kernel_rfl) (by kernel_rfl) (by kernel_rfl) (fun _ _ _ h => h) (Or.inl ⟨rfl, ?hy20⟩) hHeld ?rest20
  case hy20 => (intro w hSw; (try dsimp only at hSw); go_simp <;> first | with_reducible rfl | rw [if_neg (by omega)] | rw [if_pos (by omega)])
  (try simp only [Act.put]); (try simp only [List.setIfInBounds_toArray]); (try simp only [List.set_cons_succ]); (try simp only [List.set_cons_zero])
  refine wpAnyH_take (i := 4) (oi := { dst := (some 13), op := (Op.load 9 (Operand.tmp 12)), type := 9, pos := "schema.go:139", after := #[{ on := 3, ground := Ground.data }], guard := none }) (v := ?v21) rfl (by kernel_rfl) (by kernel_rfl) (by kernel_rfl) (fun _ _ _ h => h) (Or.inl ⟨rfl, ?hy21⟩) hHeld ?rest21
  case hy21 => (intro w hSw; (try dsimp only at hSw); go_simp <;> first | with_reducible rfl | rw [if_neg (by omega)] | rw [if_pos (by omega)])
  (try simp only [Act.put]); (try simp only [List.setIfInBounds_toArray]); (try simp only [List.set_cons_succ]); (try simp only [List.set_cons_zero])
  refine wpAnyH_ready (rs := [2]) (by kernel_rfl) (by simp) ?_
  refine AllReadyH.cons (o := { dst := (some 11), op := (Op.call { callee := (Callee.value (Operand.func 24)), args := #[(Operand.tmp 10)], argTypes := #[3] }), type := 9, pos := "schema.go:139", after := #[{ on := 1, ground := Ground.data }], guard := none }) rfl (fun K hK => ?step22x0) ?more22x0
  case more22x0 => exact AllReadyH.nil
  go_simp
  (go_at_call 24; refine (s_head 3 _ (by decide) (by decide)).mono ?_; rintro e w' ⟨rfl, rfl⟩)
  refine hK.out _ _ ?hS22x0 (fun hHeld22 => ?rest22x0)
  case hS22x0 => first | (exact MK.out _ (by repeat (first | with_reducible exact Ext.refl _ | with_reducible assumption | with_reducible refine Ext.drew ?_ | with_reducible refine Ext.drewN ?_ _ | with_reducible refine Ext.alloc ?_ _))) | ((try dsimp only); (exact MK.out _ (by repeat (first | with_reducible exact Ext.refl _ | with_reducible assumption | with_reducible refine Ext.drew ?_ | with_reducible refine Ext.drewN ?_ _ | with_reducible refine Ext.alloc ?_ _))))
  clear hK K
  clear hHeld
  (try simp only [Act.put]); (try simp only [List.setIfInBounds_toArray]); (try simp only [List.set_cons_succ]); (try simp only [List.set_cons_zero])
  refine wpAnyH_ready (rs := [5]) (by kernel_rfl) (by simp) ?_
  refine AllReadyH.cons (o := { dst := (some 14), op := (Op.buildSlice 51 2 #[(0, (Operand.tmp 11)), (1, (Operand.tmp 13))]), type := 51, pos := "schema.go:139", after := #[{ on := 2, ground := Ground.data }, { on := 4, ground := Ground.data }], guard := none }) rfl (fun K hK => ?step23x0) ?more23x0
  case more23x0 => exact AllReadyH.nil
  go_simp
  refine hK.out _ _ ?hS23x0 (fun hHeld23 => ?rest23x0)
  case hS23x0 => first | (exact MK.out _ (by repeat (first | with_reducible exact Ext.refl _ | with_reducible assumption | with_reducible refine Ext.drew ?_ | with_reducible refine Ext.drewN ?_ _ | with_reducible refine Ext.alloc ?_ _))) | ((try dsimp only); (exact MK.out _ (by repeat (first | with_reducible exact Ext.refl _ | with_reducible assumption | with_reducible refine Ext.drew ?_ | with_reducible refine Ext.drewN ?_ _ | with_reducible refine Ext.alloc ?_ _))))
  clear hK K
  clear hHeld22
  (try simp only [Act.put]); (try simp only [List.setIfInBounds_toArray]); (try simp only [List.set_cons_succ]); (try simp only [List.set_cons_zero])
  refine wpAnyH_take (i := 6) (oi := { dst := (some 3), op := (Op.assign (Operand.tmp 14)), type := 51, pos := "schema.go:139", after := #[{ on := 5, ground := Ground.data }, { on := 2, ground := Ground.chain }, { on := 0, ground := Ground.phase }, { on := 1, ground := Ground.phase }, { on := 2, ground := Ground.phase }, { on := 3, ground := Ground.phase }, { on := 4, ground := Ground.phase }, { on := 5, ground := Ground.phase }], guard := none }) (v := ?v24) rfl (by kernel_rfl) (by kernel_rfl) (by kernel_rfl) (fun _ _ _ h => h) (Or.inl ⟨rfl, ?hy24⟩) hHeld23 ?rest24
  case hy24 => (intro w hSw; (try dsimp only at hSw); go_simp <;> first | with_reducible rfl | rw [if_neg (by omega)] | rw [if_pos (by omega)])
  (try simp only [Act.put]); (try simp only [List.setIfInBounds_toArray]); (try simp only [List.set_cons_succ]); (try simp only [List.set_cons_zero])
  refine wpAnyH_done (by kernel_rfl) ?_ _
  clear hHeld23
  obtain ⟨c0, c1, c2, c3, c4, c5, -⟩ := MK.out ((w2.alloc (.cells #[.string (headB 3), .string anm] 9)).drew) (by repeat (first | with_reducible exact Ext.refl _ | with_reducible assumption | with_reducible refine Ext.drew ?_ | with_reducible refine Ext.drewN ?_ _ | with_reducible refine Ext.alloc ?_ _))
  go_wp2_with fail
  refine (HF.out _).mono ?_
  rintro e w4 ⟨rfl, hb4⟩
  have hb4 : Ext (w2.alloc (.cells #[.string (headB 3), .string anm] 9)).drew w4 := hb4
  replace hb4 : Ext (w2.alloc (.cells #[.string (headB 3), .string anm] 9)) w4 := ((Ext.refl _).drew).trans hb4
  have hE4 : Ext w2 w4 := Ext.trans (by repeat (first | with_reducible exact Ext.refl _ | with_reducible assumption | with_reducible refine Ext.drew ?_ | with_reducible refine Ext.drewN ?_ _ | with_reducible refine Ext.alloc ?_ _)) hb4
  have hown4 := own_ext (World.ownsRow_lit (size := 1) (e := 9) w2 #[.string (headB 3), .string anm] 2 (Nat.le_refl _) (by unfold maxLen; omega) rfl) hb4
  clear c0 c1 c2 c3 c4 c5 hb4 HF
  obtain ⟨g5, w5, hg5, hw5, u0, u1, u2, hE5⟩ := box_uses w4 true true false
  have HW5 := Lib.hid hw5
  have HG5 := Lib.hid hg5
  clear hw5 hg5
  go_upto_region 6 with (fail)
  rw [← HW5.out, ← HG5.out]
  have hown5 := own_ext hown4 hE5
  replace hE5 := hE4.trans hE5
  clear HW5 HG5 hown4 hE4
  obtain ⟨c0, c1, c2, c3, c4, c5⟩ := id (hb.ext hE5)
  simp only at c0 c1 c2 c3 c4 c5
  have HO := Lib.hid hown5
  clear hown5
  have MK5 := Lib.hid (fun V (e : Ext w2 V) => mk_one hb e)
  go_wp2_with fail
  refine wp_region_held_drew (S := (fun V => V.cell? ⟨g, 0, none⟩ = some (.int .i64 3) ∧ V.cell? ⟨g, 1, none⟩ = some (.int .i64 an) ∧ V.cell? ⟨g, 2, none⟩ = some (.string anm) ∧ V.cell? ⟨g, 3, none⟩ = some (.string aky) ∧ V.cell? ⟨g, 4, none⟩ = some (.string afr) ∧ V.cell? ⟨g, 5, none⟩ = some (.string ato) ∧ Ext w2 V)) (by kernel_rfl) ?hs25 (fun hHeld => ?go25)
  case hs25 => (exact MK5.out _ (by repeat (first | with_reducible exact Ext.refl _ | with_reducible assumption | with_reducible refine Ext.drew ?_ | with_reducible refine Ext.drewN ?_ _ | with_reducible refine Ext.alloc ?_ _)))
  refine wpAnyH_take (i := 0) (oi := { dst := (some 34), op := (Op.move (Operand.tmp 3)), type := 51, pos := "schema.go:142", after := #[], guard := none }) (v := ?v26) rfl (by kernel_rfl) (by kernel_rfl) (by kernel_rfl) (fun _ _ _ h => h) (Or.inl ⟨rfl, ?hy26⟩) hHeld ?rest26
  case hy26 => (intro w hSw; (try dsimp only at hSw); go_simp <;> first | with_reducible rfl | rw [if_neg (by omega)] | rw [if_pos (by omega)])
  (try simp only [Act.put]); (try simp only [List.setIfInBounds_toArray]); (try simp only [List.set_cons_succ]); (try simp only [List.set_cons_zero])
  refine wpAnyH_take (i := 1) (oi := { dst := (some 35), op := (Op.fieldAddr 23 (Operand.tmp 1) 3), type := 0, pos := "schema.go:142", after := #[], guard := none }) (v := ?v27) rfl (by kernel_rfl) (by kernel_rfl) (by kernel_rfl) (fun _ _ _ h => h) (Or.inl ⟨rfl, ?hy27⟩) hHeld ?rest27
  case hy27 => (intro w hSw; (try dsimp only at hSw); go_simp <;> first | with_reducible rfl | rw [if_neg (by omega)] | rw [if_pos (by omega)])
  (try simp only [Act.put]); (try simp only [List.setIfInBounds_toArray]); (try simp only [List.set_cons_succ]); (try simp only [List.set_cons_zero])
  refine wpAnyH_take (i := 2) (oi := { dst := (some 36), op := (Op.load 9 (Operand.tmp 35)), type := 9, pos := "schema.go:142", after := #[{ on := 1, ground := Ground.data }], guard := none }) (v := ?v28) rfl (by kernel_rfl) (by kernel_rfl) (by kernel_rfl) (fun _ _ _ h => h) (Or.inl ⟨rfl, ?hy28⟩) hHeld ?rest28
  case hy28 => (intro w hSw; (try dsimp only at hSw); go_simp <;> first | with_reducible rfl | rw [if_neg (by omega)] | rw [if_pos (by omega)])
  (try simp only [Act.put]); (try simp only [List.setIfInBounds_toArray]); (try simp only [List.set_cons_succ]); (try simp only [List.set_cons_zero])
  refine wpAnyH_take (i := 3) (oi := { dst := (some 37), op := (Op.fieldAddr 23 (Operand.tmp 1) 1), type := 0, pos := "schema.go:142", after := #[], guard := none }) (v := ?v29) rfl (by kernel_rfl) (by kernel_rfl) (by kernel_rfl) (fun _ _ _ h => h) (Or.inl ⟨rfl, ?hy29⟩) hHeld ?rest29
  case hy29 => (intro w hSw; (try dsimp only at hSw); go_simp <;> first | with_reducible rfl | rw [if_neg (by omega)] | rw [if_pos (by omega)])
  (try simp only [Act.put]); (try simp only [List.setIfInBounds_toArray]); (try simp only [List.set_cons_succ]); (try simp only [List.set_cons_zero])
  refine wpAnyH_take (i := 4) (oi := { dst := (some 38), op := (Op.load 3 (Operand.tmp 37)), type := 3, pos := "schema.go:142", after := #[{ on := 3, ground := Ground.data }], guard := none }) (v := ?v30) rfl (by kernel_rfl) (by kernel_rfl) (by kernel_rfl) (fun _ _ _ h => h) (Or.inl ⟨rfl, ?hy30⟩) hHeld ?rest30
  case hy30 => (intro w hSw; (try dsimp only at hSw); go_simp <;> first | with_reducible rfl | rw [if_neg (by omega)] | rw [if_pos (by omega)])
  (try simp only [Act.put]); (try simp only [List.setIfInBounds_toArray]); (try simp only [List.set_cons_succ]); (try simp only [List.set_cons_zero])
  refine wpAnyH_ready (rs := [5]) (by kernel_rfl) (by simp) ?_
  refine AllReadyH.cons (o := { dst := (some 39), op := (Op.call { callee := (Callee.value (Operand.func 30)), args := #[(Operand.tmp 38)], argTypes := #[3] }), type := 9, pos := "schema.go:142", after := #[{ on := 4, ground := Ground.data }], guard := none }) rfl (fun K hK => ?step31x0) ?more31x0
  case more31x0 => exact AllReadyH.nil
  go_simp
  (go_at_call 30; refine (s_kindText an _).mono ?_; rintro e w' ⟨rfl, rfl⟩)
  refine hK.out _ _ ?hS31x0 (fun hHeld31 => ?rest31x0)
  case hS31x0 => first | (exact MK5.out _ (by repeat (first | with_reducible exact Ext.refl _ | with_reducible assumption | with_reducible refine Ext.drew ?_ | with_reducible refine Ext.drewN ?_ _ | with_reducible refine Ext.alloc ?_ _))) | ((try dsimp only); (exact MK5.out _ (by repeat (first | with_reducible exact Ext.refl _ | with_reducible assumption | with_reducible refine Ext.drew ?_ | with_reducible refine Ext.drewN ?_ _ | with_reducible refine Ext.alloc ?_ _))))
  clear hK K
  clear hHeld
  (try simp only [Act.put]); (try simp only [List.setIfInBounds_toArray]); (try simp only [List.set_cons_succ]); (try simp only [List.set_cons_zero])
  refine wpAnyH_ready (rs := [6]) (by kernel_rfl) (by simp) ?_
  refine AllReadyH.cons (o := { dst := (some 40), op := (Op.buildSlice 51 2 #[(0, (Operand.tmp 36)), (1, (Operand.tmp 39))]), type := 51, pos := "schema.go:142", after := #[{ on := 2, ground := Ground.data }, { on := 5, ground := Ground.data }], guard := none }) rfl (fun K hK => ?step32x0) ?more32x0
  case more32x0 => exact AllReadyH.nil
  go_simp
  refine hK.out _ _ ?hS32x0 (fun hHeld32 => ?rest32x0)
  case hS32x0 => first | (exact MK5.out _ (by repeat (first | with_reducible exact Ext.refl _ | with_reducible assumption | with_reducible refine Ext.drew ?_ | with_reducible refine Ext.drewN ?_ _ | with_reducible refine Ext.alloc ?_ _))) | ((try dsimp only); (exact MK5.out _ (by repeat (first | with_reducible exact Ext.refl _ | with_reducible assumption | with_reducible refine Ext.drew ?_ | with_reducible refine Ext.drewN ?_ _ | with_reducible refine Ext.alloc ?_ _))))
  clear hK K
  clear hHeld31
  (try simp only [Act.put]); (try simp only [List.setIfInBounds_toArray]); (try simp only [List.set_cons_succ]); (try simp only [List.set_cons_zero])
  refine wpAnyH_ready (rs := [7]) (by kernel_rfl) (by simp) ?_
  refine AllReadyH.cons (o := { dst := (some 41), op := (Op.call { callee := (Callee.builtin Builtin.append), args := #[(Operand.tmp 34), (Operand.tmp 40)], argTypes := #[51, 51] }), type := 51, pos := "schema.go:142", after := #[{ on := 0, ground := Ground.data }, { on := 6, ground := Ground.data }, { on := 5, ground := Ground.chain }], guard := none }) rfl (fun K hK => ?step33x0) ?more33x0
  case more33x0 => exact AllReadyH.nil
  obtain ⟨v2, w6, hrun, hown6, hE6⟩ := own_run T_str w2 ((w5.alloc (.cells #[.string aky, .string (wordB an)] 9)).drew) (.slice (some ⟨w2.heap.size, 0, none⟩) 2 2) 2 _ (own_ext HO.out (by repeat (first | with_reducible exact Ext.refl _ | with_reducible assumption | with_reducible refine Ext.drew ?_ | with_reducible refine Ext.drewN ?_ _ | with_reducible refine Ext.alloc ?_ _))) (by repeat (first | with_reducible exact Ext.refl _ | with_reducible assumption | with_reducible refine Ext.drew ?_ | with_reducible refine Ext.drewN ?_ _ | with_reducible refine Ext.alloc ?_ _)) ⟨w5.heap.size, 0, none⟩ 2 2 [.string aky, .string (wordB an)] rfl (fun j u hj => by rw [Addr.add_mid]; show (w5.alloc _).cell? _ = _; rw [cell_of_row _ _ _ _ _ _ (heap_alloc_new w5 _), Nat.zero_add]; simpa using hj) (by intro u hu; simp only [List.mem_cons, List.not_mem_nil, or_false] at hu; rcases hu with rfl | rfl <;> rfl) (by omega) (by decide) 51; refine step_append_run' rfl (.tmp 34) (.tmp 40) 51 51 rfl _ _ rfl rfl hrun ?_
  refine hK.out _ _ ?hS33x0 (fun hHeld33 => ?rest33x0)
  case hS33x0 => first | (exact MK5.out _ (by repeat (first | with_reducible exact Ext.refl _ | with_reducible assumption | with_reducible refine Ext.drew ?_ | with_reducible refine Ext.drewN ?_ _ | with_reducible refine Ext.alloc ?_ _))) | ((try dsimp only); (exact MK5.out _ (by repeat (first | with_reducible exact Ext.refl _ | with_reducible assumption | with_reducible refine Ext.drew ?_ | with_reducible refine Ext.drewN ?_ _ | with_reducible refine Ext.alloc ?_ _))))
  clear hK K
  clear hHeld32
  (try simp only [Act.put]); (try simp only [List.setIfInBounds_toArray]); (try simp only [List.set_cons_succ]); (try simp only [List.set_cons_zero])
  refine wpAnyH_take (i := 8) (oi := { dst := (some 3), op := (Op.assign (Operand.tmp 41)), type := 51, pos := "schema.go:142", after := #[{ on := 7, ground := Ground.data }, { on := 7, ground := Ground.chain }, { on := 0, ground := Ground.phase }, { on := 1, ground := Ground.phase }, { on := 2, ground := Ground.phase }, { on := 3, ground := Ground.phase }, { on := 4, ground := Ground.phase }, { on := 5, ground := Ground.phase }, { on := 6, ground := Ground.phase }, { on := 7, ground := Ground.phase }], guard := none }) (v := ?v34) rfl (by kernel_rfl) (by kernel_rfl) (by kernel_rfl) (fun _ _ _ h => h) (Or.inl ⟨rfl, ?hy34⟩) hHeld33 ?rest34
  case hy34 => (intro w hSw; (try dsimp only at hSw); go_simp <;> first | with_reducible rfl | rw [if_neg (by omega)] | rw [if_pos (by omega)])
  (try simp only [Act.put]); (try simp only [List.setIfInBounds_toArray]); (try simp only [List.set_cons_succ]); (try simp only [List.set_cons_zero])
  refine wpAnyH_done (by kernel_rfl) ?_ _
  clear hHeld33
  go_wp2_with fail
  refine (s_Join [headB 3, anm, aky, wordB an] _ v2 w6 hown6 (by simp) (by simp) HS.out).mono ?_
  rintro e w8 ⟨rfl, hE8⟩
  go_wp2_with fail
  go_ret
  exact ⟨by rw [HT.out]; rfl, (hx.trans hE6).trans hE8⟩

set_option maxRecDepth 100000 in
set_option maxHeartbeats 3200000 in
theorem s_Text4 (an : Int) (anm aky afr ato : ByteArray) (w : World) (hok : chkR ⟨4, an, anm, aky, afr, ato⟩ = 0) : Calls Tryd.prog 13 #[.agg #[.int .i64 4, .int .i64 an, .string anm, .string aky, .string afr, .string ato]] w fun e w' => e = .returned (.string (asB (textL ⟨4, an, anm, aky, afr, ato⟩))) ∧ Ext w w' := by
  obtain ⟨-, -, hnum, hk1, hk2, hnm, hky, hfr, hto⟩ := chkR_ok hok
  simp only at hnum hk1 hk2 hnm hky hfr hto
  have z1 := name_size hnm
  have z2 : aky.size ≤ 20 := by exact name_size (hky rfl)
  have z3 := star_size hfr
  have z4 := star_size hto
  have z5 := word_size an
  have z7 := head_size 4
  clear hnum
  have HT := Lib.hid (show textL ⟨4, an, anm, aky, afr, ato⟩ = joinW ([headB 4, anm, aky].map (·.data.toList)) by unfold textL; rw [if_pos hok]; rfl)
  have HS := Lib.hid (show ∀ x ∈ [headB 4, anm, aky], x.size ≤ 20 by
    intro x hx
    simp only [List.mem_cons, List.not_mem_nil, or_false] at hx
    rcases hx with rfl | rfl | rfl <;> omega)
  clear hk1 hk2 hnm hky hfr hto z1 z2 z3 z4 z5 z7
  have HC := Lib.hid (fun W => s_Check ⟨4, an, anm, aky, afr, ato⟩ W)
  have HF := Lib.hid (fun W => (by exact s_fields 4 W : Calls Tryd.prog 26 #[.int .i64 4] W fun e w' => e = .returned (.tuple #[.agg #[.bool true, .bool false, .bool false], .bool true]) ∧ Below W.heap.size W w'))
  have HOK := Lib.hid hok
  obtain ⟨g, w1, hg, hw1, hb, hx, -⟩ := box_rule w ⟨4, an, anm, aky, afr, ato⟩ 23
  obtain ⟨c0, c1, c2, c3, c4, c5⟩ := id hb
  simp only at c0 c1 c2 c3 c4 c5 hw1
  have HW1 := Lib.hid hw1
  have HG := Lib.hid hg
  clear hw1 hg hok
  go_enter Tryd.func13, Tryd.ntmps13
  go_wp2_with fail
  rw [← HW1.out, ← HG.out]
  go_wp2_with fail
  refine (HC.out _).mono ?_
  rintro e w2 ⟨rfl, hb2⟩
  have hb2 : Ext w1 w2 := hb2
  replace hb := hb.ext hb2
  replace hx := hx.trans hb2
  rw [HOK.out]
  clear c0 c1 c2 c3 c4 c5 hb2 HW1 HG HC HOK
  have MK := Lib.hid (fun V (e : Ext w2 V) => mk_one hb e)
  go_wp2_with fail
  refine wp_region_held_drew (S := (fun V => V.cell? ⟨g, 0, none⟩ = some (.int .i64 4) ∧ V.cell? ⟨g, 1, none⟩ = some (.int .i64 an) ∧ V.cell? ⟨g, 2, none⟩ = some (.string anm) ∧ V.cell? ⟨g, 3, none⟩ = some (.string aky) ∧ V.cell? ⟨g, 4, none⟩ = some (.string afr) ∧ V.cell? ⟨g, 5, none⟩ = some (.string ato) ∧ Ext w2 V)) (by kernel_rfl) ?hs35 (fun hHeld => ?go35)
  case hs35 => (exact MK.out _ (by repeat (first | with_reducible exact Ext.refl _ | with_reducible assumption | with_reducible refine Ext.drew ?_ | with_reducible refine Ext.drewN ?_ _ | with_reducible refine Ext.alloc ?_ _)))
  refine wpAnyH_take (i := 0) (oi := { dst := (some 9), op := (Op.fieldAddr 23 (Operand.tmp 1) 0), type := 0, pos := "schema.go:139", after := #[], guard := none }) (v := ?v36) rfl (by kernel_rfl) (by kernel_rfl) (by kernel_rfl) (fun _ _ _ h => h) (Or.inl ⟨rfl, ?hy36⟩) hHeld ?rest36
  case hy36 => (intro w hSw; (try dsimp only at hSw); go_simp <;> first | with_reducible rfl | rw [if_neg (by omega)] | rw [if_pos (by omega)])
  (try simp only [Act.put]); (try simp only [List.setIfInBounds_toArray]); (try simp only [List.set_cons_succ]); (try simp only [List.set_cons_zero])
  refine wpAnyH_take (i := 1) (oi := { dst := (some 10), op := (Op.load 3 (Operand.tmp 9)), type := 3, pos := "schema.go:139", after := #[{ on := 0, ground := Ground.data }], guard := none }) (v := ?v37) rfl (by kernel_rfl) (by kernel_rfl) (by kernel_rfl) (fun _ _ _ h => h) (Or.inl ⟨rfl, ?hy37⟩) hHeld ?rest37
  case hy37 => (intro w hSw; (try dsimp only at hSw); go_simp <;> first | with_reducible rfl | rw [if_neg (by omega)] | rw [if_pos (by omega)])
  (try simp only [Act.put]); (try simp only [List.setIfInBounds_toArray]); (try simp only [List.set_cons_succ]); (try simp only [List.set_cons_zero])
  refine wpAnyH_take (i := 3) (oi := { dst := (some 12), op := (Op.fieldAddr 23 (Operand.tmp 1) 2), type := 0, pos := "schema.go:139", after := #[], guard := none }) (v := ?v38) rfl (by kernel_rfl) (by kernel_rfl) (by kernel_rfl) (fun _ _ _ h => h) (Or.inl ⟨rfl, ?hy38⟩) hHeld ?rest38
  case hy38 => (intro w hSw; (try dsimp only at hSw); go_simp <;> first | with_reducible rfl | rw [if_neg (by omega)] | rw [if_pos (by omega)])
  (try simp only [Act.put]); (try simp only [List.setIfInBounds_toArray]); (try simp only [List.set_cons_succ]); (try simp only [List.set_cons_zero])
  refine wpAnyH_take (i := 4) (oi := { dst := (some 13), op := (Op.load 9 (Operand.tmp 12)), type := 9, pos := "schema.go:139", after := #[{ on := 3, ground := Ground.data }], guard := none }) (v := ?v39) rfl (by kernel_rfl) (by kernel_rfl) (by kernel_rfl) (fun _ _ _ h => h) (Or.inl ⟨rfl, ?hy39⟩) hHeld ?rest39
  case hy39 => (intro w hSw; (try dsimp only at hSw); go_simp <;> first | with_reducible rfl | rw [if_neg (by omega)] | rw [if_pos (by omega)])
  (try simp only [Act.put]); (try simp only [List.setIfInBounds_toArray]); (try simp only [List.set_cons_succ]); (try simp only [List.set_cons_zero])
  refine wpAnyH_ready (rs := [2]) (by kernel_rfl) (by simp) ?_
  refine AllReadyH.cons (o := { dst := (some 11), op := (Op.call { callee := (Callee.value (Operand.func 24)), args := #[(Operand.tmp 10)], argTypes := #[3] }), type := 9, pos := "schema.go:139", after := #[{ on := 1, ground := Ground.data }], guard := none }) rfl (fun K hK => ?step40x0) ?more40x0
  case more40x0 => exact AllReadyH.nil
  go_simp
  (go_at_call 24; refine (s_head 4 _ (by decide) (by decide)).mono ?_; rintro e w' ⟨rfl, rfl⟩)
  refine hK.out _ _ ?hS40x0 (fun hHeld40 => ?rest40x0)
  case hS40x0 => first | (exact MK.out _ (by repeat (first | with_reducible exact Ext.refl _ | with_reducible assumption | with_reducible refine Ext.drew ?_ | with_reducible refine Ext.drewN ?_ _ | with_reducible refine Ext.alloc ?_ _))) | ((try dsimp only); (exact MK.out _ (by repeat (first | with_reducible exact Ext.refl _ | with_reducible assumption | with_reducible refine Ext.drew ?_ | with_reducible refine Ext.drewN ?_ _ | with_reducible refine Ext.alloc ?_ _))))
  clear hK K
  clear hHeld
  (try simp only [Act.put]); (try simp only [List.setIfInBounds_toArray]); (try simp only [List.set_cons_succ]); (try simp only [List.set_cons_zero])
  refine wpAnyH_ready (rs := [5]) (by kernel_rfl) (by simp) ?_
  refine AllReadyH.cons (o := { dst := (some 14), op := (Op.buildSlice 51 2 #[(0, (Operand.tmp 11)), (1, (Operand.tmp 13))]), type := 51, pos := "schema.go:139", after := #[{ on := 2, ground := Ground.data }, { on := 4, ground := Ground.data }], guard := none }) rfl (fun K hK => ?step41x0) ?more41x0
  case more41x0 => exact AllReadyH.nil
  go_simp
  refine hK.out _ _ ?hS41x0 (fun hHeld41 => ?rest41x0)
  case hS41x0 => first | (exact MK.out _ (by repeat (first | with_reducible exact Ext.refl _ | with_reducible assumption | with_reducible refine Ext.drew ?_ | with_reducible refine Ext.drewN ?_ _ | with_reducible refine Ext.alloc ?_ _))) | ((try dsimp only); (exact MK.out _ (by repeat (first | with_reducible exact Ext.refl _ | with_reducible assumption | with_reducible refine Ext.drew ?_ | with_reducible refine Ext.drewN ?_ _ | with_reducible refine Ext.alloc ?_ _))))
  clear hK K
  clear hHeld40
  (try simp only [Act.put]); (try simp only [List.setIfInBounds_toArray]); (try simp only [List.set_cons_succ]); (try simp only [List.set_cons_zero])
  refine wpAnyH_take (i := 6) (oi := { dst := (some 3), op := (Op.assign (Operand.tmp 14)), type := 51, pos := "schema.go:139", after := #[{ on := 5, ground := Ground.data }, { on := 2, ground := Ground.chain }, { on := 0, ground := Ground.phase }, { on := 1, ground := Ground.phase }, { on := 2, ground := Ground.phase }, { on := 3, ground := Ground.phase }, { on := 4, ground := Ground.phase }, { on := 5, ground := Ground.phase }], guard := none }) (v := ?v42) rfl (by kernel_rfl) (by kernel_rfl) (by kernel_rfl) (fun _ _ _ h => h) (Or.inl ⟨rfl, ?hy42⟩) hHeld41 ?rest42
  case hy42 => (intro w hSw; (try dsimp only at hSw); go_simp <;> first | with_reducible rfl | rw [if_neg (by omega)] | rw [if_pos (by omega)])
  (try simp only [Act.put]); (try simp only [List.setIfInBounds_toArray]); (try simp only [List.set_cons_succ]); (try simp only [List.set_cons_zero])
  refine wpAnyH_done (by kernel_rfl) ?_ _
  clear hHeld41
  obtain ⟨c0, c1, c2, c3, c4, c5, -⟩ := MK.out ((w2.alloc (.cells #[.string (headB 4), .string anm] 9)).drew) (by repeat (first | with_reducible exact Ext.refl _ | with_reducible assumption | with_reducible refine Ext.drew ?_ | with_reducible refine Ext.drewN ?_ _ | with_reducible refine Ext.alloc ?_ _))
  go_wp2_with fail
  refine (HF.out _).mono ?_
  rintro e w4 ⟨rfl, hb4⟩
  have hb4 : Ext (w2.alloc (.cells #[.string (headB 4), .string anm] 9)).drew w4 := hb4
  replace hb4 : Ext (w2.alloc (.cells #[.string (headB 4), .string anm] 9)) w4 := ((Ext.refl _).drew).trans hb4
  have hE4 : Ext w2 w4 := Ext.trans (by repeat (first | with_reducible exact Ext.refl _ | with_reducible assumption | with_reducible refine Ext.drew ?_ | with_reducible refine Ext.drewN ?_ _ | with_reducible refine Ext.alloc ?_ _)) hb4
  have hown4 := own_ext (World.ownsRow_lit (size := 1) (e := 9) w2 #[.string (headB 4), .string anm] 2 (Nat.le_refl _) (by unfold maxLen; omega) rfl) hb4
  clear c0 c1 c2 c3 c4 c5 hb4 HF
  obtain ⟨g5, w5, hg5, hw5, u0, u1, u2, hE5⟩ := box_uses w4 true false false
  have HW5 := Lib.hid hw5
  have HG5 := Lib.hid hg5
  clear hw5 hg5
  go_upto_region 6 with (fail)
  rw [← HW5.out, ← HG5.out]
  have hown5 := own_ext hown4 hE5
  replace hE5 := hE4.trans hE5
  clear HW5 HG5 hown4 hE4
  obtain ⟨c0, c1, c2, c3, c4, c5⟩ := id (hb.ext hE5)
  simp only at c0 c1 c2 c3 c4 c5
  have HO := Lib.hid hown5
  clear hown5
  go_wp2_with (at_builtin; refine own_push T_str rfl (.tmp 45) (.tmp 48) rfl w2 w5 _ 2 _ (strC aky) rfl HO.out hE5 rfl rfl (strC_len _) (strC_one _) (by omega) (by decide) ?_; intro v2 w6 hown6 hE6)
  go_wp2_with fail
  refine (s_Join [headB 4, anm, aky] _ v2 w6 hown6 (by simp) (by simp) HS.out).mono ?_
  rintro e w8 ⟨rfl, hE8⟩
  go_wp2_with fail
  go_ret
  exact ⟨by rw [HT.out]; rfl, (hx.trans hE6).trans hE8⟩

set_option maxRecDepth 100000 in
set_option maxHeartbeats 3200000 in
theorem s_Text5 (an : Int) (anm aky afr ato : ByteArray) (w : World) (hok : chkR ⟨5, an, anm, aky, afr, ato⟩ = 0) : Calls Tryd.prog 13 #[.agg #[.int .i64 5, .int .i64 an, .string anm, .string aky, .string afr, .string ato]] w fun e w' => e = .returned (.string (asB (textL ⟨5, an, anm, aky, afr, ato⟩))) ∧ Ext w w' := by
  obtain ⟨-, -, hnum, hk1, hk2, hnm, hky, hfr, hto⟩ := chkR_ok hok
  simp only at hnum hk1 hk2 hnm hky hfr hto
  have z1 := name_size hnm
  have z2 : aky.size ≤ 20 := by exact name_size (hky rfl)
  have z3 := star_size hfr
  have z4 := star_size hto
  have z5 := word_size an
  have z7 := head_size 5
  clear hnum
  have HT := Lib.hid (show textL ⟨5, an, anm, aky, afr, ato⟩ = joinW ([headB 5, anm, aky, wordB an].map (·.data.toList)) by unfold textL; rw [if_pos hok]; rfl)
  have HS := Lib.hid (show ∀ x ∈ [headB 5, anm, aky, wordB an], x.size ≤ 20 by
    intro x hx
    simp only [List.mem_cons, List.not_mem_nil, or_false] at hx
    rcases hx with rfl | rfl | rfl | rfl <;> omega)
  clear hk1 hk2 hnm hky hfr hto z1 z2 z3 z4 z5 z7
  have HC := Lib.hid (fun W => s_Check ⟨5, an, anm, aky, afr, ato⟩ W)
  have HF := Lib.hid (fun W => (by exact s_fields 5 W : Calls Tryd.prog 26 #[.int .i64 5] W fun e w' => e = .returned (.tuple #[.agg #[.bool true, .bool true, .bool false], .bool true]) ∧ Below W.heap.size W w'))
  have HOK := Lib.hid hok
  obtain ⟨g, w1, hg, hw1, hb, hx, -⟩ := box_rule w ⟨5, an, anm, aky, afr, ato⟩ 23
  obtain ⟨c0, c1, c2, c3, c4, c5⟩ := id hb
  simp only at c0 c1 c2 c3 c4 c5 hw1
  have HW1 := Lib.hid hw1
  have HG := Lib.hid hg
  clear hw1 hg hok
  go_enter Tryd.func13, Tryd.ntmps13
  go_wp2_with fail
  rw [← HW1.out, ← HG.out]
  go_wp2_with fail
  refine (HC.out _).mono ?_
  rintro e w2 ⟨rfl, hb2⟩
  have hb2 : Ext w1 w2 := hb2
  replace hb := hb.ext hb2
  replace hx := hx.trans hb2
  rw [HOK.out]
  clear c0 c1 c2 c3 c4 c5 hb2 HW1 HG HC HOK
  have MK := Lib.hid (fun V (e : Ext w2 V) => mk_one hb e)
  go_wp2_with fail
  refine wp_region_held_drew (S := (fun V => V.cell? ⟨g, 0, none⟩ = some (.int .i64 5) ∧ V.cell? ⟨g, 1, none⟩ = some (.int .i64 an) ∧ V.cell? ⟨g, 2, none⟩ = some (.string anm) ∧ V.cell? ⟨g, 3, none⟩ = some (.string aky) ∧ V.cell? ⟨g, 4, none⟩ = some (.string afr) ∧ V.cell? ⟨g, 5, none⟩ = some (.string ato) ∧ Ext w2 V)) (by kernel_rfl) ?hs43 (fun hHeld => ?go43)
  case hs43 => (exact MK.out _ (by repeat (first | with_reducible exact Ext.refl _ | with_reducible assumption | with_reducible refine Ext.drew ?_ | with_reducible refine Ext.drewN ?_ _ | with_reducible refine Ext.alloc ?_ _)))
  refine wpAnyH_take (i := 0) (oi := { dst := (some 9), op := (Op.fieldAddr 23 (Operand.tmp 1) 0), type := 0, pos := "schema.go:139", after := #[], guard := none }) (v := ?v44) rfl (by kernel_rfl) (by kernel_rfl) (by kernel_rfl) (fun _ _ _ h => h) (Or.inl ⟨rfl, ?hy44⟩) hHeld ?rest44
  case hy44 => (intro w hSw; (try dsimp only at hSw); go_simp <;> first | with_reducible rfl | rw [if_neg (by omega)] | rw [if_pos (by omega)])
  (try simp only [Act.put]); (try simp only [List.setIfInBounds_toArray]); (try simp only [List.set_cons_succ]); (try simp only [List.set_cons_zero])
  refine wpAnyH_take (i := 1) (oi := { dst := (some 10), op := (Op.load 3 (Operand.tmp 9)), type := 3, pos := "schema.go:139", after := #[{ on := 0, ground := Ground.data }], guard := none }) (v := ?v45) rfl (by kernel_rfl) (by kernel_rfl) (by kernel_rfl) (fun _ _ _ h => h) (Or.inl ⟨rfl, ?hy45⟩) hHeld ?rest45
  case hy45 => (intro w hSw; (try dsimp only at hSw); go_simp <;> first | with_reducible rfl | rw [if_neg (by omega)] | rw [if_pos (by omega)])
  (try simp only [Act.put]); (try simp only [List.setIfInBounds_toArray]); (try simp only [List.set_cons_succ]); (try simp only [List.set_cons_zero])
  refine wpAnyH_take (i := 3) (oi := { dst := (some 12), op := (Op.fieldAddr 23 (Operand.tmp 1) 2), type := 0, pos := "schema.go:139", after := #[], guard := none }) (v := ?v46) rfl (by kernel_rfl) (by kernel_rfl) (by kernel_rfl) (fun _ _ _ h => h) (Or.inl ⟨rfl, ?hy46⟩) hHeld ?rest46
  case hy46 => (intro w hSw; (try dsimp only at hSw); go_simp <;> first | with_reducible rfl | rw [if_neg (by omega)] | rw [if_pos (by omega)])
  (try simp only [Act.put]); (try simp only [List.setIfInBounds_toArray]); (try simp only [List.set_cons_succ]); (try simp only [List.set_cons_zero])
  refine wpAnyH_take (i := 4) (oi := { dst := (some 13), op := (Op.load 9 (Operand.tmp 12)), type := 9, pos := "schema.go:139", after := #[{ on := 3, ground := Ground.data }], guard := none }) (v := ?v47) rfl (by kernel_rfl) (by kernel_rfl) (by kernel_rfl) (fun _ _ _ h => h) (Or.inl ⟨rfl, ?hy47⟩) hHeld ?rest47
  case hy47 => (intro w hSw; (try dsimp only at hSw); go_simp <;> first | with_reducible rfl | rw [if_neg (by omega)] | rw [if_pos (by omega)])
  (try simp only [Act.put]); (try simp only [List.setIfInBounds_toArray]); (try simp only [List.set_cons_succ]); (try simp only [List.set_cons_zero])
  refine wpAnyH_ready (rs := [2]) (by kernel_rfl) (by simp) ?_
  refine AllReadyH.cons (o := { dst := (some 11), op := (Op.call { callee := (Callee.value (Operand.func 24)), args := #[(Operand.tmp 10)], argTypes := #[3] }), type := 9, pos := "schema.go:139", after := #[{ on := 1, ground := Ground.data }], guard := none }) rfl (fun K hK => ?step48x0) ?more48x0
  case more48x0 => exact AllReadyH.nil
  go_simp
  (go_at_call 24; refine (s_head 5 _ (by decide) (by decide)).mono ?_; rintro e w' ⟨rfl, rfl⟩)
  refine hK.out _ _ ?hS48x0 (fun hHeld48 => ?rest48x0)
  case hS48x0 => first | (exact MK.out _ (by repeat (first | with_reducible exact Ext.refl _ | with_reducible assumption | with_reducible refine Ext.drew ?_ | with_reducible refine Ext.drewN ?_ _ | with_reducible refine Ext.alloc ?_ _))) | ((try dsimp only); (exact MK.out _ (by repeat (first | with_reducible exact Ext.refl _ | with_reducible assumption | with_reducible refine Ext.drew ?_ | with_reducible refine Ext.drewN ?_ _ | with_reducible refine Ext.alloc ?_ _))))
  clear hK K
  clear hHeld
  (try simp only [Act.put]); (try simp only [List.setIfInBounds_toArray]); (try simp only [List.set_cons_succ]); (try simp only [List.set_cons_zero])
  refine wpAnyH_ready (rs := [5]) (by kernel_rfl) (by simp) ?_
  refine AllReadyH.cons (o := { dst := (some 14), op := (Op.buildSlice 51 2 #[(0, (Operand.tmp 11)), (1, (Operand.tmp 13))]), type := 51, pos := "schema.go:139", after := #[{ on := 2, ground := Ground.data }, { on := 4, ground := Ground.data }], guard := none }) rfl (fun K hK => ?step49x0) ?more49x0
  case more49x0 => exact AllReadyH.nil
  go_simp
  refine hK.out _ _ ?hS49x0 (fun hHeld49 => ?rest49x0)
  case hS49x0 => first | (exact MK.out _ (by repeat (first | with_reducible exact Ext.refl _ | with_reducible assumption | with_reducible refine Ext.drew ?_ | with_reducible refine Ext.drewN ?_ _ | with_reducible refine Ext.alloc ?_ _))) | ((try dsimp only); (exact MK.out _ (by repeat (first | with_reducible exact Ext.refl _ | with_reducible assumption | with_reducible refine Ext.drew ?_ | with_reducible refine Ext.drewN ?_ _ | with_reducible refine Ext.alloc ?_ _))))
  clear hK K
  clear hHeld48
  (try simp only [Act.put]); (try simp only [List.setIfInBounds_toArray]); (try simp only [List.set_cons_succ]); (try simp only [List.set_cons_zero])
  refine wpAnyH_take (i := 6) (oi := { dst := (some 3), op := (Op.assign (Operand.tmp 14)), type := 51, pos := "schema.go:139", after := #[{ on := 5, ground := Ground.data }, { on := 2, ground := Ground.chain }, { on := 0, ground := Ground.phase }, { on := 1, ground := Ground.phase }, { on := 2, ground := Ground.phase }, { on := 3, ground := Ground.phase }, { on := 4, ground := Ground.phase }, { on := 5, ground := Ground.phase }], guard := none }) (v := ?v50) rfl (by kernel_rfl) (by kernel_rfl) (by kernel_rfl) (fun _ _ _ h => h) (Or.inl ⟨rfl, ?hy50⟩) hHeld49 ?rest50
  case hy50 => (intro w hSw; (try dsimp only at hSw); go_simp <;> first | with_reducible rfl | rw [if_neg (by omega)] | rw [if_pos (by omega)])
  (try simp only [Act.put]); (try simp only [List.setIfInBounds_toArray]); (try simp only [List.set_cons_succ]); (try simp only [List.set_cons_zero])
  refine wpAnyH_done (by kernel_rfl) ?_ _
  clear hHeld49
  obtain ⟨c0, c1, c2, c3, c4, c5, -⟩ := MK.out ((w2.alloc (.cells #[.string (headB 5), .string anm] 9)).drew) (by repeat (first | with_reducible exact Ext.refl _ | with_reducible assumption | with_reducible refine Ext.drew ?_ | with_reducible refine Ext.drewN ?_ _ | with_reducible refine Ext.alloc ?_ _))
  go_wp2_with fail
  refine (HF.out _).mono ?_
  rintro e w4 ⟨rfl, hb4⟩
  have hb4 : Ext (w2.alloc (.cells #[.string (headB 5), .string anm] 9)).drew w4 := hb4
  replace hb4 : Ext (w2.alloc (.cells #[.string (headB 5), .string anm] 9)) w4 := ((Ext.refl _).drew).trans hb4
  have hE4 : Ext w2 w4 := Ext.trans (by repeat (first | with_reducible exact Ext.refl _ | with_reducible assumption | with_reducible refine Ext.drew ?_ | with_reducible refine Ext.drewN ?_ _ | with_reducible refine Ext.alloc ?_ _)) hb4
  have hown4 := own_ext (World.ownsRow_lit (size := 1) (e := 9) w2 #[.string (headB 5), .string anm] 2 (Nat.le_refl _) (by unfold maxLen; omega) rfl) hb4
  clear c0 c1 c2 c3 c4 c5 hb4 HF
  obtain ⟨g5, w5, hg5, hw5, u0, u1, u2, hE5⟩ := box_uses w4 true true false
  have HW5 := Lib.hid hw5
  have HG5 := Lib.hid hg5
  clear hw5 hg5
  go_upto_region 6 with (fail)
  rw [← HW5.out, ← HG5.out]
  have hown5 := own_ext hown4 hE5
  replace hE5 := hE4.trans hE5
  clear HW5 HG5 hown4 hE4
  obtain ⟨c0, c1, c2, c3, c4, c5⟩ := id (hb.ext hE5)
  simp only at c0 c1 c2 c3 c4 c5
  have HO := Lib.hid hown5
  clear hown5
  have MK5 := Lib.hid (fun V (e : Ext w2 V) => mk_one hb e)
  go_wp2_with fail
  refine wp_region_held_drew (S := (fun V => V.cell? ⟨g, 0, none⟩ = some (.int .i64 5) ∧ V.cell? ⟨g, 1, none⟩ = some (.int .i64 an) ∧ V.cell? ⟨g, 2, none⟩ = some (.string anm) ∧ V.cell? ⟨g, 3, none⟩ = some (.string aky) ∧ V.cell? ⟨g, 4, none⟩ = some (.string afr) ∧ V.cell? ⟨g, 5, none⟩ = some (.string ato) ∧ Ext w2 V)) (by kernel_rfl) ?hs51 (fun hHeld => ?go51)
  case hs51 => (exact MK5.out _ (by repeat (first | with_reducible exact Ext.refl _ | with_reducible assumption | with_reducible refine Ext.drew ?_ | with_reducible refine Ext.drewN ?_ _ | with_reducible refine Ext.alloc ?_ _)))
  refine wpAnyH_take (i := 0) (oi := { dst := (some 34), op := (Op.move (Operand.tmp 3)), type := 51, pos := "schema.go:142", after := #[], guard := none }) (v := ?v52) rfl (by kernel_rfl) (by kernel_rfl) (by kernel_rfl) (fun _ _ _ h => h) (Or.inl ⟨rfl, ?hy52⟩) hHeld ?rest52
  case hy52 => (intro w hSw; (try dsimp only at hSw); go_simp <;> first | with_reducible rfl | rw [if_neg (by omega)] | rw [if_pos (by omega)])
  (try simp only [Act.put]); (try simp only [List.setIfInBounds_toArray]); (try simp only [List.set_cons_succ]); (try simp only [List.set_cons_zero])
  refine wpAnyH_take (i := 1) (oi := { dst := (some 35), op := (Op.fieldAddr 23 (Operand.tmp 1) 3), type := 0, pos := "schema.go:142", after := #[], guard := none }) (v := ?v53) rfl (by kernel_rfl) (by kernel_rfl) (by kernel_rfl) (fun _ _ _ h => h) (Or.inl ⟨rfl, ?hy53⟩) hHeld ?rest53
  case hy53 => (intro w hSw; (try dsimp only at hSw); go_simp <;> first | with_reducible rfl | rw [if_neg (by omega)] | rw [if_pos (by omega)])
  (try simp only [Act.put]); (try simp only [List.setIfInBounds_toArray]); (try simp only [List.set_cons_succ]); (try simp only [List.set_cons_zero])
  refine wpAnyH_take (i := 2) (oi := { dst := (some 36), op := (Op.load 9 (Operand.tmp 35)), type := 9, pos := "schema.go:142", after := #[{ on := 1, ground := Ground.data }], guard := none }) (v := ?v54) rfl (by kernel_rfl) (by kernel_rfl) (by kernel_rfl) (fun _ _ _ h => h) (Or.inl ⟨rfl, ?hy54⟩) hHeld ?rest54
  case hy54 => (intro w hSw; (try dsimp only at hSw); go_simp <;> first | with_reducible rfl | rw [if_neg (by omega)] | rw [if_pos (by omega)])
  (try simp only [Act.put]); (try simp only [List.setIfInBounds_toArray]); (try simp only [List.set_cons_succ]); (try simp only [List.set_cons_zero])
  refine wpAnyH_take (i := 3) (oi := { dst := (some 37), op := (Op.fieldAddr 23 (Operand.tmp 1) 1), type := 0, pos := "schema.go:142", after := #[], guard := none }) (v := ?v55) rfl (by kernel_rfl) (by kernel_rfl) (by kernel_rfl) (fun _ _ _ h => h) (Or.inl ⟨rfl, ?hy55⟩) hHeld ?rest55
  case hy55 => (intro w hSw; (try dsimp only at hSw); go_simp <;> first | with_reducible rfl | rw [if_neg (by omega)] | rw [if_pos (by omega)])
  (try simp only [Act.put]); (try simp only [List.setIfInBounds_toArray]); (try simp only [List.set_cons_succ]); (try simp only [List.set_cons_zero])
  refine wpAnyH_take (i := 4) (oi := { dst := (some 38), op := (Op.load 3 (Operand.tmp 37)), type := 3, pos := "schema.go:142", after := #[{ on := 3, ground := Ground.data }], guard := none }) (v := ?v56) rfl (by kernel_rfl) (by kernel_rfl) (by kernel_rfl) (fun _ _ _ h => h) (Or.inl ⟨rfl, ?hy56⟩) hHeld ?rest56
  case hy56 => (intro w hSw; (try dsimp only at hSw); go_simp <;> first | with_reducible rfl | rw [if_neg (by omega)] | rw [if_pos (by omega)])
  (try simp only [Act.put]); (try simp only [List.setIfInBounds_toArray]); (try simp only [List.set_cons_succ]); (try simp only [List.set_cons_zero])
  refine wpAnyH_ready (rs := [5]) (by kernel_rfl) (by simp) ?_
  refine AllReadyH.cons (o := { dst := (some 39), op := (Op.call { callee := (Callee.value (Operand.func 30)), args := #[(Operand.tmp 38)], argTypes := #[3] }), type := 9, pos := "schema.go:142", after := #[{ on := 4, ground := Ground.data }], guard := none }) rfl (fun K hK => ?step57x0) ?more57x0
  case more57x0 => exact AllReadyH.nil
  go_simp
  (go_at_call 30; refine (s_kindText an _).mono ?_; rintro e w' ⟨rfl, rfl⟩)
  refine hK.out _ _ ?hS57x0 (fun hHeld57 => ?rest57x0)
  case hS57x0 => first | (exact MK5.out _ (by repeat (first | with_reducible exact Ext.refl _ | with_reducible assumption | with_reducible refine Ext.drew ?_ | with_reducible refine Ext.drewN ?_ _ | with_reducible refine Ext.alloc ?_ _))) | ((try dsimp only); (exact MK5.out _ (by repeat (first | with_reducible exact Ext.refl _ | with_reducible assumption | with_reducible refine Ext.drew ?_ | with_reducible refine Ext.drewN ?_ _ | with_reducible refine Ext.alloc ?_ _))))
  clear hK K
  clear hHeld
  (try simp only [Act.put]); (try simp only [List.setIfInBounds_toArray]); (try simp only [List.set_cons_succ]); (try simp only [List.set_cons_zero])
  refine wpAnyH_ready (rs := [6]) (by kernel_rfl) (by simp) ?_
  refine AllReadyH.cons (o := { dst := (some 40), op := (Op.buildSlice 51 2 #[(0, (Operand.tmp 36)), (1, (Operand.tmp 39))]), type := 51, pos := "schema.go:142", after := #[{ on := 2, ground := Ground.data }, { on := 5, ground := Ground.data }], guard := none }) rfl (fun K hK => ?step58x0) ?more58x0
  case more58x0 => exact AllReadyH.nil
  go_simp
  refine hK.out _ _ ?hS58x0 (fun hHeld58 => ?rest58x0)
  case hS58x0 => first | (exact MK5.out _ (by repeat (first | with_reducible exact Ext.refl _ | with_reducible assumption | with_reducible refine Ext.drew ?_ | with_reducible refine Ext.drewN ?_ _ | with_reducible refine Ext.alloc ?_ _))) | ((try dsimp only); (exact MK5.out _ (by repeat (first | with_reducible exact Ext.refl _ | with_reducible assumption | with_reducible refine Ext.drew ?_ | with_reducible refine Ext.drewN ?_ _ | with_reducible refine Ext.alloc ?_ _))))
  clear hK K
  clear hHeld57
  (try simp only [Act.put]); (try simp only [List.setIfInBounds_toArray]); (try simp only [List.set_cons_succ]); (try simp only [List.set_cons_zero])
  refine wpAnyH_ready (rs := [7]) (by kernel_rfl) (by simp) ?_
  refine AllReadyH.cons (o := { dst := (some 41), op := (Op.call { callee := (Callee.builtin Builtin.append), args := #[(Operand.tmp 34), (Operand.tmp 40)], argTypes := #[51, 51] }), type := 51, pos := "schema.go:142", after := #[{ on := 0, ground := Ground.data }, { on := 6, ground := Ground.data }, { on := 5, ground := Ground.chain }], guard := none }) rfl (fun K hK => ?step59x0) ?more59x0
  case more59x0 => exact AllReadyH.nil
  obtain ⟨v2, w6, hrun, hown6, hE6⟩ := own_run T_str w2 ((w5.alloc (.cells #[.string aky, .string (wordB an)] 9)).drew) (.slice (some ⟨w2.heap.size, 0, none⟩) 2 2) 2 _ (own_ext HO.out (by repeat (first | with_reducible exact Ext.refl _ | with_reducible assumption | with_reducible refine Ext.drew ?_ | with_reducible refine Ext.drewN ?_ _ | with_reducible refine Ext.alloc ?_ _))) (by repeat (first | with_reducible exact Ext.refl _ | with_reducible assumption | with_reducible refine Ext.drew ?_ | with_reducible refine Ext.drewN ?_ _ | with_reducible refine Ext.alloc ?_ _)) ⟨w5.heap.size, 0, none⟩ 2 2 [.string aky, .string (wordB an)] rfl (fun j u hj => by rw [Addr.add_mid]; show (w5.alloc _).cell? _ = _; rw [cell_of_row _ _ _ _ _ _ (heap_alloc_new w5 _), Nat.zero_add]; simpa using hj) (by intro u hu; simp only [List.mem_cons, List.not_mem_nil, or_false] at hu; rcases hu with rfl | rfl <;> rfl) (by omega) (by decide) 51; refine step_append_run' rfl (.tmp 34) (.tmp 40) 51 51 rfl _ _ rfl rfl hrun ?_
  refine hK.out _ _ ?hS59x0 (fun hHeld59 => ?rest59x0)
  case hS59x0 => first | (exact MK5.out _ (by repeat (first | with_reducible exact Ext.refl _ | with_reducible assumption | with_reducible refine Ext.drew ?_ | with_reducible refine Ext.drewN ?_ _ | with_reducible refine Ext.alloc ?_ _))) | ((try dsimp only); (exact MK5.out _ (by repeat (first | with_reducible exact Ext.refl _ | with_reducible assumption | with_reducible refine Ext.drew ?_ | with_reducible refine Ext.drewN ?_ _ | with_reducible refine Ext.alloc ?_ _))))
  clear hK K
  clear hHeld58
  (try simp only [Act.put]); (try simp only [List.setIfInBounds_toArray]); (try simp only [List.set_cons_succ]); (try simp only [List.set_cons_zero])
  refine wpAnyH_take (i := 8) (oi := { dst := (some 3), op := (Op.assign (Operand.tmp 41)), type := 51, pos := "schema.go:142", after := #[{ on := 7, ground := Ground.data }, { on := 7, ground := Ground.chain }, { on := 0, ground := Ground.phase }, { on := 1, ground := Ground.phase }, { on := 2, ground := Ground.phase }, { on := 3, ground := Ground.phase }, { on := 4, ground := Ground.phase }, { on := 5, ground := Ground.phase }, { on := 6, ground := Ground.phase }, { on := 7, ground := Ground.phase }], guard := none }) (v := ?v60) rfl (by kernel_rfl) (by kernel_rfl) (by kernel_rfl) (fun _ _ _ h => h) (Or.inl ⟨rfl, ?hy60⟩) hHeld59 ?rest60
  case hy60 => (intro w hSw; (try dsimp only at hSw); go_simp <;> first | with_reducible rfl | rw [if_neg (by omega)] | rw [if_pos (by omega)])
  (try simp only [Act.put]); (try simp only [List.setIfInBounds_toArray]); (try simp only [List.set_cons_succ]); (try simp only [List.set_cons_zero])
  refine wpAnyH_done (by kernel_rfl) ?_ _
  clear hHeld59
  go_wp2_with fail
  refine (s_Join [headB 5, anm, aky, wordB an] _ v2 w6 hown6 (by simp) (by simp) HS.out).mono ?_
  rintro e w8 ⟨rfl, hE8⟩
  go_wp2_with fail
  go_ret
  exact ⟨by rw [HT.out]; rfl, (hx.trans hE6).trans hE8⟩

set_option maxRecDepth 100000 in
set_option maxHeartbeats 3200000 in
theorem s_Text6 (an : Int) (anm aky afr ato : ByteArray) (w : World) (hok : chkR ⟨6, an, anm, aky, afr, ato⟩ = 0) : Calls Tryd.prog 13 #[.agg #[.int .i64 6, .int .i64 an, .string anm, .string aky, .string afr, .string ato]] w fun e w' => e = .returned (.string (asB (textL ⟨6, an, anm, aky, afr, ato⟩))) ∧ Ext w w' := by
  obtain ⟨-, -, hnum, hk1, hk2, hnm, hky, hfr, hto⟩ := chkR_ok hok
  simp only at hnum hk1 hk2 hnm hky hfr hto
  have z1 := name_size hnm
  have z2 : aky.size ≤ 20 := by have := hk1 rfl; omega
  have z3 := star_size hfr
  have z4 := star_size hto
  have z5 := word_size an
  have z7 := head_size 6
  clear hnum
  have HT := Lib.hid (show textL ⟨6, an, anm, aky, afr, ato⟩ = joinW ([headB 6, anm, starB afr, starB ato].map (·.data.toList)) by unfold textL; rw [if_pos hok]; rfl)
  have HS := Lib.hid (show ∀ x ∈ [headB 6, anm, starB afr, starB ato], x.size ≤ 20 by
    intro x hx
    simp only [List.mem_cons, List.not_mem_nil, or_false] at hx
    rcases hx with rfl | rfl | rfl | rfl <;> omega)
  clear hk1 hk2 hnm hky hfr hto z1 z2 z3 z4 z5 z7
  have HC := Lib.hid (fun W => s_Check ⟨6, an, anm, aky, afr, ato⟩ W)
  have HF := Lib.hid (fun W => (by exact s_fields 6 W : Calls Tryd.prog 26 #[.int .i64 6] W fun e w' => e = .returned (.tuple #[.agg #[.bool false, .bool false, .bool true], .bool true]) ∧ Below W.heap.size W w'))
  have HOK := Lib.hid hok
  obtain ⟨g, w1, hg, hw1, hb, hx, -⟩ := box_rule w ⟨6, an, anm, aky, afr, ato⟩ 23
  obtain ⟨c0, c1, c2, c3, c4, c5⟩ := id hb
  simp only at c0 c1 c2 c3 c4 c5 hw1
  have HW1 := Lib.hid hw1
  have HG := Lib.hid hg
  clear hw1 hg hok
  go_enter Tryd.func13, Tryd.ntmps13
  go_wp2_with fail
  rw [← HW1.out, ← HG.out]
  go_wp2_with fail
  refine (HC.out _).mono ?_
  rintro e w2 ⟨rfl, hb2⟩
  have hb2 : Ext w1 w2 := hb2
  replace hb := hb.ext hb2
  replace hx := hx.trans hb2
  rw [HOK.out]
  clear c0 c1 c2 c3 c4 c5 hb2 HW1 HG HC HOK
  have MK := Lib.hid (fun V (e : Ext w2 V) => mk_one hb e)
  go_wp2_with fail
  refine wp_region_held_drew (S := (fun V => V.cell? ⟨g, 0, none⟩ = some (.int .i64 6) ∧ V.cell? ⟨g, 1, none⟩ = some (.int .i64 an) ∧ V.cell? ⟨g, 2, none⟩ = some (.string anm) ∧ V.cell? ⟨g, 3, none⟩ = some (.string aky) ∧ V.cell? ⟨g, 4, none⟩ = some (.string afr) ∧ V.cell? ⟨g, 5, none⟩ = some (.string ato) ∧ Ext w2 V)) (by kernel_rfl) ?hs61 (fun hHeld => ?go61)
  case hs61 => (exact MK.out _ (by repeat (first | with_reducible exact Ext.refl _ | with_reducible assumption | with_reducible refine Ext.drew ?_ | with_reducible refine Ext.drewN ?_ _ | with_reducible refine Ext.alloc ?_ _)))
  refine wpAnyH_take (i := 0) (oi := { dst := (some 9), op := (Op.fieldAddr 23 (Operand.tmp 1) 0), type := 0, pos := "schema.go:139", after := #[], guard := none }) (v := ?v62) rfl (by kernel_rfl) (by kernel_rfl) (by kernel_rfl) (fun _ _ _ h => h) (Or.inl ⟨rfl, ?hy62⟩) hHeld ?rest62
  case hy62 => (intro w hSw; (try dsimp only at hSw); go_simp <;> first | with_reducible rfl | rw [if_neg (by omega)] | rw [if_pos (by omega)])
  (try simp only [Act.put]); (try simp only [List.setIfInBounds_toArray]); (try simp only [List.set_cons_succ]); (try simp only [List.set_cons_zero])
  refine wpAnyH_take (i := 1) (oi := { dst := (some 10), op := (Op.load 3 (Operand.tmp 9)), type := 3, pos := "schema.go:139", after := #[{ on := 0, ground := Ground.data }], guard := none }) (v := ?v63) rfl (by kernel_rfl) (by kernel_rfl) (by kernel_rfl) (fun _ _ _ h => h) (Or.inl ⟨rfl, ?hy63⟩) hHeld ?rest63
  case hy63 => (intro w hSw; (try dsimp only at hSw); go_simp <;> first | with_reducible rfl | rw [if_neg (by omega)] | rw [if_pos (by omega)])
  (try simp only [Act.put]); (try simp only [List.setIfInBounds_toArray]); (try simp only [List.set_cons_succ]); (try simp only [List.set_cons_zero])
  refine wpAnyH_take (i := 3) (oi := { dst := (some 12), op := (Op.fieldAddr 23 (Operand.tmp 1) 2), type := 0, pos := "schema.go:139", after := #[], guard := none }) (v := ?v64) rfl (by kernel_rfl) (by kernel_rfl) (by kernel_rfl) (fun _ _ _ h => h) (Or.inl ⟨rfl, ?hy64⟩) hHeld ?rest64
  case hy64 => (intro w hSw; (try dsimp only at hSw); go_simp <;> first | with_reducible rfl | rw [if_neg (by omega)] | rw [if_pos (by omega)])
  (try simp only [Act.put]); (try simp only [List.setIfInBounds_toArray]); (try simp only [List.set_cons_succ]); (try simp only [List.set_cons_zero])
  refine wpAnyH_take (i := 4) (oi := { dst := (some 13), op := (Op.load 9 (Operand.tmp 12)), type := 9, pos := "schema.go:139", after := #[{ on := 3, ground := Ground.data }], guard := none }) (v := ?v65) rfl (by kernel_rfl) (by kernel_rfl) (by kernel_rfl) (fun _ _ _ h => h) (Or.inl ⟨rfl, ?hy65⟩) hHeld ?rest65
  case hy65 => (intro w hSw; (try dsimp only at hSw); go_simp <;> first | with_reducible rfl | rw [if_neg (by omega)] | rw [if_pos (by omega)])
  (try simp only [Act.put]); (try simp only [List.setIfInBounds_toArray]); (try simp only [List.set_cons_succ]); (try simp only [List.set_cons_zero])
  refine wpAnyH_ready (rs := [2]) (by kernel_rfl) (by simp) ?_
  refine AllReadyH.cons (o := { dst := (some 11), op := (Op.call { callee := (Callee.value (Operand.func 24)), args := #[(Operand.tmp 10)], argTypes := #[3] }), type := 9, pos := "schema.go:139", after := #[{ on := 1, ground := Ground.data }], guard := none }) rfl (fun K hK => ?step66x0) ?more66x0
  case more66x0 => exact AllReadyH.nil
  go_simp
  (go_at_call 24; refine (s_head 6 _ (by decide) (by decide)).mono ?_; rintro e w' ⟨rfl, rfl⟩)
  refine hK.out _ _ ?hS66x0 (fun hHeld66 => ?rest66x0)
  case hS66x0 => first | (exact MK.out _ (by repeat (first | with_reducible exact Ext.refl _ | with_reducible assumption | with_reducible refine Ext.drew ?_ | with_reducible refine Ext.drewN ?_ _ | with_reducible refine Ext.alloc ?_ _))) | ((try dsimp only); (exact MK.out _ (by repeat (first | with_reducible exact Ext.refl _ | with_reducible assumption | with_reducible refine Ext.drew ?_ | with_reducible refine Ext.drewN ?_ _ | with_reducible refine Ext.alloc ?_ _))))
  clear hK K
  clear hHeld
  (try simp only [Act.put]); (try simp only [List.setIfInBounds_toArray]); (try simp only [List.set_cons_succ]); (try simp only [List.set_cons_zero])
  refine wpAnyH_ready (rs := [5]) (by kernel_rfl) (by simp) ?_
  refine AllReadyH.cons (o := { dst := (some 14), op := (Op.buildSlice 51 2 #[(0, (Operand.tmp 11)), (1, (Operand.tmp 13))]), type := 51, pos := "schema.go:139", after := #[{ on := 2, ground := Ground.data }, { on := 4, ground := Ground.data }], guard := none }) rfl (fun K hK => ?step67x0) ?more67x0
  case more67x0 => exact AllReadyH.nil
  go_simp
  refine hK.out _ _ ?hS67x0 (fun hHeld67 => ?rest67x0)
  case hS67x0 => first | (exact MK.out _ (by repeat (first | with_reducible exact Ext.refl _ | with_reducible assumption | with_reducible refine Ext.drew ?_ | with_reducible refine Ext.drewN ?_ _ | with_reducible refine Ext.alloc ?_ _))) | ((try dsimp only); (exact MK.out _ (by repeat (first | with_reducible exact Ext.refl _ | with_reducible assumption | with_reducible refine Ext.drew ?_ | with_reducible refine Ext.drewN ?_ _ | with_reducible refine Ext.alloc ?_ _))))
  clear hK K
  clear hHeld66
  (try simp only [Act.put]); (try simp only [List.setIfInBounds_toArray]); (try simp only [List.set_cons_succ]); (try simp only [List.set_cons_zero])
  refine wpAnyH_take (i := 6) (oi := { dst := (some 3), op := (Op.assign (Operand.tmp 14)), type := 51, pos := "schema.go:139", after := #[{ on := 5, ground := Ground.data }, { on := 2, ground := Ground.chain }, { on := 0, ground := Ground.phase }, { on := 1, ground := Ground.phase }, { on := 2, ground := Ground.phase }, { on := 3, ground := Ground.phase }, { on := 4, ground := Ground.phase }, { on := 5, ground := Ground.phase }], guard := none }) (v := ?v68) rfl (by kernel_rfl) (by kernel_rfl) (by kernel_rfl) (fun _ _ _ h => h) (Or.inl ⟨rfl, ?hy68⟩) hHeld67 ?rest68
  case hy68 => (intro w hSw; (try dsimp only at hSw); go_simp <;> first | with_reducible rfl | rw [if_neg (by omega)] | rw [if_pos (by omega)])
  (try simp only [Act.put]); (try simp only [List.setIfInBounds_toArray]); (try simp only [List.set_cons_succ]); (try simp only [List.set_cons_zero])
  refine wpAnyH_done (by kernel_rfl) ?_ _
  clear hHeld67
  obtain ⟨c0, c1, c2, c3, c4, c5, -⟩ := MK.out ((w2.alloc (.cells #[.string (headB 6), .string anm] 9)).drew) (by repeat (first | with_reducible exact Ext.refl _ | with_reducible assumption | with_reducible refine Ext.drew ?_ | with_reducible refine Ext.drewN ?_ _ | with_reducible refine Ext.alloc ?_ _))
  go_wp2_with fail
  refine (HF.out _).mono ?_
  rintro e w4 ⟨rfl, hb4⟩
  have hb4 : Ext (w2.alloc (.cells #[.string (headB 6), .string anm] 9)).drew w4 := hb4
  replace hb4 : Ext (w2.alloc (.cells #[.string (headB 6), .string anm] 9)) w4 := ((Ext.refl _).drew).trans hb4
  have hE4 : Ext w2 w4 := Ext.trans (by repeat (first | with_reducible exact Ext.refl _ | with_reducible assumption | with_reducible refine Ext.drew ?_ | with_reducible refine Ext.drewN ?_ _ | with_reducible refine Ext.alloc ?_ _)) hb4
  have hown4 := own_ext (World.ownsRow_lit (size := 1) (e := 9) w2 #[.string (headB 6), .string anm] 2 (Nat.le_refl _) (by unfold maxLen; omega) rfl) hb4
  clear c0 c1 c2 c3 c4 c5 hb4 HF
  obtain ⟨g5, w5, hg5, hw5, u0, u1, u2, hE5⟩ := box_uses w4 false false true
  have HW5 := Lib.hid hw5
  have HG5 := Lib.hid hg5
  clear hw5 hg5
  go_upto_region 6 with (fail)
  rw [← HW5.out, ← HG5.out]
  have hown5 := own_ext hown4 hE5
  replace hE5 := hE4.trans hE5
  clear HW5 HG5 hown4 hE4
  obtain ⟨c0, c1, c2, c3, c4, c5⟩ := id (hb.ext hE5)
  simp only at c0 c1 c2 c3 c4 c5
  have HO := Lib.hid hown5
  clear hown5
  have MK5 := Lib.hid (fun V (e : Ext w2 V) => mk_one hb e)
  go_wp2_with fail
  refine wp_region_held_drew (S := (fun V => V.cell? ⟨g, 0, none⟩ = some (.int .i64 6) ∧ V.cell? ⟨g, 1, none⟩ = some (.int .i64 an) ∧ V.cell? ⟨g, 2, none⟩ = some (.string anm) ∧ V.cell? ⟨g, 3, none⟩ = some (.string aky) ∧ V.cell? ⟨g, 4, none⟩ = some (.string afr) ∧ V.cell? ⟨g, 5, none⟩ = some (.string ato) ∧ Ext w2 V)) (by kernel_rfl) ?hs69 (fun hHeld => ?go69)
  case hs69 => (exact MK5.out _ (by repeat (first | with_reducible exact Ext.refl _ | with_reducible assumption | with_reducible refine Ext.drew ?_ | with_reducible refine Ext.drewN ?_ _ | with_reducible refine Ext.alloc ?_ _)))
  refine wpAnyH_take (i := 0) (oi := { dst := (some 53), op := (Op.move (Operand.tmp 3)), type := 51, pos := "schema.go:146", after := #[], guard := none }) (v := ?v70) rfl (by kernel_rfl) (by kernel_rfl) (by kernel_rfl) (fun _ _ _ h => h) (Or.inl ⟨rfl, ?hy70⟩) hHeld ?rest70
  case hy70 => (intro w hSw; (try dsimp only at hSw); go_simp <;> first | with_reducible rfl | rw [if_neg (by omega)] | rw [if_pos (by omega)])
  (try simp only [Act.put]); (try simp only [List.setIfInBounds_toArray]); (try simp only [List.set_cons_succ]); (try simp only [List.set_cons_zero])
  refine wpAnyH_take (i := 1) (oi := { dst := (some 54), op := (Op.fieldAddr 23 (Operand.tmp 1) 4), type := 0, pos := "schema.go:146", after := #[], guard := none }) (v := ?v71) rfl (by kernel_rfl) (by kernel_rfl) (by kernel_rfl) (fun _ _ _ h => h) (Or.inl ⟨rfl, ?hy71⟩) hHeld ?rest71
  case hy71 => (intro w hSw; (try dsimp only at hSw); go_simp <;> first | with_reducible rfl | rw [if_neg (by omega)] | rw [if_pos (by omega)])
  (try simp only [Act.put]); (try simp only [List.setIfInBounds_toArray]); (try simp only [List.set_cons_succ]); (try simp only [List.set_cons_zero])
  refine wpAnyH_take (i := 2) (oi := { dst := (some 55), op := (Op.load 9 (Operand.tmp 54)), type := 9, pos := "schema.go:146", after := #[{ on := 1, ground := Ground.data }], guard := none }) (v := ?v72) rfl (by kernel_rfl) (by kernel_rfl) (by kernel_rfl) (fun _ _ _ h => h) (Or.inl ⟨rfl, ?hy72⟩) hHeld ?rest72
  case hy72 => (intro w hSw; (try dsimp only at hSw); go_simp <;> first | with_reducible rfl | rw [if_neg (by omega)] | rw [if_pos (by omega)])
  (try simp only [Act.put]); (try simp only [List.setIfInBounds_toArray]); (try simp only [List.set_cons_succ]); (try simp only [List.set_cons_zero])
  refine wpAnyH_take (i := 5) (oi := { dst := (some 58), op := (Op.fieldAddr 23 (Operand.tmp 1) 5), type := 0, pos := "schema.go:146", after := #[], guard := none }) (v := ?v73) rfl (by kernel_rfl) (by kernel_rfl) (by kernel_rfl) (fun _ _ _ h => h) (Or.inl ⟨rfl, ?hy73⟩) hHeld ?rest73
  case hy73 => (intro w hSw; (try dsimp only at hSw); go_simp <;> first | with_reducible rfl | rw [if_neg (by omega)] | rw [if_pos (by omega)])
  (try simp only [Act.put]); (try simp only [List.setIfInBounds_toArray]); (try simp only [List.set_cons_succ]); (try simp only [List.set_cons_zero])
  refine wpAnyH_take (i := 6) (oi := { dst := (some 59), op := (Op.load 9 (Operand.tmp 58)), type := 9, pos := "schema.go:146", after := #[{ on := 5, ground := Ground.data }], guard := none }) (v := ?v74) rfl (by kernel_rfl) (by kernel_rfl) (by kernel_rfl) (fun _ _ _ h => h) (Or.inl ⟨rfl, ?hy74⟩) hHeld ?rest74
  case hy74 => (intro w hSw; (try dsimp only at hSw); go_simp <;> first | with_reducible rfl | rw [if_neg (by omega)] | rw [if_pos (by omega)])
  (try simp only [Act.put]); (try simp only [List.setIfInBounds_toArray]); (try simp only [List.set_cons_succ]); (try simp only [List.set_cons_zero])
  refine wpAnyH_ready (rs := [3, 7]) (by kernel_rfl) (by simp) ?_
  refine AllReadyH.cons (o := { dst := (some 56), op := (Op.buildSlice 51 2 #[(0, (Operand.tmp 55)), (1, (Operand.const (Value.string { data := #[42] })))]), type := 51, pos := "schema.go:146", after := #[{ on := 2, ground := Ground.data }], guard := none }) rfl (fun K hK => ?step75x0) ?more75x0
  case more75x0 =>
    refine AllReadyH.cons (o := { dst := (some 60), op := (Op.buildSlice 51 2 #[(0, (Operand.tmp 59)), (1, (Operand.const (Value.string { data := #[42] })))]), type := 51, pos := "schema.go:146", after := #[{ on := 6, ground := Ground.data }], guard := none }) rfl (fun K hK => ?step75x1) ?more75x1
    case more75x1 => exact AllReadyH.nil
    go_simp
    refine hK.out _ _ ?hS75x1 (fun hHeld75 => ?rest75x1)
    case hS75x1 => first | (exact MK5.out _ (by repeat (first | with_reducible exact Ext.refl _ | with_reducible assumption | with_reducible refine Ext.drew ?_ | with_reducible refine Ext.drewN ?_ _ | with_reducible refine Ext.alloc ?_ _))) | ((try dsimp only); (exact MK5.out _ (by repeat (first | with_reducible exact Ext.refl _ | with_reducible assumption | with_reducible refine Ext.drew ?_ | with_reducible refine Ext.drewN ?_ _ | with_reducible refine Ext.alloc ?_ _))))
    clear hK K
    clear hHeld
    (try simp only [Act.put]); (try simp only [List.setIfInBounds_toArray]); (try simp only [List.set_cons_succ]); (try simp only [List.set_cons_zero])
    refine wpAnyH_ready (rs := [3]) (by kernel_rfl) (by simp) ?_
    refine AllReadyH.cons (o := { dst := (some 56), op := (Op.buildSlice 51 2 #[(0, (Operand.tmp 55)), (1, (Operand.const (Value.string { data := #[42] })))]), type := 51, pos := "schema.go:146", after := #[{ on := 2, ground := Ground.data }], guard := none }) rfl (fun K hK => ?step76x0) ?more76x0
    case more76x0 => exact AllReadyH.nil
    go_simp
    refine hK.out _ _ ?hS76x0 (fun hHeld76 => ?rest76x0)
    case hS76x0 => first | (exact MK5.out _ (by repeat (first | with_reducible exact Ext.refl _ | with_reducible assumption | with_reducible refine Ext.drew ?_ | with_reducible refine Ext.drewN ?_ _ | with_reducible refine Ext.alloc ?_ _))) | ((try dsimp only); (exact MK5.out _ (by repeat (first | with_reducible exact Ext.refl _ | with_reducible assumption | with_reducible refine Ext.drew ?_ | with_reducible refine Ext.drewN ?_ _ | with_reducible refine Ext.alloc ?_ _))))
    clear hK K
    clear hHeld75
    (try simp only [Act.put]); (try simp only [List.setIfInBounds_toArray]); (try simp only [List.set_cons_succ]); (try simp only [List.set_cons_zero])
    refine wpAnyH_ready (rs := [4]) (by kernel_rfl) (by simp) ?_
    refine AllReadyH.cons (o := { dst := (some 57), op := (Op.call { callee := (Callee.value (Operand.func 31)), args := #[(Operand.tmp 56)], argTypes := #[51] }), type := 9, pos := "schema.go:146", after := #[{ on := 3, ground := Ground.data }], guard := none }) rfl (fun K hK => ?step77x0) ?more77x0
    case more77x0 => exact AllReadyH.nil
    go_simp
    (go_at_call 31; refine (c_or_str _ afr ⟨#[42]⟩ _ (by go_simp) (by go_simp)).mono ?_; rintro e w' ⟨rfl, rfl⟩; rw [orS_star])
    refine hK.out _ _ ?hS77x0 (fun hHeld77 => ?rest77x0)
    case hS77x0 => first | (exact MK5.out _ (by repeat (first | with_reducible exact Ext.refl _ | with_reducible assumption | with_reducible refine Ext.drew ?_ | with_reducible refine Ext.drewN ?_ _ | with_reducible refine Ext.alloc ?_ _))) | ((try dsimp only); (exact MK5.out _ (by repeat (first | with_reducible exact Ext.refl _ | with_reducible assumption | with_reducible refine Ext.drew ?_ | with_reducible refine Ext.drewN ?_ _ | with_reducible refine Ext.alloc ?_ _))))
    clear hK K
    clear hHeld76
    (try simp only [Act.put]); (try simp only [List.setIfInBounds_toArray]); (try simp only [List.set_cons_succ]); (try simp only [List.set_cons_zero])
    refine wpAnyH_ready (rs := [8]) (by kernel_rfl) (by simp) ?_
    refine AllReadyH.cons (o := { dst := (some 61), op := (Op.call { callee := (Callee.value (Operand.func 31)), args := #[(Operand.tmp 60)], argTypes := #[51] }), type := 9, pos := "schema.go:146", after := #[{ on := 7, ground := Ground.data }, { on := 4, ground := Ground.chain }], guard := none }) rfl (fun K hK => ?step78x0) ?more78x0
    case more78x0 => exact AllReadyH.nil
    go_simp
    (go_at_call 31; refine (c_or_str _ ato ⟨#[42]⟩ _ (by go_simp) (by go_simp)).mono ?_; rintro e w' ⟨rfl, rfl⟩; rw [orS_star])
    refine hK.out _ _ ?hS78x0 (fun hHeld78 => ?rest78x0)
    case hS78x0 => first | (exact MK5.out _ (by repeat (first | with_reducible exact Ext.refl _ | with_reducible assumption | with_reducible refine Ext.drew ?_ | with_reducible refine Ext.drewN ?_ _ | with_reducible refine Ext.alloc ?_ _))) | ((try dsimp only); (exact MK5.out _ (by repeat (first | with_reducible exact Ext.refl _ | with_reducible assumption | with_reducible refine Ext.drew ?_ | with_reducible refine Ext.drewN ?_ _ | with_reducible refine Ext.alloc ?_ _))))
    clear hK K
    clear hHeld77
    (try simp only [Act.put]); (try simp only [List.setIfInBounds_toArray]); (try simp only [List.set_cons_succ]); (try simp only [List.set_cons_zero])
    refine wpAnyH_ready (rs := [9]) (by kernel_rfl) (by simp) ?_
    refine AllReadyH.cons (o := { dst := (some 62), op := (Op.buildSlice 51 2 #[(0, (Operand.tmp 57)), (1, (Operand.tmp 61))]), type := 51, pos := "schema.go:146", after := #[{ on := 4, ground := Ground.data }, { on := 8, ground := Ground.data }], guard := none }) rfl (fun K hK => ?step79x0) ?more79x0
    case more79x0 => exact AllReadyH.nil
    go_simp
    refine hK.out _ _ ?hS79x0 (fun hHeld79 => ?rest79x0)
    case hS79x0 => first | (exact MK5.out _ (by repeat (first | with_reducible exact Ext.refl _ | with_reducible assumption | with_reducible refine Ext.drew ?_ | with_reducible refine Ext.drewN ?_ _ | with_reducible refine Ext.alloc ?_ _))) | ((try dsimp only); (exact MK5.out _ (by repeat (first | with_reducible exact Ext.refl _ | with_reducible assumption | with_reducible refine Ext.drew ?_ | with_reducible refine Ext.drewN ?_ _ | with_reducible refine Ext.alloc ?_ _))))
    clear hK K
    clear hHeld78
    (try simp only [Act.put]); (try simp only [List.setIfInBounds_toArray]); (try simp only [List.set_cons_succ]); (try simp only [List.set_cons_zero])
    refine wpAnyH_ready (rs := [10]) (by kernel_rfl) (by simp) ?_
    refine AllReadyH.cons (o := { dst := (some 63), op := (Op.call { callee := (Callee.builtin Builtin.append), args := #[(Operand.tmp 53), (Operand.tmp 62)], argTypes := #[51, 51] }), type := 51, pos := "schema.go:146", after := #[{ on := 0, ground := Ground.data }, { on := 9, ground := Ground.data }, { on := 8, ground := Ground.chain }], guard := none }) rfl (fun K hK => ?step80x0) ?more80x0
    case more80x0 => exact AllReadyH.nil
    obtain ⟨v2, w6, hrun, hown6, hE6⟩ := own_run T_str w2 ((((w5.alloc (.cells #[.string ato, .string ⟨#[42]⟩] 9)).alloc (.cells #[.string afr, .string ⟨#[42]⟩] 9)).alloc (.cells #[.string (starB afr), .string (starB ato)] 9)).drew) (.slice (some ⟨w2.heap.size, 0, none⟩) 2 2) 2 _ (own_ext HO.out (by repeat (first | with_reducible exact Ext.refl _ | with_reducible assumption | with_reducible refine Ext.drew ?_ | with_reducible refine Ext.drewN ?_ _ | with_reducible refine Ext.alloc ?_ _))) (by repeat (first | with_reducible exact Ext.refl _ | with_reducible assumption | with_reducible refine Ext.drew ?_ | with_reducible refine Ext.drewN ?_ _ | with_reducible refine Ext.alloc ?_ _)) ⟨((w5.alloc (.cells #[.string ato, .string ⟨#[42]⟩] 9)).alloc (.cells #[.string afr, .string ⟨#[42]⟩] 9)).heap.size, 0, none⟩ 2 2 [.string (starB afr), .string (starB ato)] rfl (fun j u hj => by rw [Addr.add_mid]; show (((w5.alloc (.cells #[.string ato, .string ⟨#[42]⟩] 9)).alloc (.cells #[.string afr, .string ⟨#[42]⟩] 9)).alloc _).cell? _ = _; rw [cell_of_row _ _ _ _ _ _ (heap_alloc_new ((w5.alloc (.cells #[.string ato, .string ⟨#[42]⟩] 9)).alloc (.cells #[.string afr, .string ⟨#[42]⟩] 9)) _), Nat.zero_add]; simpa using hj) (by intro u hu; simp only [List.mem_cons, List.not_mem_nil, or_false] at hu; rcases hu with rfl | rfl <;> rfl) (by omega) (by decide) 51; rw [show ((w5.alloc (.cells #[.string ato, .string ⟨#[42]⟩] 9)).alloc (.cells #[.string afr, .string ⟨#[42]⟩] 9)).heap.size = w5.heap.size + 1 + 1 by simp] at hrun; refine step_append_run' rfl (.tmp 53) (.tmp 62) 51 51 rfl _ _ rfl rfl hrun ?_
    refine hK.out _ _ ?hS80x0 (fun hHeld80 => ?rest80x0)
    case hS80x0 => first | (exact MK5.out _ (by repeat (first | with_reducible exact Ext.refl _ | with_reducible assumption | with_reducible refine Ext.drew ?_ | with_reducible refine Ext.drewN ?_ _ | with_reducible refine Ext.alloc ?_ _))) | ((try dsimp only); (exact MK5.out _ (by repeat (first | with_reducible exact Ext.refl _ | with_reducible assumption | with_reducible refine Ext.drew ?_ | with_reducible refine Ext.drewN ?_ _ | with_reducible refine Ext.alloc ?_ _))))
    clear hK K
    clear hHeld79
    (try simp only [Act.put]); (try simp only [List.setIfInBounds_toArray]); (try simp only [List.set_cons_succ]); (try simp only [List.set_cons_zero])
    refine wpAnyH_take (i := 11) (oi := { dst := (some 3), op := (Op.assign (Operand.tmp 63)), type := 51, pos := "schema.go:146", after := #[{ on := 10, ground := Ground.data }, { on := 10, ground := Ground.chain }, { on := 0, ground := Ground.phase }, { on := 1, ground := Ground.phase }, { on := 2, ground := Ground.phase }, { on := 3, ground := Ground.phase }, { on := 4, ground := Ground.phase }, { on := 5, ground := Ground.phase }, { on := 6, ground := Ground.phase }, { on := 7, ground := Ground.phase }, { on := 8, ground := Ground.phase }, { on := 9, ground := Ground.phase }, { on := 10, ground := Ground.phase }], guard := none }) (v := ?v81) rfl (by kernel_rfl) (by kernel_rfl) (by kernel_rfl) (fun _ _ _ h => h) (Or.inl ⟨rfl, ?hy81⟩) hHeld80 ?rest81
    case hy81 => (intro w hSw; (try dsimp only at hSw); go_simp <;> first | with_reducible rfl | rw [if_neg (by omega)] | rw [if_pos (by omega)])
    (try simp only [Act.put]); (try simp only [List.setIfInBounds_toArray]); (try simp only [List.set_cons_succ]); (try simp only [List.set_cons_zero])
    refine wpAnyH_done (by kernel_rfl) ?_ _
    clear hHeld80
    go_wp2_with fail
    refine (s_Join [headB 6, anm, starB afr, starB ato] _ v2 w6 hown6 (by simp) (by simp) HS.out).mono ?_
    rintro e w8 ⟨rfl, hE8⟩
    go_wp2_with fail
    go_ret
    exact ⟨by rw [HT.out]; rfl, (hx.trans hE6).trans hE8⟩
  go_simp
  refine hK.out _ _ ?hS75x0 (fun hHeld75 => ?rest75x0)
  case hS75x0 => first | (exact MK5.out _ (by repeat (first | with_reducible exact Ext.refl _ | with_reducible assumption | with_reducible refine Ext.drew ?_ | with_reducible refine Ext.drewN ?_ _ | with_reducible refine Ext.alloc ?_ _))) | ((try dsimp only); (exact MK5.out _ (by repeat (first | with_reducible exact Ext.refl _ | with_reducible assumption | with_reducible refine Ext.drew ?_ | with_reducible refine Ext.drewN ?_ _ | with_reducible refine Ext.alloc ?_ _))))
  clear hK K
  clear hHeld
  (try simp only [Act.put]); (try simp only [List.setIfInBounds_toArray]); (try simp only [List.set_cons_succ]); (try simp only [List.set_cons_zero])
  refine wpAnyH_ready (rs := [4, 7]) (by kernel_rfl) (by simp) ?_
  refine AllReadyH.cons (o := { dst := (some 57), op := (Op.call { callee := (Callee.value (Operand.func 31)), args := #[(Operand.tmp 56)], argTypes := #[51] }), type := 9, pos := "schema.go:146", after := #[{ on := 3, ground := Ground.data }], guard := none }) rfl (fun K hK => ?step82x0) ?more82x0
  case more82x0 =>
    refine AllReadyH.cons (o := { dst := (some 60), op := (Op.buildSlice 51 2 #[(0, (Operand.tmp 59)), (1, (Operand.const (Value.string { data := #[42] })))]), type := 51, pos := "schema.go:146", after := #[{ on := 6, ground := Ground.data }], guard := none }) rfl (fun K hK => ?step82x1) ?more82x1
    case more82x1 => exact AllReadyH.nil
    go_simp
    refine hK.out _ _ ?hS82x1 (fun hHeld82 => ?rest82x1)
    case hS82x1 => first | (exact MK5.out _ (by repeat (first | with_reducible exact Ext.refl _ | with_reducible assumption | with_reducible refine Ext.drew ?_ | with_reducible refine Ext.drewN ?_ _ | with_reducible refine Ext.alloc ?_ _))) | ((try dsimp only); (exact MK5.out _ (by repeat (first | with_reducible exact Ext.refl _ | with_reducible assumption | with_reducible refine Ext.drew ?_ | with_reducible refine Ext.drewN ?_ _ | with_reducible refine Ext.alloc ?_ _))))
    clear hK K
    clear hHeld75
    (try simp only [Act.put]); (try simp only [List.setIfInBounds_toArray]); (try simp only [List.set_cons_succ]); (try simp only [List.set_cons_zero])
    refine wpAnyH_ready (rs := [4]) (by kernel_rfl) (by simp) ?_
    refine AllReadyH.cons (o := { dst := (some 57), op := (Op.call { callee := (Callee.value (Operand.func 31)), args := #[(Operand.tmp 56)], argTypes := #[51] }), type := 9, pos := "schema.go:146", after := #[{ on := 3, ground := Ground.data }], guard := none }) rfl (fun K hK => ?step83x0) ?more83x0
    case more83x0 => exact AllReadyH.nil
    go_simp
    (go_at_call 31; refine (c_or_str _ afr ⟨#[42]⟩ _ (by go_simp) (by go_simp)).mono ?_; rintro e w' ⟨rfl, rfl⟩; rw [orS_star])
    refine hK.out _ _ ?hS83x0 (fun hHeld83 => ?rest83x0)
    case hS83x0 => first | (exact MK5.out _ (by repeat (first | with_reducible exact Ext.refl _ | with_reducible assumption | with_reducible refine Ext.drew ?_ | with_reducible refine Ext.drewN ?_ _ | with_reducible refine Ext.alloc ?_ _))) | ((try dsimp only); (exact MK5.out _ (by repeat (first | with_reducible exact Ext.refl _ | with_reducible assumption | with_reducible refine Ext.drew ?_ | with_reducible refine Ext.drewN ?_ _ | with_reducible refine Ext.alloc ?_ _))))
    clear hK K
    clear hHeld82
    (try simp only [Act.put]); (try simp only [List.setIfInBounds_toArray]); (try simp only [List.set_cons_succ]); (try simp only [List.set_cons_zero])
    refine wpAnyH_ready (rs := [8]) (by kernel_rfl) (by simp) ?_
    refine AllReadyH.cons (o := { dst := (some 61), op := (Op.call { callee := (Callee.value (Operand.func 31)), args := #[(Operand.tmp 60)], argTypes := #[51] }), type := 9, pos := "schema.go:146", after := #[{ on := 7, ground := Ground.data }, { on := 4, ground := Ground.chain }], guard := none }) rfl (fun K hK => ?step84x0) ?more84x0
    case more84x0 => exact AllReadyH.nil
    go_simp
    (go_at_call 31; refine (c_or_str _ ato ⟨#[42]⟩ _ (by go_simp) (by go_simp)).mono ?_; rintro e w' ⟨rfl, rfl⟩; rw [orS_star])
    refine hK.out _ _ ?hS84x0 (fun hHeld84 => ?rest84x0)
    case hS84x0 => first | (exact MK5.out _ (by repeat (first | with_reducible exact Ext.refl _ | with_reducible assumption | with_reducible refine Ext.drew ?_ | with_reducible refine Ext.drewN ?_ _ | with_reducible refine Ext.alloc ?_ _))) | ((try dsimp only); (exact MK5.out _ (by repeat (first | with_reducible exact Ext.refl _ | with_reducible assumption | with_reducible refine Ext.drew ?_ | with_reducible refine Ext.drewN ?_ _ | with_reducible refine Ext.alloc ?_ _))))
    clear hK K
    clear hHeld83
    (try simp only [Act.put]); (try simp only [List.setIfInBounds_toArray]); (try simp only [List.set_cons_succ]); (try simp only [List.set_cons_zero])
    refine wpAnyH_ready (rs := [9]) (by kernel_rfl) (by simp) ?_
    refine AllReadyH.cons (o := { dst := (some 62), op := (Op.buildSlice 51 2 #[(0, (Operand.tmp 57)), (1, (Operand.tmp 61))]), type := 51, pos := "schema.go:146", after := #[{ on := 4, ground := Ground.data }, { on := 8, ground := Ground.data }], guard := none }) rfl (fun K hK => ?step85x0) ?more85x0
    case more85x0 => exact AllReadyH.nil
    go_simp
    refine hK.out _ _ ?hS85x0 (fun hHeld85 => ?rest85x0)
    case hS85x0 => first | (exact MK5.out _ (by repeat (first | with_reducible exact Ext.refl _ | with_reducible assumption | with_reducible refine Ext.drew ?_ | with_reducible refine Ext.drewN ?_ _ | with_reducible refine Ext.alloc ?_ _))) | ((try dsimp only); (exact MK5.out _ (by repeat (first | with_reducible exact Ext.refl _ | with_reducible assumption | with_reducible refine Ext.drew ?_ | with_reducible refine Ext.drewN ?_ _ | with_reducible refine Ext.alloc ?_ _))))
    clear hK K
    clear hHeld84
    (try simp only [Act.put]); (try simp only [List.setIfInBounds_toArray]); (try simp only [List.set_cons_succ]); (try simp only [List.set_cons_zero])
    refine wpAnyH_ready (rs := [10]) (by kernel_rfl) (by simp) ?_
    refine AllReadyH.cons (o := { dst := (some 63), op := (Op.call { callee := (Callee.builtin Builtin.append), args := #[(Operand.tmp 53), (Operand.tmp 62)], argTypes := #[51, 51] }), type := 51, pos := "schema.go:146", after := #[{ on := 0, ground := Ground.data }, { on := 9, ground := Ground.data }, { on := 8, ground := Ground.chain }], guard := none }) rfl (fun K hK => ?step86x0) ?more86x0
    case more86x0 => exact AllReadyH.nil
    obtain ⟨v2, w6, hrun, hown6, hE6⟩ := own_run T_str w2 ((((w5.alloc (.cells #[.string afr, .string ⟨#[42]⟩] 9)).alloc (.cells #[.string ato, .string ⟨#[42]⟩] 9)).alloc (.cells #[.string (starB afr), .string (starB ato)] 9)).drew) (.slice (some ⟨w2.heap.size, 0, none⟩) 2 2) 2 _ (own_ext HO.out (by repeat (first | with_reducible exact Ext.refl _ | with_reducible assumption | with_reducible refine Ext.drew ?_ | with_reducible refine Ext.drewN ?_ _ | with_reducible refine Ext.alloc ?_ _))) (by repeat (first | with_reducible exact Ext.refl _ | with_reducible assumption | with_reducible refine Ext.drew ?_ | with_reducible refine Ext.drewN ?_ _ | with_reducible refine Ext.alloc ?_ _)) ⟨((w5.alloc (.cells #[.string afr, .string ⟨#[42]⟩] 9)).alloc (.cells #[.string ato, .string ⟨#[42]⟩] 9)).heap.size, 0, none⟩ 2 2 [.string (starB afr), .string (starB ato)] rfl (fun j u hj => by rw [Addr.add_mid]; show (((w5.alloc (.cells #[.string afr, .string ⟨#[42]⟩] 9)).alloc (.cells #[.string ato, .string ⟨#[42]⟩] 9)).alloc _).cell? _ = _; rw [cell_of_row _ _ _ _ _ _ (heap_alloc_new ((w5.alloc (.cells #[.string afr, .string ⟨#[42]⟩] 9)).alloc (.cells #[.string ato, .string ⟨#[42]⟩] 9)) _), Nat.zero_add]; simpa using hj) (by intro u hu; simp only [List.mem_cons, List.not_mem_nil, or_false] at hu; rcases hu with rfl | rfl <;> rfl) (by omega) (by decide) 51; rw [show ((w5.alloc (.cells #[.string afr, .string ⟨#[42]⟩] 9)).alloc (.cells #[.string ato, .string ⟨#[42]⟩] 9)).heap.size = w5.heap.size + 1 + 1 by simp] at hrun; refine step_append_run' rfl (.tmp 53) (.tmp 62) 51 51 rfl _ _ rfl rfl hrun ?_
    refine hK.out _ _ ?hS86x0 (fun hHeld86 => ?rest86x0)
    case hS86x0 => first | (exact MK5.out _ (by repeat (first | with_reducible exact Ext.refl _ | with_reducible assumption | with_reducible refine Ext.drew ?_ | with_reducible refine Ext.drewN ?_ _ | with_reducible refine Ext.alloc ?_ _))) | ((try dsimp only); (exact MK5.out _ (by repeat (first | with_reducible exact Ext.refl _ | with_reducible assumption | with_reducible refine Ext.drew ?_ | with_reducible refine Ext.drewN ?_ _ | with_reducible refine Ext.alloc ?_ _))))
    clear hK K
    clear hHeld85
    (try simp only [Act.put]); (try simp only [List.setIfInBounds_toArray]); (try simp only [List.set_cons_succ]); (try simp only [List.set_cons_zero])
    refine wpAnyH_take (i := 11) (oi := { dst := (some 3), op := (Op.assign (Operand.tmp 63)), type := 51, pos := "schema.go:146", after := #[{ on := 10, ground := Ground.data }, { on := 10, ground := Ground.chain }, { on := 0, ground := Ground.phase }, { on := 1, ground := Ground.phase }, { on := 2, ground := Ground.phase }, { on := 3, ground := Ground.phase }, { on := 4, ground := Ground.phase }, { on := 5, ground := Ground.phase }, { on := 6, ground := Ground.phase }, { on := 7, ground := Ground.phase }, { on := 8, ground := Ground.phase }, { on := 9, ground := Ground.phase }, { on := 10, ground := Ground.phase }], guard := none }) (v := ?v87) rfl (by kernel_rfl) (by kernel_rfl) (by kernel_rfl) (fun _ _ _ h => h) (Or.inl ⟨rfl, ?hy87⟩) hHeld86 ?rest87
    case hy87 => (intro w hSw; (try dsimp only at hSw); go_simp <;> first | with_reducible rfl | rw [if_neg (by omega)] | rw [if_pos (by omega)])
    (try simp only [Act.put]); (try simp only [List.setIfInBounds_toArray]); (try simp only [List.set_cons_succ]); (try simp only [List.set_cons_zero])
    refine wpAnyH_done (by kernel_rfl) ?_ _
    clear hHeld86
    go_wp2_with fail
    refine (s_Join [headB 6, anm, starB afr, starB ato] _ v2 w6 hown6 (by simp) (by simp) HS.out).mono ?_
    rintro e w8 ⟨rfl, hE8⟩
    go_wp2_with fail
    go_ret
    exact ⟨by rw [HT.out]; rfl, (hx.trans hE6).trans hE8⟩
  go_simp
  (go_at_call 31; refine (c_or_str _ afr ⟨#[42]⟩ _ (by go_simp) (by go_simp)).mono ?_; rintro e w' ⟨rfl, rfl⟩; rw [orS_star])
  refine hK.out _ _ ?hS82x0 (fun hHeld82 => ?rest82x0)
  case hS82x0 => first | (exact MK5.out _ (by repeat (first | with_reducible exact Ext.refl _ | with_reducible assumption | with_reducible refine Ext.drew ?_ | with_reducible refine Ext.drewN ?_ _ | with_reducible refine Ext.alloc ?_ _))) | ((try dsimp only); (exact MK5.out _ (by repeat (first | with_reducible exact Ext.refl _ | with_reducible assumption | with_reducible refine Ext.drew ?_ | with_reducible refine Ext.drewN ?_ _ | with_reducible refine Ext.alloc ?_ _))))
  clear hK K
  clear hHeld75
  (try simp only [Act.put]); (try simp only [List.setIfInBounds_toArray]); (try simp only [List.set_cons_succ]); (try simp only [List.set_cons_zero])
  refine wpAnyH_ready (rs := [7]) (by kernel_rfl) (by simp) ?_
  refine AllReadyH.cons (o := { dst := (some 60), op := (Op.buildSlice 51 2 #[(0, (Operand.tmp 59)), (1, (Operand.const (Value.string { data := #[42] })))]), type := 51, pos := "schema.go:146", after := #[{ on := 6, ground := Ground.data }], guard := none }) rfl (fun K hK => ?step88x0) ?more88x0
  case more88x0 => exact AllReadyH.nil
  go_simp
  refine hK.out _ _ ?hS88x0 (fun hHeld88 => ?rest88x0)
  case hS88x0 => first | (exact MK5.out _ (by repeat (first | with_reducible exact Ext.refl _ | with_reducible assumption | with_reducible refine Ext.drew ?_ | with_reducible refine Ext.drewN ?_ _ | with_reducible refine Ext.alloc ?_ _))) | ((try dsimp only); (exact MK5.out _ (by repeat (first | with_reducible exact Ext.refl _ | with_reducible assumption | with_reducible refine Ext.drew ?_ | with_reducible refine Ext.drewN ?_ _ | with_reducible refine Ext.alloc ?_ _))))
  clear hK K
  clear hHeld82
  (try simp only [Act.put]); (try simp only [List.setIfInBounds_toArray]); (try simp only [List.set_cons_succ]); (try simp only [List.set_cons_zero])
  refine wpAnyH_ready (rs := [8]) (by kernel_rfl) (by simp) ?_
  refine AllReadyH.cons (o := { dst := (some 61), op := (Op.call { callee := (Callee.value (Operand.func 31)), args := #[(Operand.tmp 60)], argTypes := #[51] }), type := 9, pos := "schema.go:146", after := #[{ on := 7, ground := Ground.data }, { on := 4, ground := Ground.chain }], guard := none }) rfl (fun K hK => ?step89x0) ?more89x0
  case more89x0 => exact AllReadyH.nil
  go_simp
  (go_at_call 31; refine (c_or_str _ ato ⟨#[42]⟩ _ (by go_simp) (by go_simp)).mono ?_; rintro e w' ⟨rfl, rfl⟩; rw [orS_star])
  refine hK.out _ _ ?hS89x0 (fun hHeld89 => ?rest89x0)
  case hS89x0 => first | (exact MK5.out _ (by repeat (first | with_reducible exact Ext.refl _ | with_reducible assumption | with_reducible refine Ext.drew ?_ | with_reducible refine Ext.drewN ?_ _ | with_reducible refine Ext.alloc ?_ _))) | ((try dsimp only); (exact MK5.out _ (by repeat (first | with_reducible exact Ext.refl _ | with_reducible assumption | with_reducible refine Ext.drew ?_ | with_reducible refine Ext.drewN ?_ _ | with_reducible refine Ext.alloc ?_ _))))
  clear hK K
  clear hHeld88
  (try simp only [Act.put]); (try simp only [List.setIfInBounds_toArray]); (try simp only [List.set_cons_succ]); (try simp only [List.set_cons_zero])
  refine wpAnyH_ready (rs := [9]) (by kernel_rfl) (by simp) ?_
  refine AllReadyH.cons (o := { dst := (some 62), op := (Op.buildSlice 51 2 #[(0, (Operand.tmp 57)), (1, (Operand.tmp 61))]), type := 51, pos := "schema.go:146", after := #[{ on := 4, ground := Ground.data }, { on := 8, ground := Ground.data }], guard := none }) rfl (fun K hK => ?step90x0) ?more90x0
  case more90x0 => exact AllReadyH.nil
  go_simp
  refine hK.out _ _ ?hS90x0 (fun hHeld90 => ?rest90x0)
  case hS90x0 => first | (exact MK5.out _ (by repeat (first | with_reducible exact Ext.refl _ | with_reducible assumption | with_reducible refine Ext.drew ?_ | with_reducible refine Ext.drewN ?_ _ | with_reducible refine Ext.alloc ?_ _))) | ((try dsimp only); (exact MK5.out _ (by repeat (first | with_reducible exact Ext.refl _ | with_reducible assumption | with_reducible refine Ext.drew ?_ | with_reducible refine Ext.drewN ?_ _ | with_reducible refine Ext.alloc ?_ _))))
  clear hK K
  clear hHeld89
  (try simp only [Act.put]); (try simp only [List.setIfInBounds_toArray]); (try simp only [List.set_cons_succ]); (try simp only [List.set_cons_zero])
  refine wpAnyH_ready (rs := [10]) (by kernel_rfl) (by simp) ?_
  refine AllReadyH.cons (o := { dst := (some 63), op := (Op.call { callee := (Callee.builtin Builtin.append), args := #[(Operand.tmp 53), (Operand.tmp 62)], argTypes := #[51, 51] }), type := 51, pos := "schema.go:146", after := #[{ on := 0, ground := Ground.data }, { on := 9, ground := Ground.data }, { on := 8, ground := Ground.chain }], guard := none }) rfl (fun K hK => ?step91x0) ?more91x0
  case more91x0 => exact AllReadyH.nil
  obtain ⟨v2, w6, hrun, hown6, hE6⟩ := own_run T_str w2 ((((w5.alloc (.cells #[.string afr, .string ⟨#[42]⟩] 9)).alloc (.cells #[.string ato, .string ⟨#[42]⟩] 9)).alloc (.cells #[.string (starB afr), .string (starB ato)] 9)).drew) (.slice (some ⟨w2.heap.size, 0, none⟩) 2 2) 2 _ (own_ext HO.out (by repeat (first | with_reducible exact Ext.refl _ | with_reducible assumption | with_reducible refine Ext.drew ?_ | with_reducible refine Ext.drewN ?_ _ | with_reducible refine Ext.alloc ?_ _))) (by repeat (first | with_reducible exact Ext.refl _ | with_reducible assumption | with_reducible refine Ext.drew ?_ | with_reducible refine Ext.drewN ?_ _ | with_reducible refine Ext.alloc ?_ _)) ⟨((w5.alloc (.cells #[.string afr, .string ⟨#[42]⟩] 9)).alloc (.cells #[.string ato, .string ⟨#[42]⟩] 9)).heap.size, 0, none⟩ 2 2 [.string (starB afr), .string (starB ato)] rfl (fun j u hj => by rw [Addr.add_mid]; show (((w5.alloc (.cells #[.string afr, .string ⟨#[42]⟩] 9)).alloc (.cells #[.string ato, .string ⟨#[42]⟩] 9)).alloc _).cell? _ = _; rw [cell_of_row _ _ _ _ _ _ (heap_alloc_new ((w5.alloc (.cells #[.string afr, .string ⟨#[42]⟩] 9)).alloc (.cells #[.string ato, .string ⟨#[42]⟩] 9)) _), Nat.zero_add]; simpa using hj) (by intro u hu; simp only [List.mem_cons, List.not_mem_nil, or_false] at hu; rcases hu with rfl | rfl <;> rfl) (by omega) (by decide) 51; rw [show ((w5.alloc (.cells #[.string afr, .string ⟨#[42]⟩] 9)).alloc (.cells #[.string ato, .string ⟨#[42]⟩] 9)).heap.size = w5.heap.size + 1 + 1 by simp] at hrun; refine step_append_run' rfl (.tmp 53) (.tmp 62) 51 51 rfl _ _ rfl rfl hrun ?_
  refine hK.out _ _ ?hS91x0 (fun hHeld91 => ?rest91x0)
  case hS91x0 => first | (exact MK5.out _ (by repeat (first | with_reducible exact Ext.refl _ | with_reducible assumption | with_reducible refine Ext.drew ?_ | with_reducible refine Ext.drewN ?_ _ | with_reducible refine Ext.alloc ?_ _))) | ((try dsimp only); (exact MK5.out _ (by repeat (first | with_reducible exact Ext.refl _ | with_reducible assumption | with_reducible refine Ext.drew ?_ | with_reducible refine Ext.drewN ?_ _ | with_reducible refine Ext.alloc ?_ _))))
  clear hK K
  clear hHeld90
  (try simp only [Act.put]); (try simp only [List.setIfInBounds_toArray]); (try simp only [List.set_cons_succ]); (try simp only [List.set_cons_zero])
  refine wpAnyH_take (i := 11) (oi := { dst := (some 3), op := (Op.assign (Operand.tmp 63)), type := 51, pos := "schema.go:146", after := #[{ on := 10, ground := Ground.data }, { on := 10, ground := Ground.chain }, { on := 0, ground := Ground.phase }, { on := 1, ground := Ground.phase }, { on := 2, ground := Ground.phase }, { on := 3, ground := Ground.phase }, { on := 4, ground := Ground.phase }, { on := 5, ground := Ground.phase }, { on := 6, ground := Ground.phase }, { on := 7, ground := Ground.phase }, { on := 8, ground := Ground.phase }, { on := 9, ground := Ground.phase }, { on := 10, ground := Ground.phase }], guard := none }) (v := ?v92) rfl (by kernel_rfl) (by kernel_rfl) (by kernel_rfl) (fun _ _ _ h => h) (Or.inl ⟨rfl, ?hy92⟩) hHeld91 ?rest92
  case hy92 => (intro w hSw; (try dsimp only at hSw); go_simp <;> first | with_reducible rfl | rw [if_neg (by omega)] | rw [if_pos (by omega)])
  (try simp only [Act.put]); (try simp only [List.setIfInBounds_toArray]); (try simp only [List.set_cons_succ]); (try simp only [List.set_cons_zero])
  refine wpAnyH_done (by kernel_rfl) ?_ _
  clear hHeld91
  go_wp2_with fail
  refine (s_Join [headB 6, anm, starB afr, starB ato] _ v2 w6 hown6 (by simp) (by simp) HS.out).mono ?_
  rintro e w8 ⟨rfl, hE8⟩
  go_wp2_with fail
  go_ret
  exact ⟨by rw [HT.out]; rfl, (hx.trans hE6).trans hE8⟩

set_option maxRecDepth 100000 in
set_option maxHeartbeats 3200000 in
theorem s_Text7 (m : Nat) (anm aky afr ato : ByteArray) (w : World) (hw : LaidW w) (hok : chkR ⟨7, (m : Int), anm, aky, afr, ato⟩ = 0) : Calls Tryd.prog 13 #[.agg #[.int .i64 7, .int .i64 (m : Int), .string anm, .string aky, .string afr, .string ato]] w fun e w' => e = .returned (.string (asB (textL ⟨7, (m : Int), anm, aky, afr, ato⟩))) ∧ Ext w w' := by
  obtain ⟨-, -, hnum, hk1, hk2, hnm, hky, hfr, hto⟩ := chkR_ok hok
  simp only at hnum hk1 hk2 hnm hky hfr hto
  have z1 := name_size hnm
  have z2 : aky.size ≤ 20 := by have := hk1 rfl; omega
  have z3 := star_size hfr
  have z4 := star_size hto
  have z5 := word_size (m : Int)
  have z7 := head_size 7
  replace hnum : m ≤ 4000 := by have h : (0 : Int) ≤ (m : Int) ∧ (m : Int) ≤ 4000 := (by simpa [numB] using hnum); omega
  have z6 : (asB (Lib.itoa (m : Int))).size ≤ 20 := by
    have h := digits_size hnum
    unfold Lib.itoa
    rw [if_neg (by omega)]
    simpa using Nat.le_trans h (by decide)
  have HT := Lib.hid (show textL ⟨7, (m : Int), anm, aky, afr, ato⟩ = joinW ([headB 7, anm, asB (Lib.itoa (m : Int))].map (·.data.toList)) by unfold textL; rw [if_pos hok]; rfl)
  have HS := Lib.hid (show ∀ x ∈ [headB 7, anm, asB (Lib.itoa (m : Int))], x.size ≤ 20 by
    intro x hx
    simp only [List.mem_cons, List.not_mem_nil, or_false] at hx
    rcases hx with rfl | rfl | rfl <;> omega)
  clear hk1 hk2 hnm hky hfr hto z1 z2 z3 z4 z5 z7 z6
  have HC := Lib.hid (fun W => s_Check ⟨7, (m : Int), anm, aky, afr, ato⟩ W)
  have HF := Lib.hid (fun W => (by exact s_fields 7 W : Calls Tryd.prog 26 #[.int .i64 7] W fun e w' => e = .returned (.tuple #[.agg #[.bool false, .bool true, .bool false], .bool true]) ∧ Below W.heap.size W w'))
  have HOK := Lib.hid hok
  obtain ⟨g, w1, hg, hw1, hb, hx, -⟩ := box_rule w ⟨7, (m : Int), anm, aky, afr, ato⟩ 23
  obtain ⟨c0, c1, c2, c3, c4, c5⟩ := id hb
  simp only at c0 c1 c2 c3 c4 c5 hw1
  have HW1 := Lib.hid hw1
  have HG := Lib.hid hg
  clear hw1 hg hok
  go_enter Tryd.func13, Tryd.ntmps13
  go_wp2_with fail
  rw [← HW1.out, ← HG.out]
  go_wp2_with fail
  refine (HC.out _).mono ?_
  rintro e w2 ⟨rfl, hb2⟩
  have hb2 : Ext w1 w2 := hb2
  replace hb := hb.ext hb2
  replace hx := hx.trans hb2
  rw [HOK.out]
  clear c0 c1 c2 c3 c4 c5 hb2 HW1 HG HC HOK
  have MK := Lib.hid (fun V (e : Ext w2 V) => mk_one hb e)
  go_wp2_with fail
  refine wp_region_held_drew (S := (fun V => V.cell? ⟨g, 0, none⟩ = some (.int .i64 7) ∧ V.cell? ⟨g, 1, none⟩ = some (.int .i64 (m : Int)) ∧ V.cell? ⟨g, 2, none⟩ = some (.string anm) ∧ V.cell? ⟨g, 3, none⟩ = some (.string aky) ∧ V.cell? ⟨g, 4, none⟩ = some (.string afr) ∧ V.cell? ⟨g, 5, none⟩ = some (.string ato) ∧ Ext w2 V)) (by kernel_rfl) ?hs93 (fun hHeld => ?go93)
  case hs93 => (exact MK.out _ (by repeat (first | with_reducible exact Ext.refl _ | with_reducible assumption | with_reducible refine Ext.drew ?_ | with_reducible refine Ext.drewN ?_ _ | with_reducible refine Ext.alloc ?_ _)))
  refine wpAnyH_take (i := 0) (oi := { dst := (some 9), op := (Op.fieldAddr 23 (Operand.tmp 1) 0), type := 0, pos := "schema.go:139", after := #[], guard := none }) (v := ?v94) rfl (by kernel_rfl) (by kernel_rfl) (by kernel_rfl) (fun _ _ _ h => h) (Or.inl ⟨rfl, ?hy94⟩) hHeld ?rest94
  case hy94 => (intro w hSw; (try dsimp only at hSw); go_simp <;> first | with_reducible rfl | rw [if_neg (by omega)] | rw [if_pos (by omega)])
  (try simp only [Act.put]); (try simp only [List.setIfInBounds_toArray]); (try simp only [List.set_cons_succ]); (try simp only [List.set_cons_zero])
  refine wpAnyH_take (i := 1) (oi := { dst := (some 10), op := (Op.load 3 (Operand.tmp 9)), type := 3, pos := "schema.go:139", after := #[{ on := 0, ground := Ground.data }], guard := none }) (v := ?v95) rfl (by kernel_rfl) (by kernel_rfl) (by kernel_rfl) (fun _ _ _ h => h) (Or.inl ⟨rfl, ?hy95⟩) hHeld ?rest95
  case hy95 => (intro w hSw; (try dsimp only at hSw); go_simp <;> first | with_reducible rfl | rw [if_neg (by omega)] | rw [if_pos (by omega)])
  (try simp only [Act.put]); (try simp only [List.setIfInBounds_toArray]); (try simp only [List.set_cons_succ]); (try simp only [List.set_cons_zero])
  refine wpAnyH_take (i := 3) (oi := { dst := (some 12), op := (Op.fieldAddr 23 (Operand.tmp 1) 2), type := 0, pos := "schema.go:139", after := #[], guard := none }) (v := ?v96) rfl (by kernel_rfl) (by kernel_rfl) (by kernel_rfl) (fun _ _ _ h => h) (Or.inl ⟨rfl, ?hy96⟩) hHeld ?rest96
  case hy96 => (intro w hSw; (try dsimp only at hSw); go_simp <;> first | with_reducible rfl | rw [if_neg (by omega)] | rw [if_pos (by omega)])
  (try simp only [Act.put]); (try simp only [List.setIfInBounds_toArray]); (try simp only [List.set_cons_succ]); (try simp only [List.set_cons_zero])
  refine wpAnyH_take (i := 4) (oi := { dst := (some 13), op := (Op.load 9 (Operand.tmp 12)), type := 9, pos := "schema.go:139", after := #[{ on := 3, ground := Ground.data }], guard := none }) (v := ?v97) rfl (by kernel_rfl) (by kernel_rfl) (by kernel_rfl) (fun _ _ _ h => h) (Or.inl ⟨rfl, ?hy97⟩) hHeld ?rest97
  case hy97 => (intro w hSw; (try dsimp only at hSw); go_simp <;> first | with_reducible rfl | rw [if_neg (by omega)] | rw [if_pos (by omega)])
  (try simp only [Act.put]); (try simp only [List.setIfInBounds_toArray]); (try simp only [List.set_cons_succ]); (try simp only [List.set_cons_zero])
  refine wpAnyH_ready (rs := [2]) (by kernel_rfl) (by simp) ?_
  refine AllReadyH.cons (o := { dst := (some 11), op := (Op.call { callee := (Callee.value (Operand.func 24)), args := #[(Operand.tmp 10)], argTypes := #[3] }), type := 9, pos := "schema.go:139", after := #[{ on := 1, ground := Ground.data }], guard := none }) rfl (fun K hK => ?step98x0) ?more98x0
  case more98x0 => exact AllReadyH.nil
  go_simp
  (go_at_call 24; refine (s_head 7 _ (by decide) (by decide)).mono ?_; rintro e w' ⟨rfl, rfl⟩)
  refine hK.out _ _ ?hS98x0 (fun hHeld98 => ?rest98x0)
  case hS98x0 => first | (exact MK.out _ (by repeat (first | with_reducible exact Ext.refl _ | with_reducible assumption | with_reducible refine Ext.drew ?_ | with_reducible refine Ext.drewN ?_ _ | with_reducible refine Ext.alloc ?_ _))) | ((try dsimp only); (exact MK.out _ (by repeat (first | with_reducible exact Ext.refl _ | with_reducible assumption | with_reducible refine Ext.drew ?_ | with_reducible refine Ext.drewN ?_ _ | with_reducible refine Ext.alloc ?_ _))))
  clear hK K
  clear hHeld
  (try simp only [Act.put]); (try simp only [List.setIfInBounds_toArray]); (try simp only [List.set_cons_succ]); (try simp only [List.set_cons_zero])
  refine wpAnyH_ready (rs := [5]) (by kernel_rfl) (by simp) ?_
  refine AllReadyH.cons (o := { dst := (some 14), op := (Op.buildSlice 51 2 #[(0, (Operand.tmp 11)), (1, (Operand.tmp 13))]), type := 51, pos := "schema.go:139", after := #[{ on := 2, ground := Ground.data }, { on := 4, ground := Ground.data }], guard := none }) rfl (fun K hK => ?step99x0) ?more99x0
  case more99x0 => exact AllReadyH.nil
  go_simp
  refine hK.out _ _ ?hS99x0 (fun hHeld99 => ?rest99x0)
  case hS99x0 => first | (exact MK.out _ (by repeat (first | with_reducible exact Ext.refl _ | with_reducible assumption | with_reducible refine Ext.drew ?_ | with_reducible refine Ext.drewN ?_ _ | with_reducible refine Ext.alloc ?_ _))) | ((try dsimp only); (exact MK.out _ (by repeat (first | with_reducible exact Ext.refl _ | with_reducible assumption | with_reducible refine Ext.drew ?_ | with_reducible refine Ext.drewN ?_ _ | with_reducible refine Ext.alloc ?_ _))))
  clear hK K
  clear hHeld98
  (try simp only [Act.put]); (try simp only [List.setIfInBounds_toArray]); (try simp only [List.set_cons_succ]); (try simp only [List.set_cons_zero])
  refine wpAnyH_take (i := 6) (oi := { dst := (some 3), op := (Op.assign (Operand.tmp 14)), type := 51, pos := "schema.go:139", after := #[{ on := 5, ground := Ground.data }, { on := 2, ground := Ground.chain }, { on := 0, ground := Ground.phase }, { on := 1, ground := Ground.phase }, { on := 2, ground := Ground.phase }, { on := 3, ground := Ground.phase }, { on := 4, ground := Ground.phase }, { on := 5, ground := Ground.phase }], guard := none }) (v := ?v100) rfl (by kernel_rfl) (by kernel_rfl) (by kernel_rfl) (fun _ _ _ h => h) (Or.inl ⟨rfl, ?hy100⟩) hHeld99 ?rest100
  case hy100 => (intro w hSw; (try dsimp only at hSw); go_simp <;> first | with_reducible rfl | rw [if_neg (by omega)] | rw [if_pos (by omega)])
  (try simp only [Act.put]); (try simp only [List.setIfInBounds_toArray]); (try simp only [List.set_cons_succ]); (try simp only [List.set_cons_zero])
  refine wpAnyH_done (by kernel_rfl) ?_ _
  clear hHeld99
  obtain ⟨c0, c1, c2, c3, c4, c5, -⟩ := MK.out ((w2.alloc (.cells #[.string (headB 7), .string anm] 9)).drew) (by repeat (first | with_reducible exact Ext.refl _ | with_reducible assumption | with_reducible refine Ext.drew ?_ | with_reducible refine Ext.drewN ?_ _ | with_reducible refine Ext.alloc ?_ _))
  go_wp2_with fail
  refine (HF.out _).mono ?_
  rintro e w4 ⟨rfl, hb4⟩
  have hb4 : Ext (w2.alloc (.cells #[.string (headB 7), .string anm] 9)).drew w4 := hb4
  replace hb4 : Ext (w2.alloc (.cells #[.string (headB 7), .string anm] 9)) w4 := ((Ext.refl _).drew).trans hb4
  have hE4 : Ext w2 w4 := Ext.trans (by repeat (first | with_reducible exact Ext.refl _ | with_reducible assumption | with_reducible refine Ext.drew ?_ | with_reducible refine Ext.drewN ?_ _ | with_reducible refine Ext.alloc ?_ _)) hb4
  have hown4 := own_ext (World.ownsRow_lit (size := 1) (e := 9) w2 #[.string (headB 7), .string anm] 2 (Nat.le_refl _) (by unfold maxLen; omega) rfl) hb4
  clear c0 c1 c2 c3 c4 c5 hb4 HF
  obtain ⟨g5, w5, hg5, hw5, u0, u1, u2, hE5⟩ := box_uses w4 false true false
  have HW5 := Lib.hid hw5
  have HG5 := Lib.hid hg5
  clear hw5 hg5
  go_upto_region 6 with (fail)
  rw [← HW5.out, ← HG5.out]
  have hown5 := own_ext hown4 hE5
  replace hE5 := hE4.trans hE5
  clear HW5 HG5 hown4 hE4
  obtain ⟨c0, c1, c2, c3, c4, c5⟩ := id (hb.ext hE5)
  simp only at c0 c1 c2 c3 c4 c5
  have HO := Lib.hid hown5
  clear hown5
  have HI := Lib.hid (fun W (h : Ext w W) => Tryd.strconv_Itoa (m : Int) (by omega) (by omega) W (hw.below h).tab)
  clear hw
  have hx5 := hx.trans hE5
  go_wp2_with fail
  refine (HI.out _ hx5).mono ?_
  rintro e w7 ⟨rfl, k7, os7, rfl⟩
  have hb7 : Ext w5 (Sort.grow (w5.drewN k7) os7) := Lib.below_grow w5.heap.size w5 (Nat.le_refl _) k7 os7
  have hE7 := hE5.trans hb7
  have hown7 := own_ext HO.out hb7
  have HO7 := Lib.hid hown7
  clear hown7 HO HI c0 c1 c2 c3 c4 c5 u0 u1 u2 hx5
  clear hb7
  generalize Sort.grow (w5.drewN k7) os7 = w7 at hE7 HO7 ⊢
  go_wp2_with (at_builtin; refine own_push T_str rfl (.tmp 21) (.tmp 25) rfl w2 w7 _ 2 _ (strC (asB (Lib.itoa (m : Int)))) rfl HO7.out hE7 rfl rfl (strC_len _) (strC_one _) (by omega) (by decide) ?_; intro v2 w6 hown6 hE6)
  go_wp2_with fail
  refine (s_Join [headB 7, anm, asB (Lib.itoa (m : Int))] _ v2 w6 hown6 (by simp) (by simp) HS.out).mono ?_
  rintro e w8 ⟨rfl, hE8⟩
  go_wp2_with fail
  go_ret
  exact ⟨by rw [HT.out]; rfl, (hx.trans hE6).trans hE8⟩

set_option maxHeartbeats 800000 in
theorem s_Text (a : RuleP) (w : World) (hw : LaidW w) : Calls Tryd.prog 13 #[a.val] w fun e w' => e = .returned (.string (asB (textL a))) ∧ Ext w w' := by
  by_cases hok : chkR a = 0
  · obtain ⟨h1, h7, hnum, -⟩ := chkR_ok hok
    obtain ⟨ak, an, anm, aky, afr, ato⟩ := a
    simp only at h1 h7 hnum
    have hk : ak = 1 ∨ ak = 2 ∨ ak = 3 ∨ ak = 4 ∨ ak = 5 ∨ ak = 6 ∨ ak = 7 := by omega
    rcases hk with rfl | rfl | rfl | rfl | rfl | rfl | rfl
    · exact s_Text1 an anm aky afr ato w hok
    · exact s_Text2 an anm aky afr ato w hok
    · exact s_Text3 an anm aky afr ato w hok
    · exact s_Text4 an anm aky afr ato w hok
    · exact s_Text5 an anm aky afr ato w hok
    · exact s_Text6 an anm aky afr ato w hok
    · have h : (0 : Int) ≤ an := by
        have h : (0 : Int) ≤ an ∧ an ≤ 4000 := by simpa [numB] using hnum
        exact h.1
      obtain ⟨m, rfl⟩ := Int.eq_ofNat_of_zero_le h
      exact s_Text7 m anm aky afr ato w hw hok
  · have HT := Lib.hid (show textL a = [] by unfold textL; rw [if_neg hok])
    have HC := Lib.hid (fun W => s_Check a W)
    obtain ⟨g, w1, hg, hw1, hb, hx, -⟩ := box_rule w a 23
    obtain ⟨c0, c1, c2, c3, c4, c5⟩ := id hb
    have HW1 := Lib.hid hw1
    have HG := Lib.hid hg
    have hok' : (chkR a != 0) = true := by simpa using hok
    clear hw1 hg hok hw
    show Calls Tryd.prog _ #[.agg #[.int .i64 a.kind, .int .i64 a.n, .string a.name, .string a.key, .string a.frm, .string a.tov]] w _
    go_enter Tryd.func13, Tryd.ntmps13
    go_wp2_with fail
    rw [← HW1.out, ← HG.out]
    go_wp2_with fail
    refine (HC.out _).mono ?_
    rintro e w2 ⟨rfl, hb2⟩
    have hb2 : Ext w1 w2 := hb2
    go_wp2_with fail
    go_ret
    exact ⟨congrArg Ending.returned (congrArg Value.string (asB_eq (by rw [HT.out]))), hx.trans hb2⟩

end Go.Proofs.YtanclhcoiagcfaaDoor
