/- THE WALKS over slices.Insert in place and slices.Delete. -/
import Derived.Test.YtanclhcoiagcfaaGreatDoorSchP
import Derived.Lib.Overlaps
namespace Go.Proofs.YtanclhcoiagcfaaGreatDoor
open Go.RowKit

theorem zero_one : ∀ v ∈ (Builtin.zeroCells zeroAgg.cells 1).toList, v.oneCell' = true := by
  have h : (Builtin.zeroCells zeroAgg.cells 1).toList = [.int .i64 0, .int .i64 0, .string ⟨#[]⟩, .string ⟨#[]⟩, .string ⟨#[]⟩, .string ⟨#[]⟩] := by kernel_rfl
  rw [h]
  intro v hv
  simp only [List.mem_cons, List.not_mem_nil, or_false] at hv
  rcases hv with rfl | rfl | rfl | rfl | rfl | rfl <;> rfl

set_option maxRecDepth 100000 in
set_option maxHeartbeats 3200000 in
theorem s_Delete_last (wb w : World) (s : List RuleP) (g i : Nat) (cur : List Value) (hB : Blk w g 23 cur) (hcl : cur.length = (i + 1) * 6) (hx : cur.take ((i + 1) * 6) = flatR s) (hg : wb.heap.size ≤ g) (hE : Ext wb w) (hn : s.length = i + 1) (hl : s.length ≤ 1000) :
    Calls Tryz.prog 41 #[.slice (some ⟨g, 0, none⟩) (i + 1) (i + 1), .int .i64 (i : Int), .int .i64 ((i : Int) + 1)] w fun e w' => ∃ v', e = .returned v' ∧ w'.ownsRow wb.heap.size 23 6 v' i (flatR (s.take i ++ s.drop (i + 1))) ∧ Ext wb w' := by
  have hfl := flatR_len s
  rw [hn] at hfl hl
  have hwl := hE.le
  obtain ⟨D, hD⟩ : ∃ D, D = (flatR s).drop ((i + 1) * 6) := ⟨_, rfl⟩
  have hDl : D.length = 0 * 6 := by rw [hD, List.length_drop, hfl]; omega
  have hD1 : ∀ u ∈ D, u.oneCell' = true := by intro u hu; rw [hD] at hu; exact flatR_one s u (List.mem_of_mem_drop hu)
  have hsrc : ∀ j v, D[j]? = some v → w.drew.cell? ((⟨g, 0, none⟩ : Addr).add j) = some v := fun j v hj => by
    have hj2 : j < D.length := (List.getElem?_eq_some_iff.1 hj).1
    rw [hDl] at hj2
    omega
  obtain ⟨X, hX⟩ : ∃ X, X = laidAt cur (i * 6) D := ⟨_, rfl⟩
  have hXl : X.length = (i + 1) * 6 := by rw [hX, laidAt_len (by rw [hDl, hcl]; omega), hcl]
  obtain ⟨W2, hW2⟩ : ∃ W2, W2 = w.drew.setRow g X.toArray := ⟨_, rfl⟩
  have hap : ∀ ty c', (Builtin.append_ #[30, 30] ty #[.slice (some ⟨g, 0, none⟩) i (i + 1), .slice (some ⟨g, 0, none⟩) 0 c']).run Tryz.prog w.drew = .ok (.slice (some ⟨g, 0, none⟩) i (i + 1)) W2 := fun ty c' => by
    have h := run_append_fitK (P := Tryz.prog) w.drew 30 ty 23 6 g 0 i (i + 1) ⟨g, 0, none⟩ 0 c' cur 23 D Tryz.underlying30 size_rule hB hDl (by omega) hsrc (by rw [hDl, hcl]; omega) hD1
    rw [Nat.zero_add, ← hX, ← hW2, show i + 0 = i by omega] at h
    exact h
  have hB2 : Blk W2 g 23 X := by rw [hW2]; exact Blk.set (w := w.drew) hB _
  have hE2 : Ext wb W2 := by rw [hW2]; exact (hE.drew).setRow hg _
  obtain ⟨Y, hY⟩ : ∃ Y, Y = laidAt X (i * 6) (Builtin.zeroCells zeroAgg.cells 1).toList := ⟨_, rfl⟩
  have hz6 : (Builtin.zeroCells zeroAgg.cells 1).toList.length = 6 := by rw [Array.length_toList, zero_len]
  have hYl : Y.length = (i + 1) * 6 := by rw [hY, laidAt_len (by rw [hz6, hXl]; omega), hXl]
  obtain ⟨W3, hW3⟩ : ∃ W3, W3 = W2.setRow g Y.toArray := ⟨_, rfl⟩
  have hcr : ∀ ty c', (Builtin.clear_ #[30] ty #[.slice (some ⟨g, i * 6, none⟩) 1 c']).run Tryz.prog W2 = .ok (.tuple #[]) W3 := fun ty c' => by
    have h := run_clearK (P := Tryz.prog) W2 30 ty 23 g (i * 6) 1 c' zeroAgg X 23 Tryz.underlying30 zero_rule (by omega) hB2 (by rw [zero_len, hXl]; omega) zero_one
    rw [← hY, ← hW3] at h
    exact h
  have HF := Lib.hid (show flatR (s.take i ++ s.drop (i + 1)) = Y.take (i * 6) by
    have h1 : Y.take (i * 6) = X.take (i * 6) := by rw [hY]; exact take_laid_lt (by rw [hXl]; omega) (Nat.le_refl _)
    have h2 : X.take (i * 6) = cur.take (i * 6) ++ D := by
      have h := take_laid (cs := D) (cur := cur) (o := i * 6) (by rw [hcl]; omega)
      rw [← hX, hDl, show i * 6 + 0 * 6 = i * 6 by omega] at h
      exact h
    have h3 : cur.take (i * 6) = (flatR s).take (i * 6) := by rw [← hx, List.take_take, Nat.min_eq_left (by omega)]
    rw [h1, h2, h3, hD]
    unfold flatR
    rw [flat_takeK RuleP.cells 6 RuleP.cells_len, flat_dropK RuleP.cells 6 RuleP.cells_len, List.flatMap_append])
  have HB := Lib.hid (show Blk W3 g 23 Y by rw [hW3]; exact hB2.set _)
  have HE := Lib.hid (show Ext wb W3 by rw [hW3]; exact hE2.setRow hg _)
  have HYl := Lib.hid hYl
  have hw1 : IntKind.i64.wrap ((i : Int) + 1) = (i : Int) + 1 := IntWalk.i64_in _ (by omega)
  have hb1 : (0 : Int) ≤ (i : Int) + 1 := by omega
  have htn : ((i : Int) + 1).toNat = i + 1 := by omega
  have hne : ¬ ((i : Int) = (i : Int) + 1) := by omega
  have hle : (i : Int) ≤ (i : Int) + 1 := by omega
  have hf1 : ¬ ((i + 1) = i) := by omega
  have hq : ((i + 1 : Nat) : Int) = (i : Int) + 1 := by omega
  have hq2 : ¬ (i + 1 = i) := by omega
  clear hX hXl hW2 hY hYl hW3 hz6 hD hDl hD1 hsrc hcl hx hfl hB hB2 hE2 hn
  go_enter Tryz.func41, Tryz.ntmps41
  go_wp2_with fail
  refine wp_region_held_drew (S := (fun _ => True)) (by kernel_rfl) ?hs1 (fun hHeld => ?go1)
  case hs1 => (exact trivial)
  refine wpAnyH_take (i := 0) (oi := { dst := (some 20), op := (Op.move (Operand.tmp 0)), type := 30, pos := "slices.go:232", after := #[], guard := none }) (v := ?v2) rfl (by kernel_rfl) (by kernel_rfl) (by kernel_rfl) (fun _ _ _ h => h) (Or.inl ⟨rfl, ?hy2⟩) hHeld ?rest2
  case hy2 => (intro w hSw; (try dsimp only at hSw); go_simp <;> with_reducible rfl)
  (try simp only [Act.put]); (try simp only [List.setIfInBounds_toArray]); (try simp only [List.set_cons_succ]); (try simp only [List.set_cons_zero])
  refine wpAnyH_take (i := 1) (oi := { dst := (some 21), op := (Op.move (Operand.tmp 1)), type := 3, pos := "slices.go:232", after := #[], guard := none }) (v := ?v3) rfl (by kernel_rfl) (by kernel_rfl) (by kernel_rfl) (fun _ _ _ h => h) (Or.inl ⟨rfl, ?hy3⟩) hHeld ?rest3
  case hy3 => (intro w hSw; (try dsimp only at hSw); go_simp <;> with_reducible rfl)
  (try simp only [Act.put]); (try simp only [List.setIfInBounds_toArray]); (try simp only [List.set_cons_succ]); (try simp only [List.set_cons_zero])
  refine wpAnyH_take (i := 2) (oi := { dst := (some 22), op := (Op.slice 30 (Operand.tmp 20) none (some (Operand.tmp 21)) none), type := 30, pos := "slices.go:232", after := #[{ on := 0, ground := Ground.data }, { on := 1, ground := Ground.data }], guard := none }) (v := ?v4) rfl (by kernel_rfl) (by kernel_rfl) (by kernel_rfl) (fun _ _ _ h => h) (Or.inl ⟨rfl, ?hy4⟩) hHeld ?rest4
  case hy4 => (intro w hSw; (try dsimp only at hSw); go_simp <;> with_reducible rfl)
  (try simp only [Act.put]); (try simp only [List.setIfInBounds_toArray]); (try simp only [List.set_cons_succ]); (try simp only [List.set_cons_zero])
  refine wpAnyH_take (i := 3) (oi := { dst := (some 23), op := (Op.move (Operand.tmp 0)), type := 30, pos := "slices.go:232", after := #[], guard := none }) (v := ?v5) rfl (by kernel_rfl) (by kernel_rfl) (by kernel_rfl) (fun _ _ _ h => h) (Or.inl ⟨rfl, ?hy5⟩) hHeld ?rest5
  case hy5 => (intro w hSw; (try dsimp only at hSw); go_simp <;> with_reducible rfl)
  (try simp only [Act.put]); (try simp only [List.setIfInBounds_toArray]); (try simp only [List.set_cons_succ]); (try simp only [List.set_cons_zero])
  refine wpAnyH_take (i := 4) (oi := { dst := (some 24), op := (Op.move (Operand.tmp 2)), type := 3, pos := "slices.go:232", after := #[], guard := none }) (v := ?v6) rfl (by kernel_rfl) (by kernel_rfl) (by kernel_rfl) (fun _ _ _ h => h) (Or.inl ⟨rfl, ?hy6⟩) hHeld ?rest6
  case hy6 => (intro w hSw; (try dsimp only at hSw); go_simp <;> with_reducible rfl)
  (try simp only [Act.put]); (try simp only [List.setIfInBounds_toArray]); (try simp only [List.set_cons_succ]); (try simp only [List.set_cons_zero])
  refine wpAnyH_take (i := 5) (oi := { dst := (some 25), op := (Op.slice 30 (Operand.tmp 23) (some (Operand.tmp 24)) none none), type := 30, pos := "slices.go:232", after := #[{ on := 3, ground := Ground.data }, { on := 4, ground := Ground.data }], guard := none }) (v := ?v7) rfl (by kernel_rfl) (by kernel_rfl) (by kernel_rfl) (fun _ _ _ h => h) (Or.inl ⟨rfl, ?hy7⟩) hHeld ?rest7
  case hy7 => (intro w hSw; (try dsimp only at hSw); go_simp <;> with_reducible rfl)
  (try simp only [Act.put]); (try simp only [List.setIfInBounds_toArray]); (try simp only [List.set_cons_succ]); (try simp only [List.set_cons_zero])
  refine wpAnyH_ready (rs := [6]) (by kernel_rfl) (by simp) ?_
  refine AllReadyH.cons (o := { dst := (some 26), op := (Op.call { callee := (Callee.builtin Builtin.append), args := #[(Operand.tmp 22), (Operand.tmp 25)], argTypes := #[30, 30] }), type := 30, pos := "slices.go:232", after := #[{ on := 2, ground := Ground.data }, { on := 5, ground := Ground.data }], guard := none }) rfl (fun K hK => ?step8x0) ?more8x0
  case more8x0 => exact AllReadyH.nil
  refine step_append_run' rfl (.tmp 22) (.tmp 25) 30 30 rfl _ _ rfl rfl (hap _ _) ?_
  refine hK.out _ _ ?hS8x0 (fun hHeld8 => ?rest8x0)
  case hS8x0 => first | (exact trivial) | ((try dsimp only); (exact trivial))
  clear hK K
  clear hHeld
  (try simp only [Act.put]); (try simp only [List.setIfInBounds_toArray]); (try simp only [List.set_cons_succ]); (try simp only [List.set_cons_zero])
  refine wpAnyH_take (i := 7) (oi := { dst := (some 0), op := (Op.assign (Operand.tmp 26)), type := 30, pos := "slices.go:232", after := #[{ on := 6, ground := Ground.data }, { on := 6, ground := Ground.chain }, { on := 0, ground := Ground.phase }, { on := 1, ground := Ground.phase }, { on := 2, ground := Ground.phase }, { on := 3, ground := Ground.phase }, { on := 4, ground := Ground.phase }, { on := 5, ground := Ground.phase }, { on := 6, ground := Ground.phase }], guard := none }) (v := ?v9) rfl (by kernel_rfl) (by kernel_rfl) (by kernel_rfl) (fun _ _ _ h => h) (Or.inl ⟨rfl, ?hy9⟩) hHeld8 ?rest9
  case hy9 => (intro w hSw; (try dsimp only at hSw); go_simp <;> with_reducible rfl)
  (try simp only [Act.put]); (try simp only [List.setIfInBounds_toArray]); (try simp only [List.set_cons_succ]); (try simp only [List.set_cons_zero])
  refine wpAnyH_done (by kernel_rfl) ?_ _
  clear hHeld8
  go_wp2_with fail
  
  go_ret
  exact ⟨_, rfl, HB.out.own hg (by omega) (by unfold maxLen; omega) HYl.out HF.out, HE.out⟩

set_option maxRecDepth 100000 in
set_option maxHeartbeats 3200000 in
theorem s_Delete_mid (wb w : World) (s : List RuleP) (g cap i m : Nat) (cur : List Value) (hB : Blk w g 23 cur) (hcl : cur.length = cap * 6) (hx : cur.take ((m + 1) * 6) = flatR s) (hg : wb.heap.size ≤ g) (hE : Ext wb w) (hn : s.length = m + 1) (hl : s.length ≤ 1000) (hi : i ≤ m) (hcap : m + 1 ≤ cap) (hcm : cap ≤ maxLen) (hci : ¬ cap = i + 1) :
    Calls Tryz.prog 41 #[.slice (some ⟨g, 0, none⟩) (m + 1) cap, .int .i64 (i : Int), .int .i64 ((i : Int) + 1)] w fun e w' => ∃ v', e = .returned v' ∧ w'.ownsRow wb.heap.size 23 6 v' m (flatR (s.take i ++ s.drop (i + 1))) ∧ Ext wb w' := by
  have hfl := flatR_len s
  rw [hn] at hfl hl
  have hwl := hE.le
  obtain ⟨D, hD⟩ : ∃ D, D = (flatR s).drop ((i + 1) * 6) := ⟨_, rfl⟩
  have hDl : D.length = (m - i) * 6 := by rw [hD, List.length_drop, hfl]; omega
  have hD1 : ∀ u ∈ D, u.oneCell' = true := by intro u hu; rw [hD] at hu; exact flatR_one s u (List.mem_of_mem_drop hu)
  have hsrc : ∀ j v, D[j]? = some v → w.drew.cell? ((⟨g, (i + 1) * 6, none⟩ : Addr).add j) = some v := fun j v hj => by
    have hj2 : j < D.length := (List.getElem?_eq_some_iff.1 hj).1
    rw [hDl] at hj2
    rw [Addr.add_mid]
    show w.cell? _ = _
    rw [hB.cell]
    rw [hD, ← hx, List.getElem?_drop, List.getElem?_take, if_pos (by omega)] at hj
    exact hj
  obtain ⟨X, hX⟩ : ∃ X, X = laidAt cur (i * 6) D := ⟨_, rfl⟩
  have hXl : X.length = cap * 6 := by rw [hX, laidAt_len (by rw [hDl, hcl]; omega), hcl]
  obtain ⟨W2, hW2⟩ : ∃ W2, W2 = w.drew.setRow g X.toArray := ⟨_, rfl⟩
  have hap : ∀ ty c', (Builtin.append_ #[30, 30] ty #[.slice (some ⟨g, 0, none⟩) i cap, .slice (some ⟨g, (i + 1) * 6, none⟩) (m - i) c']).run Tryz.prog w.drew = .ok (.slice (some ⟨g, 0, none⟩) m cap) W2 := fun ty c' => by
    have h := run_append_fitK (P := Tryz.prog) w.drew 30 ty 23 6 g 0 i cap ⟨g, (i + 1) * 6, none⟩ (m - i) c' cur 23 D Tryz.underlying30 size_rule hB hDl (by omega) hsrc (by rw [hDl, hcl]; omega) hD1
    rw [Nat.zero_add, ← hX, ← hW2, show i + (m - i) = m by omega] at h
    exact h
  have hB2 : Blk W2 g 23 X := by rw [hW2]; exact Blk.set (w := w.drew) hB _
  have hE2 : Ext wb W2 := by rw [hW2]; exact (hE.drew).setRow hg _
  obtain ⟨Y, hY⟩ : ∃ Y, Y = laidAt X (m * 6) (Builtin.zeroCells zeroAgg.cells 1).toList := ⟨_, rfl⟩
  have hz6 : (Builtin.zeroCells zeroAgg.cells 1).toList.length = 6 := by rw [Array.length_toList, zero_len]
  have hYl : Y.length = cap * 6 := by rw [hY, laidAt_len (by rw [hz6, hXl]; omega), hXl]
  obtain ⟨W3, hW3⟩ : ∃ W3, W3 = W2.setRow g Y.toArray := ⟨_, rfl⟩
  have hcr : ∀ ty c', (Builtin.clear_ #[30] ty #[.slice (some ⟨g, m * 6, none⟩) 1 c']).run Tryz.prog W2 = .ok (.tuple #[]) W3 := fun ty c' => by
    have h := run_clearK (P := Tryz.prog) W2 30 ty 23 g (m * 6) 1 c' zeroAgg X 23 Tryz.underlying30 zero_rule (by omega) hB2 (by rw [zero_len, hXl]; omega) zero_one
    rw [← hY, ← hW3] at h
    exact h
  have HF := Lib.hid (show flatR (s.take i ++ s.drop (i + 1)) = Y.take (m * 6) by
    have h1 : Y.take (m * 6) = X.take (m * 6) := by rw [hY]; exact take_laid_lt (by rw [hXl]; omega) (Nat.le_refl _)
    have h2 : X.take (m * 6) = cur.take (i * 6) ++ D := by
      have h := take_laid (cs := D) (cur := cur) (o := i * 6) (by rw [hcl]; omega)
      rw [← hX, hDl, show i * 6 + (m - i) * 6 = m * 6 by omega] at h
      exact h
    have h3 : cur.take (i * 6) = (flatR s).take (i * 6) := by rw [← hx, List.take_take, Nat.min_eq_left (by omega)]
    rw [h1, h2, h3, hD]
    unfold flatR
    rw [flat_takeK RuleP.cells 6 RuleP.cells_len, flat_dropK RuleP.cells 6 RuleP.cells_len, List.flatMap_append])
  have HB := Lib.hid (show Blk W3 g 23 Y by rw [hW3]; exact hB2.set _)
  have HE := Lib.hid (show Ext wb W3 by rw [hW3]; exact hE2.setRow hg _)
  have HYl := Lib.hid hYl
  have hw1 : IntKind.i64.wrap ((i : Int) + 1) = (i : Int) + 1 := IntWalk.i64_in _ (by omega)
  have hb1 : (0 : Int) ≤ (i : Int) + 1 := by omega
  have htn : ((i : Int) + 1).toNat = i + 1 := by omega
  have hne : ¬ ((i : Int) = (i : Int) + 1) := by omega
  have hle : (i : Int) ≤ (i : Int) + 1 := by omega
  have hf1 : ¬ (cap = m) := by omega
  have HC := Lib.hid hcm
  have hcm' : cap ≤ 9223372036854775807 := by unfold maxLen at hcm; exact hcm
  have hq1 : ¬ (m + 1 = i) := by omega
  have hq2 : ¬ (cap = i) := by omega
  have hq5 : i ≤ cap := by omega
  have hq6 : (i : Int) ≤ (cap : Int) := by omega
  have hq7 : (i : Int) + 1 ≤ (cap : Int) := by omega
  have hq3 : (i : Int) + 1 ≤ (m : Int) + 1 := by omega
  have hq4 : (m : Int) + 1 ≤ (cap : Int) := by omega
  clear hcm
  clear hX hXl hW2 hY hYl hW3 hz6 hD hDl hD1 hsrc hcl hx hfl hB hB2 hE2 hn
  go_enter Tryz.func41, Tryz.ntmps41
  go_wp2_with fail
  refine wp_region_held_drew (S := (fun _ => True)) (by kernel_rfl) ?hs10 (fun hHeld => ?go10)
  case hs10 => (exact trivial)
  refine wpAnyH_take (i := 0) (oi := { dst := (some 20), op := (Op.move (Operand.tmp 0)), type := 30, pos := "slices.go:232", after := #[], guard := none }) (v := ?v11) rfl (by kernel_rfl) (by kernel_rfl) (by kernel_rfl) (fun _ _ _ h => h) (Or.inl ⟨rfl, ?hy11⟩) hHeld ?rest11
  case hy11 => (intro w hSw; (try dsimp only at hSw); go_simp <;> with_reducible rfl)
  (try simp only [Act.put]); (try simp only [List.setIfInBounds_toArray]); (try simp only [List.set_cons_succ]); (try simp only [List.set_cons_zero])
  refine wpAnyH_take (i := 1) (oi := { dst := (some 21), op := (Op.move (Operand.tmp 1)), type := 3, pos := "slices.go:232", after := #[], guard := none }) (v := ?v12) rfl (by kernel_rfl) (by kernel_rfl) (by kernel_rfl) (fun _ _ _ h => h) (Or.inl ⟨rfl, ?hy12⟩) hHeld ?rest12
  case hy12 => (intro w hSw; (try dsimp only at hSw); go_simp <;> with_reducible rfl)
  (try simp only [Act.put]); (try simp only [List.setIfInBounds_toArray]); (try simp only [List.set_cons_succ]); (try simp only [List.set_cons_zero])
  refine wpAnyH_take (i := 2) (oi := { dst := (some 22), op := (Op.slice 30 (Operand.tmp 20) none (some (Operand.tmp 21)) none), type := 30, pos := "slices.go:232", after := #[{ on := 0, ground := Ground.data }, { on := 1, ground := Ground.data }], guard := none }) (v := ?v13) rfl (by kernel_rfl) (by kernel_rfl) (by kernel_rfl) (fun _ _ _ h => h) (Or.inl ⟨rfl, ?hy13⟩) hHeld ?rest13
  case hy13 => (intro w hSw; (try dsimp only at hSw); go_simp <;> with_reducible rfl)
  (try simp only [Act.put]); (try simp only [List.setIfInBounds_toArray]); (try simp only [List.set_cons_succ]); (try simp only [List.set_cons_zero])
  refine wpAnyH_take (i := 3) (oi := { dst := (some 23), op := (Op.move (Operand.tmp 0)), type := 30, pos := "slices.go:232", after := #[], guard := none }) (v := ?v14) rfl (by kernel_rfl) (by kernel_rfl) (by kernel_rfl) (fun _ _ _ h => h) (Or.inl ⟨rfl, ?hy14⟩) hHeld ?rest14
  case hy14 => (intro w hSw; (try dsimp only at hSw); go_simp <;> with_reducible rfl)
  (try simp only [Act.put]); (try simp only [List.setIfInBounds_toArray]); (try simp only [List.set_cons_succ]); (try simp only [List.set_cons_zero])
  refine wpAnyH_take (i := 4) (oi := { dst := (some 24), op := (Op.move (Operand.tmp 2)), type := 3, pos := "slices.go:232", after := #[], guard := none }) (v := ?v15) rfl (by kernel_rfl) (by kernel_rfl) (by kernel_rfl) (fun _ _ _ h => h) (Or.inl ⟨rfl, ?hy15⟩) hHeld ?rest15
  case hy15 => (intro w hSw; (try dsimp only at hSw); go_simp <;> with_reducible rfl)
  (try simp only [Act.put]); (try simp only [List.setIfInBounds_toArray]); (try simp only [List.set_cons_succ]); (try simp only [List.set_cons_zero])
  refine wpAnyH_take (i := 5) (oi := { dst := (some 25), op := (Op.slice 30 (Operand.tmp 23) (some (Operand.tmp 24)) none none), type := 30, pos := "slices.go:232", after := #[{ on := 3, ground := Ground.data }, { on := 4, ground := Ground.data }], guard := none }) (v := ?v16) rfl (by kernel_rfl) (by kernel_rfl) (by kernel_rfl) (fun _ _ _ h => h) (Or.inl ⟨rfl, ?hy16⟩) hHeld ?rest16
  case hy16 => (intro w hSw; (try dsimp only at hSw); go_simp <;> with_reducible rfl)
  (try simp only [Act.put]); (try simp only [List.setIfInBounds_toArray]); (try simp only [List.set_cons_succ]); (try simp only [List.set_cons_zero])
  refine wpAnyH_ready (rs := [6]) (by kernel_rfl) (by simp) ?_
  refine AllReadyH.cons (o := { dst := (some 26), op := (Op.call { callee := (Callee.builtin Builtin.append), args := #[(Operand.tmp 22), (Operand.tmp 25)], argTypes := #[30, 30] }), type := 30, pos := "slices.go:232", after := #[{ on := 2, ground := Ground.data }, { on := 5, ground := Ground.data }], guard := none }) rfl (fun K hK => ?step17x0) ?more17x0
  case more17x0 => exact AllReadyH.nil
  refine step_append_run' rfl (.tmp 22) (.tmp 25) 30 30 rfl _ _ rfl rfl (hap _ _) ?_
  refine hK.out _ _ ?hS17x0 (fun hHeld17 => ?rest17x0)
  case hS17x0 => first | (exact trivial) | ((try dsimp only); (exact trivial))
  clear hK K
  clear hHeld
  (try simp only [Act.put]); (try simp only [List.setIfInBounds_toArray]); (try simp only [List.set_cons_succ]); (try simp only [List.set_cons_zero])
  refine wpAnyH_take (i := 7) (oi := { dst := (some 0), op := (Op.assign (Operand.tmp 26)), type := 30, pos := "slices.go:232", after := #[{ on := 6, ground := Ground.data }, { on := 6, ground := Ground.chain }, { on := 0, ground := Ground.phase }, { on := 1, ground := Ground.phase }, { on := 2, ground := Ground.phase }, { on := 3, ground := Ground.phase }, { on := 4, ground := Ground.phase }, { on := 5, ground := Ground.phase }, { on := 6, ground := Ground.phase }], guard := none }) (v := ?v18) rfl (by kernel_rfl) (by kernel_rfl) (by kernel_rfl) (fun _ _ _ h => h) (Or.inl ⟨rfl, ?hy18⟩) hHeld17 ?rest18
  case hy18 => (intro w hSw; (try dsimp only at hSw); go_simp <;> with_reducible rfl)
  (try simp only [Act.put]); (try simp only [List.setIfInBounds_toArray]); (try simp only [List.set_cons_succ]); (try simp only [List.set_cons_zero])
  refine wpAnyH_done (by kernel_rfl) ?_ _
  clear hHeld17
  go_wp2_with fail
  
  go_ret
  exact ⟨_, rfl, HB.out.own hg (by omega) HC.out HYl.out HF.out, HE.out⟩

set_option maxRecDepth 100000 in
set_option maxHeartbeats 3200000 in
theorem s_Insert_shift (wb w : World) (s : List RuleP) (r : RuleP) (g cap vb i : Nat) (cur : List Value) (hB : Blk w g 23 cur) (hcl : cur.length = cap * 6) (hx : cur.take (s.length * 6) = flatR s) (hg : wb.heap.size ≤ g) (hE : Ext wb w) (hv : Blk w vb 23 r.cells) (hne : vb ≠ g) (hi : i < s.length) (hl : s.length ≤ 1000) (hcap : s.length + 1 ≤ cap) (hcm : cap ≤ maxLen) :
    Calls Tryz.prog 37 #[.slice (some ⟨g, 0, none⟩) s.length cap, .int .i64 (i : Int), .slice (some ⟨vb, 0, none⟩) 1 1] w fun e w' => ∃ v', e = .returned v' ∧ w'.ownsRow wb.heap.size 23 6 v' (s.length + 1) (flatR (s.take i ++ r :: s.drop i)) ∧ Ext wb w' := by
  have hfl := flatR_len s
  obtain ⟨n, hn⟩ : ∃ n, n = s.length := ⟨_, rfl⟩
  rw [← hn] at hi hl hfl hx hcap ⊢
  have hwl := hE.le
  have hov : ∀ lb cb, (callFunc 57 #[.slice (some ⟨vb, 0, none⟩) 1 1, .slice (some ⟨g, (i + 1) * 6, none⟩) lb cb]).run Tryz.prog w = .ok (.value (.bool false)) w := fun lb cb => by
    rw [run_callFunc_extern Tryz.func57 (by kernel_rfl) (by kernel_rfl) (by kernel_rfl) (e := Extern.SlicesOverlaps.overlaps #[30, 30] #[4]) (by kernel_rfl),
      Lib.run_overlaps_apart w 30 4 23 Tryz.underlying30 6 Tryz.sizeOf23 ⟨vb, 0, none⟩ ⟨g, (i + 1) * 6, none⟩ 1 1 lb cb hne 23 23 6 (cap * 6) (by unfold Blk at hv; simp [World.shape?, hv, RuleP.cells]) (by unfold Blk at hB; simp [World.shape?, hB, hcl]) (by omega) (by unfold Blk at hv; simp [World.frozen?, hv]) (by unfold Blk at hv; simp [World.frozen?, hv])]
    rfl
  obtain ⟨D, hD⟩ : ∃ D, D = (flatR s).drop (i * 6) := ⟨_, rfl⟩
  have hDl : D.length = (n - i) * 6 := by rw [hD, List.length_drop, hfl]; omega
  have hD1 : ∀ u ∈ D, u.oneCell' = true := by intro u hu; rw [hD] at hu; exact flatR_one s u (List.mem_of_mem_drop hu)
  obtain ⟨X, hX⟩ : ∃ X, X = laidAt cur ((i + 1) * 6) D := ⟨_, rfl⟩
  have hXl : X.length = cap * 6 := by rw [hX, laidAt_len (by rw [hDl, hcl]; omega), hcl]
  obtain ⟨W2, hW2⟩ : ∃ W2, W2 = w.drew.setRow g X.toArray := ⟨_, rfl⟩
  have hcp1 : ∀ ty dl dc sc, dl = n - i → (Builtin.copy_ #[30, 30] ty #[.slice (some ⟨g, (i + 1) * 6, none⟩) dl dc, .slice (some ⟨g, i * 6, none⟩) (n + 1 - i) sc]).run Tryz.prog w.drew = .ok (goInt ((n - i : Nat) : Int)) W2 := fun ty dl dc sc hd => by
    subst hd
    have hm : Nat.min (n + 1 - i) (n - i) = n - i := Nat.min_eq_right (by omega)
    have h := run_copy_rowK (P := Tryz.prog) w.drew 30 30 ty 23 6 g ((i + 1) * 6) (n - i) dc ⟨g, i * 6, none⟩ (n + 1 - i) sc cur 23 D Tryz.underlying30 size_rule hB (by rw [hDl, hm]) (fun j v hj => by
      have hj2 : j < D.length := (List.getElem?_eq_some_iff.1 hj).1
      rw [hDl] at hj2
      rw [Addr.add_mid]
      show w.cell? _ = _
      rw [hB.cell]
      rw [hD, ← hx, List.getElem?_drop, List.getElem?_take, if_pos (by omega)] at hj
      exact hj) (by rw [hDl, hcl]; omega) hD1
    rw [hm, ← hX, ← hW2] at h
    exact h
  have hB2 : Blk W2 g 23 X := by rw [hW2]; exact Blk.set (w := w.drew) hB _
  have hE2 : Ext wb W2 := by rw [hW2]; exact (hE.drew).setRow hg _
  have hv2 : Blk W2 vb 23 r.cells := by rw [hW2]; exact (setRow_other w.drew g vb _ hne).trans hv
  obtain ⟨Y, hY⟩ : ∃ Y, Y = laidAt X (i * 6) r.cells := ⟨_, rfl⟩
  have hYl : Y.length = cap * 6 := by rw [hY, laidAt_len (by rw [hXl]; show i * 6 + 6 ≤ _; omega), hXl]
  obtain ⟨W3, hW3⟩ : ∃ W3, W3 = W2.setRow g Y.toArray := ⟨_, rfl⟩
  have hcp2 : ∀ ty dc, (Builtin.copy_ #[30, 30] ty #[.slice (some ⟨g, i * 6, none⟩) (n + 1 - i) dc, .slice (some ⟨vb, 0, none⟩) 1 1]).run Tryz.prog W2 = .ok (goInt 1) W3 := fun ty dc => by
    have hm : Nat.min 1 (n + 1 - i) = 1 := Nat.min_eq_left (by omega)
    have h := run_copy_rowK (P := Tryz.prog) W2 30 30 ty 23 6 g (i * 6) (n + 1 - i) dc ⟨vb, 0, none⟩ 1 1 X 23 r.cells Tryz.underlying30 size_rule hB2 (by rw [hm]; rfl) (fun j v hj => by rw [Addr.add_mid, hv2.cell, Nat.zero_add]; exact hj) (by rw [hXl]; show i * 6 + 6 ≤ _; omega) (RuleP.cells_one r)
    rw [hm, ← hY, ← hW3] at h
    exact h
  have HF := Lib.hid (show flatR (s.take i ++ r :: s.drop i) = Y.take ((n + 1) * 6) by
    have h3 : cur.take (i * 6) = (flatR s).take (i * 6) := by rw [← hx, List.take_take, Nat.min_eq_left (by omega)]
    have h := laid_two' (r := r.cells) (D := D) h3 (by rw [hcl, hDl]; show i * 6 + 6 + _ ≤ _; omega)
    rw [flatR_ins, ← hD, ← h, hDl, hY, hX]
    show List.take (i * 6 + 6 + (n - i) * 6) (laidAt (laidAt cur (i * 6 + 6) D) _ _) = List.take _ (laidAt (laidAt cur ((i + 1) * 6) D) _ _)
    rw [show (i + 1) * 6 = i * 6 + 6 by omega, show (n + 1) * 6 = i * 6 + 6 + (n - i) * 6 by omega])
  have HB := Lib.hid (show Blk W3 g 23 Y by rw [hW3]; exact hB2.set _)
  have HE := Lib.hid (show Ext wb W3 by rw [hW3]; exact hE2.setRow hg _)
  have HYl := Lib.hid hYl
  have HC := Lib.hid hcm
  have hcm' : cap ≤ 9223372036854775807 := by unfold maxLen at hcm; exact hcm
  have hw1 : IntKind.i64.wrap ((i : Int) + 1) = (i : Int) + 1 := IntWalk.i64_in _ (by omega)
  have hb1 : (0 : Int) ≤ (i : Int) + 1 := by omega
  have htn : ((i : Int) + 1).toNat = i + 1 := by omega
  have hne2 : ¬ ((i : Int) = (n : Int)) := by omega
  have hle : (i : Int) ≤ (n : Int) + 1 := by omega
  have hle2 : (i : Int) ≤ (n : Int) := by omega
  have hle3 : (i : Int) ≤ (cap : Int) := by omega
  have hle4 : (n : Int) + 1 ≤ (cap : Int) := by omega
  have hlt5 : ¬ (cap : Int) < (n : Int) + 1 := by omega
  have hq1 : ¬ (cap = i) := by omega
  have hq2 : ¬ (cap = i + 1) := by omega
  clear hcm hX hXl hW2 hY hYl hW3 hD hDl hD1 hcl hx hfl hB hB2 hE2 hn hv hv2
  go_enter Tryz.func37, Tryz.ntmps37
  go_wp2_with (simp only [hov])
  refine wp_region_held_drew (S := (fun _ => True)) (by kernel_rfl) ?hs19 (fun hHeld => ?go19)
  case hs19 => (exact trivial)
  refine wpAnyH_take (i := 0) (oi := { dst := (some 69), op := (Op.move (Operand.tmp 0)), type := 30, pos := "slices.go:178", after := #[], guard := none }) (v := ?v20) rfl (by kernel_rfl) (by kernel_rfl) (by kernel_rfl) (fun _ _ _ h => h) (Or.inl ⟨rfl, ?hy20⟩) hHeld ?rest20
  case hy20 => (intro w hSw; (try dsimp only at hSw); go_simp <;> with_reducible rfl)
  (try simp only [Act.put]); (try simp only [List.setIfInBounds_toArray]); (try simp only [List.set_cons_succ]); (try simp only [List.set_cons_zero])
  refine wpAnyH_take (i := 1) (oi := { dst := (some 70), op := (Op.move (Operand.tmp 1)), type := 3, pos := "slices.go:178", after := #[], guard := none }) (v := ?v21) rfl (by kernel_rfl) (by kernel_rfl) (by kernel_rfl) (fun _ _ _ h => h) (Or.inl ⟨rfl, ?hy21⟩) hHeld ?rest21
  case hy21 => (intro w hSw; (try dsimp only at hSw); go_simp <;> with_reducible rfl)
  (try simp only [Act.put]); (try simp only [List.setIfInBounds_toArray]); (try simp only [List.set_cons_succ]); (try simp only [List.set_cons_zero])
  refine wpAnyH_take (i := 2) (oi := { dst := (some 71), op := (Op.move (Operand.tmp 7)), type := 3, pos := "slices.go:178", after := #[], guard := none }) (v := ?v22) rfl (by kernel_rfl) (by kernel_rfl) (by kernel_rfl) (fun _ _ _ h => h) (Or.inl ⟨rfl, ?hy22⟩) hHeld ?rest22
  case hy22 => (intro w hSw; (try dsimp only at hSw); go_simp <;> with_reducible rfl)
  (try simp only [Act.put]); (try simp only [List.setIfInBounds_toArray]); (try simp only [List.set_cons_succ]); (try simp only [List.set_cons_zero])
  refine wpAnyH_take (i := 3) (oi := { dst := (some 72), op := (Op.binOp BinOp.add 3 (Operand.tmp 70) (Operand.tmp 71) 3), type := 3, pos := "slices.go:178", after := #[{ on := 1, ground := Ground.data }, { on := 2, ground := Ground.data }], guard := none }) (v := ?v23) rfl (by kernel_rfl) (by kernel_rfl) (by kernel_rfl) (fun _ _ _ h => h) (Or.inl ⟨rfl, ?hy23⟩) hHeld ?rest23
  case hy23 => (intro w hSw; (try dsimp only at hSw); go_simp <;> with_reducible rfl)
  (try simp only [Act.put]); (try simp only [List.setIfInBounds_toArray]); (try simp only [List.set_cons_succ]); (try simp only [List.set_cons_zero])
  refine wpAnyH_take (i := 4) (oi := { dst := (some 73), op := (Op.slice 30 (Operand.tmp 69) (some (Operand.tmp 72)) none none), type := 30, pos := "slices.go:178", after := #[{ on := 0, ground := Ground.data }, { on := 3, ground := Ground.data }], guard := none }) (v := ?v24) rfl (by kernel_rfl) (by kernel_rfl) (by kernel_rfl) (fun _ _ _ h => h) (Or.inl ⟨rfl, ?hy24⟩) hHeld ?rest24
  case hy24 => (intro w hSw; (try dsimp only at hSw); go_simp <;> with_reducible rfl)
  (try simp only [Act.put]); (try simp only [List.setIfInBounds_toArray]); (try simp only [List.set_cons_succ]); (try simp only [List.set_cons_zero])
  refine wpAnyH_take (i := 5) (oi := { dst := (some 74), op := (Op.move (Operand.tmp 0)), type := 30, pos := "slices.go:178", after := #[], guard := none }) (v := ?v25) rfl (by kernel_rfl) (by kernel_rfl) (by kernel_rfl) (fun _ _ _ h => h) (Or.inl ⟨rfl, ?hy25⟩) hHeld ?rest25
  case hy25 => (intro w hSw; (try dsimp only at hSw); go_simp <;> with_reducible rfl)
  (try simp only [Act.put]); (try simp only [List.setIfInBounds_toArray]); (try simp only [List.set_cons_succ]); (try simp only [List.set_cons_zero])
  refine wpAnyH_take (i := 6) (oi := { dst := (some 75), op := (Op.move (Operand.tmp 1)), type := 3, pos := "slices.go:178", after := #[], guard := none }) (v := ?v26) rfl (by kernel_rfl) (by kernel_rfl) (by kernel_rfl) (fun _ _ _ h => h) (Or.inl ⟨rfl, ?hy26⟩) hHeld ?rest26
  case hy26 => (intro w hSw; (try dsimp only at hSw); go_simp <;> with_reducible rfl)
  (try simp only [Act.put]); (try simp only [List.setIfInBounds_toArray]); (try simp only [List.set_cons_succ]); (try simp only [List.set_cons_zero])
  refine wpAnyH_take (i := 7) (oi := { dst := (some 76), op := (Op.slice 30 (Operand.tmp 74) (some (Operand.tmp 75)) none none), type := 30, pos := "slices.go:178", after := #[{ on := 5, ground := Ground.data }, { on := 6, ground := Ground.data }], guard := none }) (v := ?v27) rfl (by kernel_rfl) (by kernel_rfl) (by kernel_rfl) (fun _ _ _ h => h) (Or.inl ⟨rfl, ?hy27⟩) hHeld ?rest27
  case hy27 => (intro w hSw; (try dsimp only at hSw); go_simp <;> with_reducible rfl)
  (try simp only [Act.put]); (try simp only [List.setIfInBounds_toArray]); (try simp only [List.set_cons_succ]); (try simp only [List.set_cons_zero])
  refine wpAnyH_ready (rs := [8]) (by kernel_rfl) (by simp) ?_
  refine AllReadyH.cons (o := { dst := (some 77), op := (Op.call { callee := (Callee.builtin Builtin.copy), args := #[(Operand.tmp 73), (Operand.tmp 76)], argTypes := #[30, 30] }), type := 3, pos := "slices.go:178", after := #[{ on := 4, ground := Ground.data }, { on := 7, ground := Ground.data }], guard := none }) rfl (fun K hK => ?step28x0) ?more28x0
  case more28x0 => exact AllReadyH.nil
  go_simp
  refine hK.out _ _ ?hS28x0 (fun hHeld28 => ?rest28x0)
  case hS28x0 => first | (exact trivial) | ((try dsimp only); (exact trivial))
  clear hK K
  clear hHeld
  (try simp only [Act.put]); (try simp only [List.setIfInBounds_toArray]); (try simp only [List.set_cons_succ]); (try simp only [List.set_cons_zero])
  refine wpAnyH_done (by kernel_rfl) ?_ _
  clear hHeld28
  go_wp2_with (at_builtin; refine wpList_copy_run' _ rfl (.tmp 80) (.tmp 81) 30 30 rfl _ _ rfl rfl (hcp2 _ _) ?_)
  go_wp2_with fail
  go_ret
  exact ⟨_, rfl, HB.out.own hg (by omega) HC.out HYl.out HF.out, HE.out⟩

theorem s_Insert (wb w : World) (s : List RuleP) (r : RuleP) (v : Value) (vb i : Nat) (hown : w.ownsRow wb.heap.size 23 6 v s.length (flatR s)) (hE : Ext wb w) (hv : Blk w vb 23 r.cells) (hne : v.ownBlock ≠ some vb) (hi : i ≤ s.length) (hl : s.length ≤ 1000) :
    Calls Tryz.prog 37 #[v, .int .i64 (i : Int), .slice (some ⟨vb, 0, none⟩) 1 1] w fun e w' => ∃ v', e = .returned v' ∧ w'.ownsRow wb.heap.size 23 6 v' (s.length + 1) (flatR (s.take i ++ r :: s.drop i)) ∧ Ext wb w' := by
  by_cases hin : i = s.length
  · subst hin
    rw [List.take_length, List.drop_length]
    exact s_Insert_end wb w s r v vb hown hE hv hl
  · obtain ⟨g, cap, cur, rfl, hg, hB, hnc, hcm, hcl, hx⟩ := own_blk hown (by omega)
    by_cases hroom : s.length + 1 ≤ cap
    · exact s_Insert_shift wb w s r g cap vb i cur hB hcl hx hg hE hv (fun e => hne (by rw [e]; rfl)) (by omega) hl hroom hcm
    · obtain rfl : cap = s.length := by omega
      rw [List.take_of_length_le (by omega)] at hx
      subst hx
      exact s_Insert_grow wb w s r g vb i hB hE hv (by omega) hl

theorem s_Delete (wb w : World) (s : List RuleP) (v : Value) (i : Nat) (hown : w.ownsRow wb.heap.size 23 6 v s.length (flatR s)) (hE : Ext wb w) (hi : i < s.length) (hl : s.length ≤ 1000) :
    Calls Tryz.prog 41 #[v, .int .i64 (i : Int), .int .i64 ((i : Int) + 1)] w fun e w' => ∃ v', e = .returned v' ∧ w'.ownsRow wb.heap.size 23 6 v' (s.length - 1) (flatR (s.take i ++ s.drop (i + 1))) ∧ Ext wb w' := by
  obtain ⟨g, cap, cur, rfl, hg, hB, hnc, hcm, hcl, hx⟩ := own_blk hown (by omega)
  obtain ⟨m, hm⟩ : ∃ m, s.length = m + 1 := ⟨s.length - 1, by omega⟩
  rw [hm] at hx hnc ⊢
  by_cases hci : cap = i + 1
  · subst hci
    obtain rfl : i = m := by omega
    exact s_Delete_last wb w s g i cur hB hcl hx hg hE hm hl
  · exact s_Delete_mid wb w s g cap i m cur hB hcl hx hg hE hm hl (by omega) hnc hcm hci

end Go.Proofs.YtanclhcoiagcfaaGreatDoor
