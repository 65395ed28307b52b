/- THE WALK over the reference's guess. -/
import Derived.Test.YtanclhcoiagcfaaGreatDoorSchV
import Derived.Deep.Cut
namespace Go.Proofs.YtanclhcoiagcfaaGreatDoor
open Go.RowKit

/-- an empty rule in a box of the call's own -/
structure Zero6 (w : World) (g : Nat) : Prop where
  z0 : w.cell? ⟨g, 0, none⟩ = some (.int .i64 0)
  f0 : w.frozen? ⟨g, 0, none⟩ = false
  z1 : w.cell? ⟨g, 1, none⟩ = some (.int .i64 0)
  f1 : w.frozen? ⟨g, 1, none⟩ = false
  z2 : w.cell? ⟨g, 2, none⟩ = some (.string ⟨#[]⟩)
  f2 : w.frozen? ⟨g, 2, none⟩ = false
  z3 : w.cell? ⟨g, 3, none⟩ = some (.string ⟨#[]⟩)
  f3 : w.frozen? ⟨g, 3, none⟩ = false
  z4 : w.cell? ⟨g, 4, none⟩ = some (.string ⟨#[]⟩)
  f4 : w.frozen? ⟨g, 4, none⟩ = false
  z5 : w.cell? ⟨g, 5, none⟩ = some (.string ⟨#[]⟩)
  f5 : w.frozen? ⟨g, 5, none⟩ = false
theorem box_zero (w : World) : ∃ (g : Nat) (w1 : World), g = w.heap.size ∧ w1 = w.alloc (.cells #[.int .i64 0, .int .i64 0, .string ⟨#[]⟩, .string ⟨#[]⟩, .string ⟨#[]⟩, .string ⟨#[]⟩] 23) ∧ Zero6 w1 g ∧ Ext w w1 ∧ w.heap.size ≤ g :=
  ⟨_, _, rfl, rfl, ⟨by go_simp, by go_simp, by go_simp, by go_simp, by go_simp, by go_simp, by go_simp, by go_simp, by go_simp, by go_simp, by go_simp, by go_simp⟩, (Ext.refl _).alloc _, Nat.le_refl _⟩
theorem Zero6.ext {a w : World} {g : Nat} (h : Zero6 a g) (e : Ext a w) : Zero6 w g :=
  ⟨e.cell h.z0, (Below.frozen e (p := ⟨g, 0, none⟩) (block_lt_of_cell h.z0)).trans h.f0, e.cell h.z1, (Below.frozen e (p := ⟨g, 1, none⟩) (block_lt_of_cell h.z1)).trans h.f1, e.cell h.z2, (Below.frozen e (p := ⟨g, 2, none⟩) (block_lt_of_cell h.z2)).trans h.f2, e.cell h.z3, (Below.frozen e (p := ⟨g, 3, none⟩) (block_lt_of_cell h.z3)).trans h.f3, e.cell h.z4, (Below.frozen e (p := ⟨g, 4, none⟩) (block_lt_of_cell h.z4)).trans h.f4, e.cell h.z5, (Below.frozen e (p := ⟨g, 5, none⟩) (block_lt_of_cell h.z5)).trans h.f5⟩

theorem lies_at {w : World} {A : Option Addr} {l : List ByteArray} (h : Lies strC 1 w A l) (hp : 0 < l.length) : ∃ b off, A = some ⟨b, off, none⟩ ∧ ∀ k, k < l.length → w.cell? ⟨b, off + k, none⟩ = some (.string l[k]!) := by
  obtain ⟨b, off, hA, hc⟩ := h hp
  refine ⟨b, off, hA, fun k hk => ?_⟩
  have h := hc k hk 0 (.string l[k]) rfl
  rw [getElem!_pos l k hk, Nat.mul_one] at *
  exact h

set_option maxRecDepth 100000 in
set_option maxHeartbeats 1600000 in
theorem r9_guess_ee (b off n c : Nat) (a0 a1 a2 a3 : ByteArray) (w : World) (hn : n ≤ 1000) (q0 : w.cell? ⟨b, off, none⟩ = some (.string a0)) (q1 : w.cell? ⟨b, off + 1, none⟩ = some (.string a1)) (q2 : w.cell? ⟨b, off + 2, none⟩ = some (.string a2)) (q3 : w.cell? ⟨b, off + 3, none⟩ = some (.string a3)) (h4 : 4 ≤ n) (eedge : (a0.toList == [101, 100, 103, 101]) = true) (e1 : (a1.toList == [101, 120, 105, 115, 116, 115]) = true) :
    Calls Tryz.prog 47 #[.slice (some ⟨b, off, none⟩) n c] w fun e w' => e = .returned (RuleP.val ⟨4, 0, a2, a3, emptyB, emptyB⟩) ∧ Ext w w' := by
  obtain ⟨g, w1, hg, hw1, hz, hx, hle⟩ := box_zero w
  have MK := Lib.hid (fun V (e : Ext w V) => (⟨e.cell q0, e.cell q1, e.cell q2, e.cell q3, e⟩ : V.cell? ⟨b, off, none⟩ = some (.string a0) ∧ V.cell? ⟨b, off + 1, none⟩ = some (.string a1) ∧ V.cell? ⟨b, off + 2, none⟩ = some (.string a2) ∧ V.cell? ⟨b, off + 3, none⟩ = some (.string a3) ∧ Ext w V))
  have i0 : (0 : Int) < (n : Int) := by omega
  have i1 : (1 : Int) < (n : Int) := by omega
  have i2 : (2 : Int) < (n : Int) := by omega
  have i3 : (3 : Int) < (n : Int) := by omega
  have j3 : ¬ n < 3 := by omega
  have j3' : ¬ (n : Int) < 3 := by omega
  go_enter Tryz.func47, Tryz.ntmps47
  have HW1 := Lib.hid hw1
  have HG := Lib.hid hg
  clear hw1 hg
  go_upto_region 1 with (fail)
  rw [← HW1.out, ← HG.out]
  clear HW1 HG
  obtain ⟨z0, f0, z1, f1, z2, f2, z3, f3, z4, f4, z5, f5⟩ := id hz
  obtain ⟨r0, r1, r2, r3, -⟩ := MK.out w1 hx
  clear q0 q1 q2 q3
  go_wp2_with fail
  refine wp_region_held_drew (S := (fun V => V.cell? ⟨b, off, none⟩ = some (.string a0) ∧ V.cell? ⟨b, off + 1, none⟩ = some (.string a1) ∧ V.cell? ⟨b, off + 2, none⟩ = some (.string a2) ∧ V.cell? ⟨b, off + 3, none⟩ = some (.string a3) ∧ Ext w V)) (by kernel_rfl) ?hs1 (fun hHeld => ?go1)
  case hs1 => (exact MK.out _ (by repeat (first | with_reducible exact Ext.refl _ | with_reducible assumption | with_reducible refine Ext.drew ?_ | with_reducible refine Ext.drewN ?_ _ | with_reducible refine Ext.alloc ?_ _ | (with_reducible refine Ext.setCell ?_ (by first | assumption | omega) _))))
  refine wpAnyH_take (i := 0) (oi := { dst := (some 22), op := (Op.move (Operand.tmp 0)), type := 46, pos := "ref.go:291", after := #[], guard := none }) (v := ?v2) rfl (by kernel_rfl) (by kernel_rfl) (by kernel_rfl) (fun _ _ _ h => h) (Or.inl ⟨rfl, ?hy2⟩) hHeld ?rest2
  case hy2 => (intro w hSw; (try dsimp only at hSw); go_simp <;> first | with_reducible rfl | rw [if_neg (by omega)] | rw [if_pos (by omega)])
  (try simp only [Act.put]); (try simp only [List.setIfInBounds_toArray]); (try simp only [List.set_cons_succ]); (try simp only [List.set_cons_zero])
  refine wpAnyH_take (i := 1) (oi := { dst := (some 23), op := (Op.indexAddr 46 (Operand.tmp 22) (Operand.const (Value.int IntKind.i64 2))), type := 0, pos := "ref.go:291", after := #[{ on := 0, ground := Ground.data }], guard := none }) (v := ?v3) rfl (by kernel_rfl) (by kernel_rfl) (by kernel_rfl) (fun _ _ _ h => h) (Or.inl ⟨rfl, ?hy3⟩) hHeld ?rest3
  case hy3 => (intro w hSw; (try dsimp only at hSw); go_simp <;> first | with_reducible rfl | rw [if_neg (by omega)] | rw [if_pos (by omega)])
  (try simp only [Act.put]); (try simp only [List.setIfInBounds_toArray]); (try simp only [List.set_cons_succ]); (try simp only [List.set_cons_zero])
  refine wpAnyH_take (i := 2) (oi := { dst := (some 24), op := (Op.load 9 (Operand.tmp 23)), type := 9, pos := "ref.go:291", after := #[{ on := 1, ground := Ground.data }], guard := none }) (v := ?v4) rfl (by kernel_rfl) (by kernel_rfl) (by kernel_rfl) (fun _ _ _ h => h) (Or.inl ⟨rfl, ?hy4⟩) hHeld ?rest4
  case hy4 => (intro w hSw; (try dsimp only at hSw); go_simp <;> first | with_reducible rfl | rw [if_neg (by omega)] | rw [if_pos (by omega)])
  (try simp only [Act.put]); (try simp only [List.setIfInBounds_toArray]); (try simp only [List.set_cons_succ]); (try simp only [List.set_cons_zero])
  refine wpAnyH_take (i := 3) (oi := { dst := (some 25), op := (Op.move (Operand.tmp 0)), type := 46, pos := "ref.go:291", after := #[], guard := none }) (v := ?v5) rfl (by kernel_rfl) (by kernel_rfl) (by kernel_rfl) (fun _ _ _ h => h) (Or.inl ⟨rfl, ?hy5⟩) hHeld ?rest5
  case hy5 => (intro w hSw; (try dsimp only at hSw); go_simp <;> first | with_reducible rfl | rw [if_neg (by omega)] | rw [if_pos (by omega)])
  (try simp only [Act.put]); (try simp only [List.setIfInBounds_toArray]); (try simp only [List.set_cons_succ]); (try simp only [List.set_cons_zero])
  refine wpAnyH_take (i := 4) (oi := { dst := (some 26), op := (Op.indexAddr 46 (Operand.tmp 25) (Operand.const (Value.int IntKind.i64 3))), type := 0, pos := "ref.go:291", after := #[{ on := 3, ground := Ground.data }], guard := none }) (v := ?v6) rfl (by kernel_rfl) (by kernel_rfl) (by kernel_rfl) (fun _ _ _ h => h) (Or.inl ⟨rfl, ?hy6⟩) hHeld ?rest6
  case hy6 => (intro w hSw; (try dsimp only at hSw); go_simp <;> first | with_reducible rfl | rw [if_neg (by omega)] | rw [if_pos (by omega)])
  (try simp only [Act.put]); (try simp only [List.setIfInBounds_toArray]); (try simp only [List.set_cons_succ]); (try simp only [List.set_cons_zero])
  refine wpAnyH_take (i := 5) (oi := { dst := (some 27), op := (Op.load 9 (Operand.tmp 26)), type := 9, pos := "ref.go:291", after := #[{ on := 4, ground := Ground.data }], guard := none }) (v := ?v7) rfl (by kernel_rfl) (by kernel_rfl) (by kernel_rfl) (fun _ _ _ h => h) (Or.inl ⟨rfl, ?hy7⟩) hHeld ?rest7
  case hy7 => (intro w hSw; (try dsimp only at hSw); go_simp <;> first | with_reducible rfl | rw [if_neg (by omega)] | rw [if_pos (by omega)])
  (try simp only [Act.put]); (try simp only [List.setIfInBounds_toArray]); (try simp only [List.set_cons_succ]); (try simp only [List.set_cons_zero])
  refine wpAnyH_take (i := 6) (oi := { dst := (some 28), op := (Op.build 23 #[(0, (Operand.const (Value.int IntKind.i64 4))), (2, (Operand.tmp 24)), (3, (Operand.tmp 27))]), type := 23, pos := "ref.go:291", after := #[{ on := 2, ground := Ground.data }, { on := 5, ground := Ground.data }], guard := none }) (v := ?v8) rfl (by kernel_rfl) (by kernel_rfl) (by kernel_rfl) (fun _ _ _ h => h) (Or.inl ⟨rfl, ?hy8⟩) hHeld ?rest8
  case hy8 => (intro w hSw; (try dsimp only at hSw); go_simp <;> first | with_reducible rfl | rw [if_neg (by omega)] | rw [if_pos (by omega)])
  (try simp only [Act.put]); (try simp only [List.setIfInBounds_toArray]); (try simp only [List.set_cons_succ]); (try simp only [List.set_cons_zero])
  refine wpAnyH_ready (rs := [7]) (by kernel_rfl) (by simp) ?_
  refine AllReadyH.cons (o := { dst := none, op := (Op.store 23 (Operand.tmp 2) (Operand.tmp 28)), type := 0, pos := "ref.go:291", after := #[{ on := 6, ground := Ground.data }, { on := 0, ground := Ground.phase }, { on := 1, ground := Ground.phase }, { on := 2, ground := Ground.phase }, { on := 3, ground := Ground.phase }, { on := 4, ground := Ground.phase }, { on := 5, ground := Ground.phase }, { on := 6, ground := Ground.phase }], guard := none }) rfl (fun K hK => ?step9x0) ?more9x0
  case more9x0 => exact AllReadyH.nil
  go_simp
  refine hK.out _ _ ?hS9x0 (fun hHeld9 => ?rest9x0)
  case hS9x0 => first | (exact MK.out _ (by repeat (first | with_reducible exact Ext.refl _ | with_reducible assumption | with_reducible refine Ext.drew ?_ | with_reducible refine Ext.drewN ?_ _ | with_reducible refine Ext.alloc ?_ _ | (with_reducible refine Ext.setCell ?_ (by first | assumption | omega) _)))) | ((try dsimp only); (exact MK.out _ (by repeat (first | with_reducible exact Ext.refl _ | with_reducible assumption | with_reducible refine Ext.drew ?_ | with_reducible refine Ext.drewN ?_ _ | with_reducible refine Ext.alloc ?_ _ | (with_reducible refine Ext.setCell ?_ (by first | assumption | omega) _)))))
  clear hK K
  clear hHeld
  (try simp only [Act.put]); (try simp only [List.setIfInBounds_toArray]); (try simp only [List.set_cons_succ]); (try simp only [List.set_cons_zero])
  refine wpAnyH_done (by kernel_rfl) ?_ _
  clear hHeld9
  go_wp2_with fail
  exact bodyPost_ret (v := RuleP.val ⟨4, 0, a2, a3, emptyB, emptyB⟩) (by simp [results, Tryz.results47, RuleP.val, emptyB, go_sem, z0, z1, z2, z3, z4, z5] <;> rfl) rfl ⟨rfl, (by repeat (first | with_reducible exact Ext.refl _ | with_reducible assumption | with_reducible refine Ext.drew ?_ | with_reducible refine Ext.drewN ?_ _ | with_reducible refine Ext.alloc ?_ _ | (with_reducible refine Ext.setCell ?_ (by first | assumption | omega) _)))⟩

set_option maxRecDepth 100000 in
set_option maxHeartbeats 1600000 in
theorem r9_guess_ek (b off c : Nat) (a0 a1 a2 a3 a4 : ByteArray) (w : World) (q0 : w.cell? ⟨b, off, none⟩ = some (.string a0)) (q1 : w.cell? ⟨b, off + 1, none⟩ = some (.string a1)) (q2 : w.cell? ⟨b, off + 2, none⟩ = some (.string a2)) (q3 : w.cell? ⟨b, off + 3, none⟩ = some (.string a3)) (q4 : w.cell? ⟨b, off + 4, none⟩ = some (.string a4)) (eedge : (a0.toList == [101, 100, 103, 101]) = true) (e1 : (a1.toList == [101, 120, 105, 115, 116, 115]) = false) :
    Calls Tryz.prog 47 #[.slice (some ⟨b, off, none⟩) 5 c] w fun e w' => e = .returned (RuleP.val ⟨5, kindW a4.data.toList, a2, a3, emptyB, emptyB⟩) ∧ Ext w w' := by
  obtain ⟨g, w1, hg, hw1, hz, hx, hle⟩ := box_zero w
  have MK := Lib.hid (fun V (e : Ext w V) => (⟨e.cell q0, e.cell q1, e.cell q2, e.cell q3, e.cell q4, e⟩ : V.cell? ⟨b, off, none⟩ = some (.string a0) ∧ V.cell? ⟨b, off + 1, none⟩ = some (.string a1) ∧ V.cell? ⟨b, off + 2, none⟩ = some (.string a2) ∧ V.cell? ⟨b, off + 3, none⟩ = some (.string a3) ∧ V.cell? ⟨b, off + 4, none⟩ = some (.string a4) ∧ Ext w V))
  go_enter Tryz.func47, Tryz.ntmps47
  have HW1 := Lib.hid hw1
  have HG := Lib.hid hg
  clear hw1 hg
  go_upto_region 1 with (fail)
  rw [← HW1.out, ← HG.out]
  clear HW1 HG
  obtain ⟨z0, f0, z1, f1, z2, f2, z3, f3, z4, f4, z5, f5⟩ := id hz
  obtain ⟨r0, r1, r2, r3, r4, -⟩ := MK.out w1 hx
  clear q0 q1 q2 q3 q4
  go_wp2_with fail
  refine wp_region_held_drew (S := (fun V => V.cell? ⟨b, off, none⟩ = some (.string a0) ∧ V.cell? ⟨b, off + 1, none⟩ = some (.string a1) ∧ V.cell? ⟨b, off + 2, none⟩ = some (.string a2) ∧ V.cell? ⟨b, off + 3, none⟩ = some (.string a3) ∧ V.cell? ⟨b, off + 4, none⟩ = some (.string a4) ∧ Ext w V)) (by kernel_rfl) ?hs10 (fun hHeld => ?go10)
  case hs10 => (exact MK.out _ (by repeat (first | with_reducible exact Ext.refl _ | with_reducible assumption | with_reducible refine Ext.drew ?_ | with_reducible refine Ext.drewN ?_ _ | with_reducible refine Ext.alloc ?_ _ | (with_reducible refine Ext.setCell ?_ (by first | assumption | omega) _))))
  refine wpAnyH_take (i := 0) (oi := { dst := (some 32), op := (Op.move (Operand.tmp 0)), type := 46, pos := "ref.go:294", after := #[], guard := none }) (v := ?v11) rfl (by kernel_rfl) (by kernel_rfl) (by kernel_rfl) (fun _ _ _ h => h) (Or.inl ⟨rfl, ?hy11⟩) hHeld ?rest11
  case hy11 => (intro w hSw; (try dsimp only at hSw); go_simp <;> first | with_reducible rfl | rw [if_neg (by omega)] | rw [if_pos (by omega)])
  (try simp only [Act.put]); (try simp only [List.setIfInBounds_toArray]); (try simp only [List.set_cons_succ]); (try simp only [List.set_cons_zero])
  refine wpAnyH_take (i := 1) (oi := { dst := (some 33), op := (Op.indexAddr 46 (Operand.tmp 32) (Operand.const (Value.int IntKind.i64 2))), type := 0, pos := "ref.go:294", after := #[{ on := 0, ground := Ground.data }], guard := none }) (v := ?v12) rfl (by kernel_rfl) (by kernel_rfl) (by kernel_rfl) (fun _ _ _ h => h) (Or.inl ⟨rfl, ?hy12⟩) hHeld ?rest12
  case hy12 => (intro w hSw; (try dsimp only at hSw); go_simp <;> first | with_reducible rfl | rw [if_neg (by omega)] | rw [if_pos (by omega)])
  (try simp only [Act.put]); (try simp only [List.setIfInBounds_toArray]); (try simp only [List.set_cons_succ]); (try simp only [List.set_cons_zero])
  refine wpAnyH_take (i := 2) (oi := { dst := (some 34), op := (Op.load 9 (Operand.tmp 33)), type := 9, pos := "ref.go:294", after := #[{ on := 1, ground := Ground.data }], guard := none }) (v := ?v13) rfl (by kernel_rfl) (by kernel_rfl) (by kernel_rfl) (fun _ _ _ h => h) (Or.inl ⟨rfl, ?hy13⟩) hHeld ?rest13
  case hy13 => (intro w hSw; (try dsimp only at hSw); go_simp <;> first | with_reducible rfl | rw [if_neg (by omega)] | rw [if_pos (by omega)])
  (try simp only [Act.put]); (try simp only [List.setIfInBounds_toArray]); (try simp only [List.set_cons_succ]); (try simp only [List.set_cons_zero])
  refine wpAnyH_take (i := 3) (oi := { dst := (some 35), op := (Op.move (Operand.tmp 0)), type := 46, pos := "ref.go:294", after := #[], guard := none }) (v := ?v14) rfl (by kernel_rfl) (by kernel_rfl) (by kernel_rfl) (fun _ _ _ h => h) (Or.inl ⟨rfl, ?hy14⟩) hHeld ?rest14
  case hy14 => (intro w hSw; (try dsimp only at hSw); go_simp <;> first | with_reducible rfl | rw [if_neg (by omega)] | rw [if_pos (by omega)])
  (try simp only [Act.put]); (try simp only [List.setIfInBounds_toArray]); (try simp only [List.set_cons_succ]); (try simp only [List.set_cons_zero])
  refine wpAnyH_take (i := 4) (oi := { dst := (some 36), op := (Op.indexAddr 46 (Operand.tmp 35) (Operand.const (Value.int IntKind.i64 3))), type := 0, pos := "ref.go:294", after := #[{ on := 3, ground := Ground.data }], guard := none }) (v := ?v15) rfl (by kernel_rfl) (by kernel_rfl) (by kernel_rfl) (fun _ _ _ h => h) (Or.inl ⟨rfl, ?hy15⟩) hHeld ?rest15
  case hy15 => (intro w hSw; (try dsimp only at hSw); go_simp <;> first | with_reducible rfl | rw [if_neg (by omega)] | rw [if_pos (by omega)])
  (try simp only [Act.put]); (try simp only [List.setIfInBounds_toArray]); (try simp only [List.set_cons_succ]); (try simp only [List.set_cons_zero])
  refine wpAnyH_take (i := 5) (oi := { dst := (some 37), op := (Op.load 9 (Operand.tmp 36)), type := 9, pos := "ref.go:294", after := #[{ on := 4, ground := Ground.data }], guard := none }) (v := ?v16) rfl (by kernel_rfl) (by kernel_rfl) (by kernel_rfl) (fun _ _ _ h => h) (Or.inl ⟨rfl, ?hy16⟩) hHeld ?rest16
  case hy16 => (intro w hSw; (try dsimp only at hSw); go_simp <;> first | with_reducible rfl | rw [if_neg (by omega)] | rw [if_pos (by omega)])
  (try simp only [Act.put]); (try simp only [List.setIfInBounds_toArray]); (try simp only [List.set_cons_succ]); (try simp only [List.set_cons_zero])
  refine wpAnyH_take (i := 6) (oi := { dst := (some 38), op := (Op.move (Operand.tmp 0)), type := 46, pos := "ref.go:294", after := #[], guard := none }) (v := ?v17) rfl (by kernel_rfl) (by kernel_rfl) (by kernel_rfl) (fun _ _ _ h => h) (Or.inl ⟨rfl, ?hy17⟩) hHeld ?rest17
  case hy17 => (intro w hSw; (try dsimp only at hSw); go_simp <;> first | with_reducible rfl | rw [if_neg (by omega)] | rw [if_pos (by omega)])
  (try simp only [Act.put]); (try simp only [List.setIfInBounds_toArray]); (try simp only [List.set_cons_succ]); (try simp only [List.set_cons_zero])
  refine wpAnyH_take (i := 7) (oi := { dst := (some 39), op := (Op.indexAddr 46 (Operand.tmp 38) (Operand.const (Value.int IntKind.i64 4))), type := 0, pos := "ref.go:294", after := #[{ on := 6, ground := Ground.data }], guard := none }) (v := ?v18) rfl (by kernel_rfl) (by kernel_rfl) (by kernel_rfl) (fun _ _ _ h => h) (Or.inl ⟨rfl, ?hy18⟩) hHeld ?rest18
  case hy18 => (intro w hSw; (try dsimp only at hSw); go_simp <;> first | with_reducible rfl | rw [if_neg (by omega)] | rw [if_pos (by omega)])
  (try simp only [Act.put]); (try simp only [List.setIfInBounds_toArray]); (try simp only [List.set_cons_succ]); (try simp only [List.set_cons_zero])
  refine wpAnyH_take (i := 8) (oi := { dst := (some 40), op := (Op.load 9 (Operand.tmp 39)), type := 9, pos := "ref.go:294", after := #[{ on := 7, ground := Ground.data }], guard := none }) (v := ?v19) rfl (by kernel_rfl) (by kernel_rfl) (by kernel_rfl) (fun _ _ _ h => h) (Or.inl ⟨rfl, ?hy19⟩) hHeld ?rest19
  case hy19 => (intro w hSw; (try dsimp only at hSw); go_simp <;> first | with_reducible rfl | rw [if_neg (by omega)] | rw [if_pos (by omega)])
  (try simp only [Act.put]); (try simp only [List.setIfInBounds_toArray]); (try simp only [List.set_cons_succ]); (try simp only [List.set_cons_zero])
  refine wpAnyH_ready (rs := [9]) (by kernel_rfl) (by simp) ?_
  refine AllReadyH.cons (o := { dst := (some 41), op := (Op.call { callee := (Callee.value (Operand.func 65)), args := #[(Operand.tmp 40)], argTypes := #[9] }), type := 3, pos := "ref.go:294", after := #[{ on := 8, ground := Ground.data }], guard := none }) rfl (fun K hK => ?step20x0) ?more20x0
  case more20x0 => exact AllReadyH.nil
  go_simp
  (go_at_call 65; refine (r9_kind a4 _).mono ?_; rintro e w' ⟨rfl, rfl⟩)
  refine hK.out _ _ ?hS20x0 (fun hHeld20 => ?rest20x0)
  case hS20x0 => first | (exact MK.out _ (by repeat (first | with_reducible exact Ext.refl _ | with_reducible assumption | with_reducible refine Ext.drew ?_ | with_reducible refine Ext.drewN ?_ _ | with_reducible refine Ext.alloc ?_ _ | (with_reducible refine Ext.setCell ?_ (by first | assumption | omega) _)))) | ((try dsimp only); (exact MK.out _ (by repeat (first | with_reducible exact Ext.refl _ | with_reducible assumption | with_reducible refine Ext.drew ?_ | with_reducible refine Ext.drewN ?_ _ | with_reducible refine Ext.alloc ?_ _ | (with_reducible refine Ext.setCell ?_ (by first | assumption | omega) _)))))
  clear hK K
  clear hHeld
  (try simp only [Act.put]); (try simp only [List.setIfInBounds_toArray]); (try simp only [List.set_cons_succ]); (try simp only [List.set_cons_zero])
  refine wpAnyH_take (i := 10) (oi := { dst := (some 42), op := (Op.build 23 #[(0, (Operand.const (Value.int IntKind.i64 5))), (2, (Operand.tmp 34)), (3, (Operand.tmp 37)), (1, (Operand.tmp 41))]), type := 23, pos := "ref.go:294", after := #[{ on := 2, ground := Ground.data }, { on := 5, ground := Ground.data }, { on := 9, ground := Ground.data }], guard := none }) (v := ?v21) rfl (by kernel_rfl) (by kernel_rfl) (by kernel_rfl) (fun _ _ _ h => h) (Or.inl ⟨rfl, ?hy21⟩) hHeld20 ?rest21
  case hy21 => (intro w hSw; (try dsimp only at hSw); go_simp <;> first | with_reducible rfl | rw [if_neg (by omega)] | rw [if_pos (by omega)])
  (try simp only [Act.put]); (try simp only [List.setIfInBounds_toArray]); (try simp only [List.set_cons_succ]); (try simp only [List.set_cons_zero])
  refine wpAnyH_ready (rs := [11]) (by kernel_rfl) (by simp) ?_
  refine AllReadyH.cons (o := { dst := none, op := (Op.store 23 (Operand.tmp 2) (Operand.tmp 42)), type := 0, pos := "ref.go:294", after := #[{ on := 10, ground := Ground.data }, { on := 9, ground := Ground.chain }, { on := 0, ground := Ground.phase }, { on := 1, ground := Ground.phase }, { on := 2, ground := Ground.phase }, { on := 3, ground := Ground.phase }, { on := 4, ground := Ground.phase }, { on := 5, ground := Ground.phase }, { on := 6, ground := Ground.phase }, { on := 7, ground := Ground.phase }, { on := 8, ground := Ground.phase }, { on := 9, ground := Ground.phase }, { on := 10, ground := Ground.phase }], guard := none }) rfl (fun K hK => ?step22x0) ?more22x0
  case more22x0 => exact AllReadyH.nil
  go_simp
  refine hK.out _ _ ?hS22x0 (fun hHeld22 => ?rest22x0)
  case hS22x0 => first | (exact MK.out _ (by repeat (first | with_reducible exact Ext.refl _ | with_reducible assumption | with_reducible refine Ext.drew ?_ | with_reducible refine Ext.drewN ?_ _ | with_reducible refine Ext.alloc ?_ _ | (with_reducible refine Ext.setCell ?_ (by first | assumption | omega) _)))) | ((try dsimp only); (exact MK.out _ (by repeat (first | with_reducible exact Ext.refl _ | with_reducible assumption | with_reducible refine Ext.drew ?_ | with_reducible refine Ext.drewN ?_ _ | with_reducible refine Ext.alloc ?_ _ | (with_reducible refine Ext.setCell ?_ (by first | assumption | omega) _)))))
  clear hK K
  clear hHeld20
  (try simp only [Act.put]); (try simp only [List.setIfInBounds_toArray]); (try simp only [List.set_cons_succ]); (try simp only [List.set_cons_zero])
  refine wpAnyH_done (by kernel_rfl) ?_ _
  clear hHeld22
  go_wp2_with fail
  exact bodyPost_ret (v := RuleP.val ⟨5, kindW a4.data.toList, a2, a3, emptyB, emptyB⟩) (by simp [results, Tryz.results47, RuleP.val, emptyB, go_sem, z0, z1, z2, z3, z4, z5] <;> rfl) rfl ⟨rfl, (by repeat (first | with_reducible exact Ext.refl _ | with_reducible assumption | with_reducible refine Ext.drew ?_ | with_reducible refine Ext.drewN ?_ _ | with_reducible refine Ext.alloc ?_ _ | (with_reducible refine Ext.setCell ?_ (by first | assumption | omega) _)))⟩

set_option maxRecDepth 100000 in
set_option maxHeartbeats 1600000 in
theorem r9_guess_ez (b off n c : Nat) (a0 a1 : ByteArray) (w : World) (hn : n ≤ 1000) (q0 : w.cell? ⟨b, off, none⟩ = some (.string a0)) (q1 : w.cell? ⟨b, off + 1, none⟩ = some (.string a1)) (h4 : 4 ≤ n) (h5 : ((n : Int) == 5) = false) (eedge : (a0.toList == [101, 100, 103, 101]) = true) (e1 : (a1.toList == [101, 120, 105, 115, 116, 115]) = false) :
    Calls Tryz.prog 47 #[.slice (some ⟨b, off, none⟩) n c] w fun e w' => e = .returned (RuleP.val zeroR) ∧ Ext w w' := by
  obtain ⟨g, w1, hg, hw1, hz, hx, hle⟩ := box_zero w
  have MK := Lib.hid (fun V (e : Ext w V) => (⟨e.cell q0, e.cell q1, e⟩ : V.cell? ⟨b, off, none⟩ = some (.string a0) ∧ V.cell? ⟨b, off + 1, none⟩ = some (.string a1) ∧ Ext w V))
  have i0 : (0 : Int) < (n : Int) := by omega
  have i1 : (1 : Int) < (n : Int) := by omega
  have i2 : (2 : Int) < (n : Int) := by omega
  have i3 : (3 : Int) < (n : Int) := by omega
  have j3 : ¬ n < 3 := by omega
  have j3' : ¬ (n : Int) < 3 := by omega
  go_enter Tryz.func47, Tryz.ntmps47
  have HW1 := Lib.hid hw1
  have HG := Lib.hid hg
  clear hw1 hg
  go_upto_region 1 with (fail)
  rw [← HW1.out, ← HG.out]
  clear HW1 HG
  obtain ⟨z0, f0, z1, f1, z2, f2, z3, f3, z4, f4, z5, f5⟩ := id hz
  obtain ⟨r0, r1, -⟩ := MK.out w1 hx
  go_wp2_with fail
  exact bodyPost_ret (v := RuleP.val zeroR) (by simp [results, Tryz.results47, RuleP.val, zeroR, emptyB, go_sem, z0, z1, z2, z3, z4, z5] <;> rfl) rfl ⟨rfl, (by repeat (first | with_reducible exact Ext.refl _ | with_reducible assumption | with_reducible refine Ext.drew ?_ | with_reducible refine Ext.drewN ?_ _ | with_reducible refine Ext.alloc ?_ _ | (with_reducible refine Ext.setCell ?_ (by first | assumption | omega) _)))⟩

set_option maxRecDepth 100000 in
set_option maxHeartbeats 1600000 in
theorem r9_guess_u (b off n c : Nat) (a0 a1 a2 : ByteArray) (w : World) (hn : n ≤ 1000) (q0 : w.cell? ⟨b, off, none⟩ = some (.string a0)) (q1 : w.cell? ⟨b, off + 1, none⟩ = some (.string a1)) (q2 : w.cell? ⟨b, off + 2, none⟩ = some (.string a2)) (h3 : 3 ≤ n) (eedge : (a0.toList == [101, 100, 103, 101]) = false) (eunique : (a0.toList == [117, 110, 105, 113, 117, 101]) = true) :
    Calls Tryz.prog 47 #[.slice (some ⟨b, off, none⟩) n c] w fun e w' => e = .returned (RuleP.val ⟨1, 0, a1, a2, emptyB, emptyB⟩) ∧ Ext w w' := by
  obtain ⟨g, w1, hg, hw1, hz, hx, hle⟩ := box_zero w
  have MK := Lib.hid (fun V (e : Ext w V) => (⟨e.cell q0, e.cell q1, e.cell q2, e⟩ : V.cell? ⟨b, off, none⟩ = some (.string a0) ∧ V.cell? ⟨b, off + 1, none⟩ = some (.string a1) ∧ V.cell? ⟨b, off + 2, none⟩ = some (.string a2) ∧ Ext w V))
  have i0 : (0 : Int) < (n : Int) := by omega
  have i1 : (1 : Int) < (n : Int) := by omega
  have i2 : (2 : Int) < (n : Int) := by omega
  have j3 : ¬ n < 3 := by omega
  have j3' : ¬ (n : Int) < 3 := by omega
  go_enter Tryz.func47, Tryz.ntmps47
  have HW1 := Lib.hid hw1
  have HG := Lib.hid hg
  clear hw1 hg
  go_upto_region 1 with (fail)
  rw [← HW1.out, ← HG.out]
  clear HW1 HG
  obtain ⟨z0, f0, z1, f1, z2, f2, z3, f3, z4, f4, z5, f5⟩ := id hz
  obtain ⟨r0, r1, r2, -⟩ := MK.out w1 hx
  clear q0 q1 q2
  go_wp2_with fail
  refine wp_region_held_drew (S := (fun V => V.cell? ⟨b, off, none⟩ = some (.string a0) ∧ V.cell? ⟨b, off + 1, none⟩ = some (.string a1) ∧ V.cell? ⟨b, off + 2, none⟩ = some (.string a2) ∧ Ext w V)) (by kernel_rfl) ?hs23 (fun hHeld => ?go23)
  case hs23 => (exact MK.out _ (by repeat (first | with_reducible exact Ext.refl _ | with_reducible assumption | with_reducible refine Ext.drew ?_ | with_reducible refine Ext.drewN ?_ _ | with_reducible refine Ext.alloc ?_ _ | (with_reducible refine Ext.setCell ?_ (by first | assumption | omega) _))))
  refine wpAnyH_take (i := 0) (oi := { dst := (some 48), op := (Op.move (Operand.tmp 0)), type := 46, pos := "ref.go:299", after := #[], guard := none }) (v := ?v24) rfl (by kernel_rfl) (by kernel_rfl) (by kernel_rfl) (fun _ _ _ h => h) (Or.inl ⟨rfl, ?hy24⟩) hHeld ?rest24
  case hy24 => (intro w hSw; (try dsimp only at hSw); go_simp <;> first | with_reducible rfl | rw [if_neg (by omega)] | rw [if_pos (by omega)])
  (try simp only [Act.put]); (try simp only [List.setIfInBounds_toArray]); (try simp only [List.set_cons_succ]); (try simp only [List.set_cons_zero])
  refine wpAnyH_take (i := 1) (oi := { dst := (some 49), op := (Op.indexAddr 46 (Operand.tmp 48) (Operand.const (Value.int IntKind.i64 1))), type := 0, pos := "ref.go:299", after := #[{ on := 0, ground := Ground.data }], guard := none }) (v := ?v25) rfl (by kernel_rfl) (by kernel_rfl) (by kernel_rfl) (fun _ _ _ h => h) (Or.inl ⟨rfl, ?hy25⟩) hHeld ?rest25
  case hy25 => (intro w hSw; (try dsimp only at hSw); go_simp <;> first | with_reducible rfl | rw [if_neg (by omega)] | rw [if_pos (by omega)])
  (try simp only [Act.put]); (try simp only [List.setIfInBounds_toArray]); (try simp only [List.set_cons_succ]); (try simp only [List.set_cons_zero])
  refine wpAnyH_take (i := 2) (oi := { dst := (some 50), op := (Op.load 9 (Operand.tmp 49)), type := 9, pos := "ref.go:299", after := #[{ on := 1, ground := Ground.data }], guard := none }) (v := ?v26) rfl (by kernel_rfl) (by kernel_rfl) (by kernel_rfl) (fun _ _ _ h => h) (Or.inl ⟨rfl, ?hy26⟩) hHeld ?rest26
  case hy26 => (intro w hSw; (try dsimp only at hSw); go_simp <;> first | with_reducible rfl | rw [if_neg (by omega)] | rw [if_pos (by omega)])
  (try simp only [Act.put]); (try simp only [List.setIfInBounds_toArray]); (try simp only [List.set_cons_succ]); (try simp only [List.set_cons_zero])
  refine wpAnyH_take (i := 3) (oi := { dst := (some 51), op := (Op.move (Operand.tmp 0)), type := 46, pos := "ref.go:299", after := #[], guard := none }) (v := ?v27) rfl (by kernel_rfl) (by kernel_rfl) (by kernel_rfl) (fun _ _ _ h => h) (Or.inl ⟨rfl, ?hy27⟩) hHeld ?rest27
  case hy27 => (intro w hSw; (try dsimp only at hSw); go_simp <;> first | with_reducible rfl | rw [if_neg (by omega)] | rw [if_pos (by omega)])
  (try simp only [Act.put]); (try simp only [List.setIfInBounds_toArray]); (try simp only [List.set_cons_succ]); (try simp only [List.set_cons_zero])
  refine wpAnyH_take (i := 4) (oi := { dst := (some 52), op := (Op.indexAddr 46 (Operand.tmp 51) (Operand.const (Value.int IntKind.i64 2))), type := 0, pos := "ref.go:299", after := #[{ on := 3, ground := Ground.data }], guard := none }) (v := ?v28) rfl (by kernel_rfl) (by kernel_rfl) (by kernel_rfl) (fun _ _ _ h => h) (Or.inl ⟨rfl, ?hy28⟩) hHeld ?rest28
  case hy28 => (intro w hSw; (try dsimp only at hSw); go_simp <;> first | with_reducible rfl | rw [if_neg (by omega)] | rw [if_pos (by omega)])
  (try simp only [Act.put]); (try simp only [List.setIfInBounds_toArray]); (try simp only [List.set_cons_succ]); (try simp only [List.set_cons_zero])
  refine wpAnyH_take (i := 5) (oi := { dst := (some 53), op := (Op.load 9 (Operand.tmp 52)), type := 9, pos := "ref.go:299", after := #[{ on := 4, ground := Ground.data }], guard := none }) (v := ?v29) rfl (by kernel_rfl) (by kernel_rfl) (by kernel_rfl) (fun _ _ _ h => h) (Or.inl ⟨rfl, ?hy29⟩) hHeld ?rest29
  case hy29 => (intro w hSw; (try dsimp only at hSw); go_simp <;> first | with_reducible rfl | rw [if_neg (by omega)] | rw [if_pos (by omega)])
  (try simp only [Act.put]); (try simp only [List.setIfInBounds_toArray]); (try simp only [List.set_cons_succ]); (try simp only [List.set_cons_zero])
  refine wpAnyH_take (i := 6) (oi := { dst := (some 54), op := (Op.build 23 #[(0, (Operand.const (Value.int IntKind.i64 1))), (2, (Operand.tmp 50)), (3, (Operand.tmp 53))]), type := 23, pos := "ref.go:299", after := #[{ on := 2, ground := Ground.data }, { on := 5, ground := Ground.data }], guard := none }) (v := ?v30) rfl (by kernel_rfl) (by kernel_rfl) (by kernel_rfl) (fun _ _ _ h => h) (Or.inl ⟨rfl, ?hy30⟩) hHeld ?rest30
  case hy30 => (intro w hSw; (try dsimp only at hSw); go_simp <;> first | with_reducible rfl | rw [if_neg (by omega)] | rw [if_pos (by omega)])
  (try simp only [Act.put]); (try simp only [List.setIfInBounds_toArray]); (try simp only [List.set_cons_succ]); (try simp only [List.set_cons_zero])
  refine wpAnyH_ready (rs := [7]) (by kernel_rfl) (by simp) ?_
  refine AllReadyH.cons (o := { dst := none, op := (Op.store 23 (Operand.tmp 2) (Operand.tmp 54)), type := 0, pos := "ref.go:299", after := #[{ on := 6, ground := Ground.data }, { on := 0, ground := Ground.phase }, { on := 1, ground := Ground.phase }, { on := 2, ground := Ground.phase }, { on := 3, ground := Ground.phase }, { on := 4, ground := Ground.phase }, { on := 5, ground := Ground.phase }, { on := 6, ground := Ground.phase }], guard := none }) rfl (fun K hK => ?step31x0) ?more31x0
  case more31x0 => exact AllReadyH.nil
  go_simp
  refine hK.out _ _ ?hS31x0 (fun hHeld31 => ?rest31x0)
  case hS31x0 => first | (exact MK.out _ (by repeat (first | with_reducible exact Ext.refl _ | with_reducible assumption | with_reducible refine Ext.drew ?_ | with_reducible refine Ext.drewN ?_ _ | with_reducible refine Ext.alloc ?_ _ | (with_reducible refine Ext.setCell ?_ (by first | assumption | omega) _)))) | ((try dsimp only); (exact MK.out _ (by repeat (first | with_reducible exact Ext.refl _ | with_reducible assumption | with_reducible refine Ext.drew ?_ | with_reducible refine Ext.drewN ?_ _ | with_reducible refine Ext.alloc ?_ _ | (with_reducible refine Ext.setCell ?_ (by first | assumption | omega) _)))))
  clear hK K
  clear hHeld
  (try simp only [Act.put]); (try simp only [List.setIfInBounds_toArray]); (try simp only [List.set_cons_succ]); (try simp only [List.set_cons_zero])
  refine wpAnyH_done (by kernel_rfl) ?_ _
  clear hHeld31
  go_wp2_with fail
  exact bodyPost_ret (v := RuleP.val ⟨1, 0, a1, a2, emptyB, emptyB⟩) (by simp [results, Tryz.results47, RuleP.val, emptyB, go_sem, z0, z1, z2, z3, z4, z5] <;> rfl) rfl ⟨rfl, (by repeat (first | with_reducible exact Ext.refl _ | with_reducible assumption | with_reducible refine Ext.drew ?_ | with_reducible refine Ext.drewN ?_ _ | with_reducible refine Ext.alloc ?_ _ | (with_reducible refine Ext.setCell ?_ (by first | assumption | omega) _)))⟩

set_option maxRecDepth 100000 in
set_option maxHeartbeats 1600000 in
theorem r9_guess_x (b off n c : Nat) (a0 a1 a2 : ByteArray) (w : World) (hn : n ≤ 1000) (q0 : w.cell? ⟨b, off, none⟩ = some (.string a0)) (q1 : w.cell? ⟨b, off + 1, none⟩ = some (.string a1)) (q2 : w.cell? ⟨b, off + 2, none⟩ = some (.string a2)) (h3 : 3 ≤ n) (eedge : (a0.toList == [101, 100, 103, 101]) = false) (eunique : (a0.toList == [117, 110, 105, 113, 117, 101]) = false) (eexists : (a0.toList == [101, 120, 105, 115, 116, 115]) = true) :
    Calls Tryz.prog 47 #[.slice (some ⟨b, off, none⟩) n c] w fun e w' => e = .returned (RuleP.val ⟨2, 0, a1, a2, emptyB, emptyB⟩) ∧ Ext w w' := by
  obtain ⟨g, w1, hg, hw1, hz, hx, hle⟩ := box_zero w
  have MK := Lib.hid (fun V (e : Ext w V) => (⟨e.cell q0, e.cell q1, e.cell q2, e⟩ : V.cell? ⟨b, off, none⟩ = some (.string a0) ∧ V.cell? ⟨b, off + 1, none⟩ = some (.string a1) ∧ V.cell? ⟨b, off + 2, none⟩ = some (.string a2) ∧ Ext w V))
  have i0 : (0 : Int) < (n : Int) := by omega
  have i1 : (1 : Int) < (n : Int) := by omega
  have i2 : (2 : Int) < (n : Int) := by omega
  have j3 : ¬ n < 3 := by omega
  have j3' : ¬ (n : Int) < 3 := by omega
  go_enter Tryz.func47, Tryz.ntmps47
  have HW1 := Lib.hid hw1
  have HG := Lib.hid hg
  clear hw1 hg
  go_upto_region 1 with (fail)
  rw [← HW1.out, ← HG.out]
  clear HW1 HG
  obtain ⟨z0, f0, z1, f1, z2, f2, z3, f3, z4, f4, z5, f5⟩ := id hz
  obtain ⟨r0, r1, r2, -⟩ := MK.out w1 hx
  clear q0 q1 q2
  go_wp2_with fail
  refine wp_region_held_drew (S := (fun V => V.cell? ⟨b, off, none⟩ = some (.string a0) ∧ V.cell? ⟨b, off + 1, none⟩ = some (.string a1) ∧ V.cell? ⟨b, off + 2, none⟩ = some (.string a2) ∧ Ext w V)) (by kernel_rfl) ?hs32 (fun hHeld => ?go32)
  case hs32 => (exact MK.out _ (by repeat (first | with_reducible exact Ext.refl _ | with_reducible assumption | with_reducible refine Ext.drew ?_ | with_reducible refine Ext.drewN ?_ _ | with_reducible refine Ext.alloc ?_ _ | (with_reducible refine Ext.setCell ?_ (by first | assumption | omega) _))))
  refine wpAnyH_take (i := 0) (oi := { dst := (some 59), op := (Op.move (Operand.tmp 0)), type := 46, pos := "ref.go:302", after := #[], guard := none }) (v := ?v33) rfl (by kernel_rfl) (by kernel_rfl) (by kernel_rfl) (fun _ _ _ h => h) (Or.inl ⟨rfl, ?hy33⟩) hHeld ?rest33
  case hy33 => (intro w hSw; (try dsimp only at hSw); go_simp <;> first | with_reducible rfl | rw [if_neg (by omega)] | rw [if_pos (by omega)])
  (try simp only [Act.put]); (try simp only [List.setIfInBounds_toArray]); (try simp only [List.set_cons_succ]); (try simp only [List.set_cons_zero])
  refine wpAnyH_take (i := 1) (oi := { dst := (some 60), op := (Op.indexAddr 46 (Operand.tmp 59) (Operand.const (Value.int IntKind.i64 1))), type := 0, pos := "ref.go:302", after := #[{ on := 0, ground := Ground.data }], guard := none }) (v := ?v34) rfl (by kernel_rfl) (by kernel_rfl) (by kernel_rfl) (fun _ _ _ h => h) (Or.inl ⟨rfl, ?hy34⟩) hHeld ?rest34
  case hy34 => (intro w hSw; (try dsimp only at hSw); go_simp <;> first | with_reducible rfl | rw [if_neg (by omega)] | rw [if_pos (by omega)])
  (try simp only [Act.put]); (try simp only [List.setIfInBounds_toArray]); (try simp only [List.set_cons_succ]); (try simp only [List.set_cons_zero])
  refine wpAnyH_take (i := 2) (oi := { dst := (some 61), op := (Op.load 9 (Operand.tmp 60)), type := 9, pos := "ref.go:302", after := #[{ on := 1, ground := Ground.data }], guard := none }) (v := ?v35) rfl (by kernel_rfl) (by kernel_rfl) (by kernel_rfl) (fun _ _ _ h => h) (Or.inl ⟨rfl, ?hy35⟩) hHeld ?rest35
  case hy35 => (intro w hSw; (try dsimp only at hSw); go_simp <;> first | with_reducible rfl | rw [if_neg (by omega)] | rw [if_pos (by omega)])
  (try simp only [Act.put]); (try simp only [List.setIfInBounds_toArray]); (try simp only [List.set_cons_succ]); (try simp only [List.set_cons_zero])
  refine wpAnyH_take (i := 3) (oi := { dst := (some 62), op := (Op.move (Operand.tmp 0)), type := 46, pos := "ref.go:302", after := #[], guard := none }) (v := ?v36) rfl (by kernel_rfl) (by kernel_rfl) (by kernel_rfl) (fun _ _ _ h => h) (Or.inl ⟨rfl, ?hy36⟩) hHeld ?rest36
  case hy36 => (intro w hSw; (try dsimp only at hSw); go_simp <;> first | with_reducible rfl | rw [if_neg (by omega)] | rw [if_pos (by omega)])
  (try simp only [Act.put]); (try simp only [List.setIfInBounds_toArray]); (try simp only [List.set_cons_succ]); (try simp only [List.set_cons_zero])
  refine wpAnyH_take (i := 4) (oi := { dst := (some 63), op := (Op.indexAddr 46 (Operand.tmp 62) (Operand.const (Value.int IntKind.i64 2))), type := 0, pos := "ref.go:302", after := #[{ on := 3, ground := Ground.data }], guard := none }) (v := ?v37) rfl (by kernel_rfl) (by kernel_rfl) (by kernel_rfl) (fun _ _ _ h => h) (Or.inl ⟨rfl, ?hy37⟩) hHeld ?rest37
  case hy37 => (intro w hSw; (try dsimp only at hSw); go_simp <;> first | with_reducible rfl | rw [if_neg (by omega)] | rw [if_pos (by omega)])
  (try simp only [Act.put]); (try simp only [List.setIfInBounds_toArray]); (try simp only [List.set_cons_succ]); (try simp only [List.set_cons_zero])
  refine wpAnyH_take (i := 5) (oi := { dst := (some 64), op := (Op.load 9 (Operand.tmp 63)), type := 9, pos := "ref.go:302", after := #[{ on := 4, ground := Ground.data }], guard := none }) (v := ?v38) rfl (by kernel_rfl) (by kernel_rfl) (by kernel_rfl) (fun _ _ _ h => h) (Or.inl ⟨rfl, ?hy38⟩) hHeld ?rest38
  case hy38 => (intro w hSw; (try dsimp only at hSw); go_simp <;> first | with_reducible rfl | rw [if_neg (by omega)] | rw [if_pos (by omega)])
  (try simp only [Act.put]); (try simp only [List.setIfInBounds_toArray]); (try simp only [List.set_cons_succ]); (try simp only [List.set_cons_zero])
  refine wpAnyH_take (i := 6) (oi := { dst := (some 65), op := (Op.build 23 #[(0, (Operand.const (Value.int IntKind.i64 2))), (2, (Operand.tmp 61)), (3, (Operand.tmp 64))]), type := 23, pos := "ref.go:302", after := #[{ on := 2, ground := Ground.data }, { on := 5, ground := Ground.data }], guard := none }) (v := ?v39) rfl (by kernel_rfl) (by kernel_rfl) (by kernel_rfl) (fun _ _ _ h => h) (Or.inl ⟨rfl, ?hy39⟩) hHeld ?rest39
  case hy39 => (intro w hSw; (try dsimp only at hSw); go_simp <;> first | with_reducible rfl | rw [if_neg (by omega)] | rw [if_pos (by omega)])
  (try simp only [Act.put]); (try simp only [List.setIfInBounds_toArray]); (try simp only [List.set_cons_succ]); (try simp only [List.set_cons_zero])
  refine wpAnyH_ready (rs := [7]) (by kernel_rfl) (by simp) ?_
  refine AllReadyH.cons (o := { dst := none, op := (Op.store 23 (Operand.tmp 2) (Operand.tmp 65)), type := 0, pos := "ref.go:302", after := #[{ on := 6, ground := Ground.data }, { on := 0, ground := Ground.phase }, { on := 1, ground := Ground.phase }, { on := 2, ground := Ground.phase }, { on := 3, ground := Ground.phase }, { on := 4, ground := Ground.phase }, { on := 5, ground := Ground.phase }, { on := 6, ground := Ground.phase }], guard := none }) rfl (fun K hK => ?step40x0) ?more40x0
  case more40x0 => exact AllReadyH.nil
  go_simp
  refine hK.out _ _ ?hS40x0 (fun hHeld40 => ?rest40x0)
  case hS40x0 => first | (exact MK.out _ (by repeat (first | with_reducible exact Ext.refl _ | with_reducible assumption | with_reducible refine Ext.drew ?_ | with_reducible refine Ext.drewN ?_ _ | with_reducible refine Ext.alloc ?_ _ | (with_reducible refine Ext.setCell ?_ (by first | assumption | omega) _)))) | ((try dsimp only); (exact MK.out _ (by repeat (first | with_reducible exact Ext.refl _ | with_reducible assumption | with_reducible refine Ext.drew ?_ | with_reducible refine Ext.drewN ?_ _ | with_reducible refine Ext.alloc ?_ _ | (with_reducible refine Ext.setCell ?_ (by first | assumption | omega) _)))))
  clear hK K
  clear hHeld
  (try simp only [Act.put]); (try simp only [List.setIfInBounds_toArray]); (try simp only [List.set_cons_succ]); (try simp only [List.set_cons_zero])
  refine wpAnyH_done (by kernel_rfl) ?_ _
  clear hHeld40
  go_wp2_with fail
  exact bodyPost_ret (v := RuleP.val ⟨2, 0, a1, a2, emptyB, emptyB⟩) (by simp [results, Tryz.results47, RuleP.val, emptyB, go_sem, z0, z1, z2, z3, z4, z5] <;> rfl) rfl ⟨rfl, (by repeat (first | with_reducible exact Ext.refl _ | with_reducible assumption | with_reducible refine Ext.drew ?_ | with_reducible refine Ext.drewN ?_ _ | with_reducible refine Ext.alloc ?_ _ | (with_reducible refine Ext.setCell ?_ (by first | assumption | omega) _)))⟩

set_option maxRecDepth 100000 in
set_option maxHeartbeats 1600000 in
theorem r9_guess_k (b off c : Nat) (a0 a1 a2 a3 : ByteArray) (w : World) (q0 : w.cell? ⟨b, off, none⟩ = some (.string a0)) (q1 : w.cell? ⟨b, off + 1, none⟩ = some (.string a1)) (q2 : w.cell? ⟨b, off + 2, none⟩ = some (.string a2)) (q3 : w.cell? ⟨b, off + 3, none⟩ = some (.string a3)) (eedge : (a0.toList == [101, 100, 103, 101]) = false) (eunique : (a0.toList == [117, 110, 105, 113, 117, 101]) = false) (eexists : (a0.toList == [101, 120, 105, 115, 116, 115]) = false) (ekind : (a0.toList == [107, 105, 110, 100]) = true) :
    Calls Tryz.prog 47 #[.slice (some ⟨b, off, none⟩) 4 c] w fun e w' => e = .returned (RuleP.val ⟨3, kindW a3.data.toList, a1, a2, emptyB, emptyB⟩) ∧ Ext w w' := by
  obtain ⟨g, w1, hg, hw1, hz, hx, hle⟩ := box_zero w
  have MK := Lib.hid (fun V (e : Ext w V) => (⟨e.cell q0, e.cell q1, e.cell q2, e.cell q3, e⟩ : V.cell? ⟨b, off, none⟩ = some (.string a0) ∧ V.cell? ⟨b, off + 1, none⟩ = some (.string a1) ∧ V.cell? ⟨b, off + 2, none⟩ = some (.string a2) ∧ V.cell? ⟨b, off + 3, none⟩ = some (.string a3) ∧ Ext w V))
  go_enter Tryz.func47, Tryz.ntmps47
  have HW1 := Lib.hid hw1
  have HG := Lib.hid hg
  clear hw1 hg
  go_upto_region 1 with (fail)
  rw [← HW1.out, ← HG.out]
  clear HW1 HG
  obtain ⟨z0, f0, z1, f1, z2, f2, z3, f3, z4, f4, z5, f5⟩ := id hz
  obtain ⟨r0, r1, r2, r3, -⟩ := MK.out w1 hx
  clear q0 q1 q2 q3
  go_wp2_with fail
  refine wp_region_held_drew (S := (fun V => V.cell? ⟨b, off, none⟩ = some (.string a0) ∧ V.cell? ⟨b, off + 1, none⟩ = some (.string a1) ∧ V.cell? ⟨b, off + 2, none⟩ = some (.string a2) ∧ V.cell? ⟨b, off + 3, none⟩ = some (.string a3) ∧ Ext w V)) (by kernel_rfl) ?hs41 (fun hHeld => ?go41)
  case hs41 => (exact MK.out _ (by repeat (first | with_reducible exact Ext.refl _ | with_reducible assumption | with_reducible refine Ext.drew ?_ | with_reducible refine Ext.drewN ?_ _ | with_reducible refine Ext.alloc ?_ _ | (with_reducible refine Ext.setCell ?_ (by first | assumption | omega) _))))
  refine wpAnyH_take (i := 0) (oi := { dst := (some 75), op := (Op.move (Operand.tmp 0)), type := 46, pos := "ref.go:305", after := #[], guard := none }) (v := ?v42) rfl (by kernel_rfl) (by kernel_rfl) (by kernel_rfl) (fun _ _ _ h => h) (Or.inl ⟨rfl, ?hy42⟩) hHeld ?rest42
  case hy42 => (intro w hSw; (try dsimp only at hSw); go_simp <;> first | with_reducible rfl | rw [if_neg (by omega)] | rw [if_pos (by omega)])
  (try simp only [Act.put]); (try simp only [List.setIfInBounds_toArray]); (try simp only [List.set_cons_succ]); (try simp only [List.set_cons_zero])
  refine wpAnyH_take (i := 1) (oi := { dst := (some 76), op := (Op.indexAddr 46 (Operand.tmp 75) (Operand.const (Value.int IntKind.i64 1))), type := 0, pos := "ref.go:305", after := #[{ on := 0, ground := Ground.data }], guard := none }) (v := ?v43) rfl (by kernel_rfl) (by kernel_rfl) (by kernel_rfl) (fun _ _ _ h => h) (Or.inl ⟨rfl, ?hy43⟩) hHeld ?rest43
  case hy43 => (intro w hSw; (try dsimp only at hSw); go_simp <;> first | with_reducible rfl | rw [if_neg (by omega)] | rw [if_pos (by omega)])
  (try simp only [Act.put]); (try simp only [List.setIfInBounds_toArray]); (try simp only [List.set_cons_succ]); (try simp only [List.set_cons_zero])
  refine wpAnyH_take (i := 2) (oi := { dst := (some 77), op := (Op.load 9 (Operand.tmp 76)), type := 9, pos := "ref.go:305", after := #[{ on := 1, ground := Ground.data }], guard := none }) (v := ?v44) rfl (by kernel_rfl) (by kernel_rfl) (by kernel_rfl) (fun _ _ _ h => h) (Or.inl ⟨rfl, ?hy44⟩) hHeld ?rest44
  case hy44 => (intro w hSw; (try dsimp only at hSw); go_simp <;> first | with_reducible rfl | rw [if_neg (by omega)] | rw [if_pos (by omega)])
  (try simp only [Act.put]); (try simp only [List.setIfInBounds_toArray]); (try simp only [List.set_cons_succ]); (try simp only [List.set_cons_zero])
  refine wpAnyH_take (i := 3) (oi := { dst := (some 78), op := (Op.move (Operand.tmp 0)), type := 46, pos := "ref.go:305", after := #[], guard := none }) (v := ?v45) rfl (by kernel_rfl) (by kernel_rfl) (by kernel_rfl) (fun _ _ _ h => h) (Or.inl ⟨rfl, ?hy45⟩) hHeld ?rest45
  case hy45 => (intro w hSw; (try dsimp only at hSw); go_simp <;> first | with_reducible rfl | rw [if_neg (by omega)] | rw [if_pos (by omega)])
  (try simp only [Act.put]); (try simp only [List.setIfInBounds_toArray]); (try simp only [List.set_cons_succ]); (try simp only [List.set_cons_zero])
  refine wpAnyH_take (i := 4) (oi := { dst := (some 79), op := (Op.indexAddr 46 (Operand.tmp 78) (Operand.const (Value.int IntKind.i64 2))), type := 0, pos := "ref.go:305", after := #[{ on := 3, ground := Ground.data }], guard := none }) (v := ?v46) rfl (by kernel_rfl) (by kernel_rfl) (by kernel_rfl) (fun _ _ _ h => h) (Or.inl ⟨rfl, ?hy46⟩) hHeld ?rest46
  case hy46 => (intro w hSw; (try dsimp only at hSw); go_simp <;> first | with_reducible rfl | rw [if_neg (by omega)] | rw [if_pos (by omega)])
  (try simp only [Act.put]); (try simp only [List.setIfInBounds_toArray]); (try simp only [List.set_cons_succ]); (try simp only [List.set_cons_zero])
  refine wpAnyH_take (i := 5) (oi := { dst := (some 80), op := (Op.load 9 (Operand.tmp 79)), type := 9, pos := "ref.go:305", after := #[{ on := 4, ground := Ground.data }], guard := none }) (v := ?v47) rfl (by kernel_rfl) (by kernel_rfl) (by kernel_rfl) (fun _ _ _ h => h) (Or.inl ⟨rfl, ?hy47⟩) hHeld ?rest47
  case hy47 => (intro w hSw; (try dsimp only at hSw); go_simp <;> first | with_reducible rfl | rw [if_neg (by omega)] | rw [if_pos (by omega)])
  (try simp only [Act.put]); (try simp only [List.setIfInBounds_toArray]); (try simp only [List.set_cons_succ]); (try simp only [List.set_cons_zero])
  refine wpAnyH_take (i := 6) (oi := { dst := (some 81), op := (Op.move (Operand.tmp 0)), type := 46, pos := "ref.go:305", after := #[], guard := none }) (v := ?v48) rfl (by kernel_rfl) (by kernel_rfl) (by kernel_rfl) (fun _ _ _ h => h) (Or.inl ⟨rfl, ?hy48⟩) hHeld ?rest48
  case hy48 => (intro w hSw; (try dsimp only at hSw); go_simp <;> first | with_reducible rfl | rw [if_neg (by omega)] | rw [if_pos (by omega)])
  (try simp only [Act.put]); (try simp only [List.setIfInBounds_toArray]); (try simp only [List.set_cons_succ]); (try simp only [List.set_cons_zero])
  refine wpAnyH_take (i := 7) (oi := { dst := (some 82), op := (Op.indexAddr 46 (Operand.tmp 81) (Operand.const (Value.int IntKind.i64 3))), type := 0, pos := "ref.go:305", after := #[{ on := 6, ground := Ground.data }], guard := none }) (v := ?v49) rfl (by kernel_rfl) (by kernel_rfl) (by kernel_rfl) (fun _ _ _ h => h) (Or.inl ⟨rfl, ?hy49⟩) hHeld ?rest49
  case hy49 => (intro w hSw; (try dsimp only at hSw); go_simp <;> first | with_reducible rfl | rw [if_neg (by omega)] | rw [if_pos (by omega)])
  (try simp only [Act.put]); (try simp only [List.setIfInBounds_toArray]); (try simp only [List.set_cons_succ]); (try simp only [List.set_cons_zero])
  refine wpAnyH_take (i := 8) (oi := { dst := (some 83), op := (Op.load 9 (Operand.tmp 82)), type := 9, pos := "ref.go:305", after := #[{ on := 7, ground := Ground.data }], guard := none }) (v := ?v50) rfl (by kernel_rfl) (by kernel_rfl) (by kernel_rfl) (fun _ _ _ h => h) (Or.inl ⟨rfl, ?hy50⟩) hHeld ?rest50
  case hy50 => (intro w hSw; (try dsimp only at hSw); go_simp <;> first | with_reducible rfl | rw [if_neg (by omega)] | rw [if_pos (by omega)])
  (try simp only [Act.put]); (try simp only [List.setIfInBounds_toArray]); (try simp only [List.set_cons_succ]); (try simp only [List.set_cons_zero])
  refine wpAnyH_ready (rs := [9]) (by kernel_rfl) (by simp) ?_
  refine AllReadyH.cons (o := { dst := (some 84), op := (Op.call { callee := (Callee.value (Operand.func 65)), args := #[(Operand.tmp 83)], argTypes := #[9] }), type := 3, pos := "ref.go:305", after := #[{ on := 8, ground := Ground.data }], guard := none }) rfl (fun K hK => ?step51x0) ?more51x0
  case more51x0 => exact AllReadyH.nil
  go_simp
  (go_at_call 65; refine (r9_kind a3 _).mono ?_; rintro e w' ⟨rfl, rfl⟩)
  refine hK.out _ _ ?hS51x0 (fun hHeld51 => ?rest51x0)
  case hS51x0 => first | (exact MK.out _ (by repeat (first | with_reducible exact Ext.refl _ | with_reducible assumption | with_reducible refine Ext.drew ?_ | with_reducible refine Ext.drewN ?_ _ | with_reducible refine Ext.alloc ?_ _ | (with_reducible refine Ext.setCell ?_ (by first | assumption | omega) _)))) | ((try dsimp only); (exact MK.out _ (by repeat (first | with_reducible exact Ext.refl _ | with_reducible assumption | with_reducible refine Ext.drew ?_ | with_reducible refine Ext.drewN ?_ _ | with_reducible refine Ext.alloc ?_ _ | (with_reducible refine Ext.setCell ?_ (by first | assumption | omega) _)))))
  clear hK K
  clear hHeld
  (try simp only [Act.put]); (try simp only [List.setIfInBounds_toArray]); (try simp only [List.set_cons_succ]); (try simp only [List.set_cons_zero])
  refine wpAnyH_take (i := 10) (oi := { dst := (some 85), op := (Op.build 23 #[(0, (Operand.const (Value.int IntKind.i64 3))), (2, (Operand.tmp 77)), (3, (Operand.tmp 80)), (1, (Operand.tmp 84))]), type := 23, pos := "ref.go:305", after := #[{ on := 2, ground := Ground.data }, { on := 5, ground := Ground.data }, { on := 9, ground := Ground.data }], guard := none }) (v := ?v52) rfl (by kernel_rfl) (by kernel_rfl) (by kernel_rfl) (fun _ _ _ h => h) (Or.inl ⟨rfl, ?hy52⟩) hHeld51 ?rest52
  case hy52 => (intro w hSw; (try dsimp only at hSw); go_simp <;> first | with_reducible rfl | rw [if_neg (by omega)] | rw [if_pos (by omega)])
  (try simp only [Act.put]); (try simp only [List.setIfInBounds_toArray]); (try simp only [List.set_cons_succ]); (try simp only [List.set_cons_zero])
  refine wpAnyH_ready (rs := [11]) (by kernel_rfl) (by simp) ?_
  refine AllReadyH.cons (o := { dst := none, op := (Op.store 23 (Operand.tmp 2) (Operand.tmp 85)), type := 0, pos := "ref.go:305", after := #[{ on := 10, ground := Ground.data }, { on := 9, ground := Ground.chain }, { on := 0, ground := Ground.phase }, { on := 1, ground := Ground.phase }, { on := 2, ground := Ground.phase }, { on := 3, ground := Ground.phase }, { on := 4, ground := Ground.phase }, { on := 5, ground := Ground.phase }, { on := 6, ground := Ground.phase }, { on := 7, ground := Ground.phase }, { on := 8, ground := Ground.phase }, { on := 9, ground := Ground.phase }, { on := 10, ground := Ground.phase }], guard := none }) rfl (fun K hK => ?step53x0) ?more53x0
  case more53x0 => exact AllReadyH.nil
  go_simp
  refine hK.out _ _ ?hS53x0 (fun hHeld53 => ?rest53x0)
  case hS53x0 => first | (exact MK.out _ (by repeat (first | with_reducible exact Ext.refl _ | with_reducible assumption | with_reducible refine Ext.drew ?_ | with_reducible refine Ext.drewN ?_ _ | with_reducible refine Ext.alloc ?_ _ | (with_reducible refine Ext.setCell ?_ (by first | assumption | omega) _)))) | ((try dsimp only); (exact MK.out _ (by repeat (first | with_reducible exact Ext.refl _ | with_reducible assumption | with_reducible refine Ext.drew ?_ | with_reducible refine Ext.drewN ?_ _ | with_reducible refine Ext.alloc ?_ _ | (with_reducible refine Ext.setCell ?_ (by first | assumption | omega) _)))))
  clear hK K
  clear hHeld51
  (try simp only [Act.put]); (try simp only [List.setIfInBounds_toArray]); (try simp only [List.set_cons_succ]); (try simp only [List.set_cons_zero])
  refine wpAnyH_done (by kernel_rfl) ?_ _
  clear hHeld53
  go_wp2_with fail
  exact bodyPost_ret (v := RuleP.val ⟨3, kindW a3.data.toList, a1, a2, emptyB, emptyB⟩) (by simp [results, Tryz.results47, RuleP.val, emptyB, go_sem, z0, z1, z2, z3, z4, z5] <;> rfl) rfl ⟨rfl, (by repeat (first | with_reducible exact Ext.refl _ | with_reducible assumption | with_reducible refine Ext.drew ?_ | with_reducible refine Ext.drewN ?_ _ | with_reducible refine Ext.alloc ?_ _ | (with_reducible refine Ext.setCell ?_ (by first | assumption | omega) _)))⟩

set_option maxRecDepth 100000 in
set_option maxHeartbeats 1600000 in
theorem r9_guess_n (b off c : Nat) (a0 a1 a2 a3 : ByteArray) (w : World) (q0 : w.cell? ⟨b, off, none⟩ = some (.string a0)) (q1 : w.cell? ⟨b, off + 1, none⟩ = some (.string a1)) (q2 : w.cell? ⟨b, off + 2, none⟩ = some (.string a2)) (q3 : w.cell? ⟨b, off + 3, none⟩ = some (.string a3)) (eedge : (a0.toList == [101, 100, 103, 101]) = false) (eunique : (a0.toList == [117, 110, 105, 113, 117, 101]) = false) (eexists : (a0.toList == [101, 120, 105, 115, 116, 115]) = false) (ekind : (a0.toList == [107, 105, 110, 100]) = false) (eends : (a0.toList == [101, 110, 100, 115]) = true) :
    Calls Tryz.prog 47 #[.slice (some ⟨b, off, none⟩) 4 c] w fun e w' => e = .returned (RuleP.val ⟨6, 0, a1, emptyB, someB a2, someB a3⟩) ∧ Ext w w' := by
  obtain ⟨g, w1, hg, hw1, hz, hx, hle⟩ := box_zero w
  have MK := Lib.hid (fun V (e : Ext w V) => (⟨e.cell q0, e.cell q1, e.cell q2, e.cell q3, e⟩ : V.cell? ⟨b, off, none⟩ = some (.string a0) ∧ V.cell? ⟨b, off + 1, none⟩ = some (.string a1) ∧ V.cell? ⟨b, off + 2, none⟩ = some (.string a2) ∧ V.cell? ⟨b, off + 3, none⟩ = some (.string a3) ∧ Ext w V))
  go_enter Tryz.func47, Tryz.ntmps47
  have HW1 := Lib.hid hw1
  have HG := Lib.hid hg
  clear hw1 hg
  go_upto_region 1 with (fail)
  rw [← HW1.out, ← HG.out]
  clear HW1 HG
  obtain ⟨z0, f0, z1, f1, z2, f2, z3, f3, z4, f4, z5, f5⟩ := id hz
  obtain ⟨r0, r1, r2, r3, -⟩ := MK.out w1 hx
  clear q0 q1 q2 q3
  go_wp2_with fail
  refine wp_region_held_drew (S := (fun V => V.cell? ⟨b, off, none⟩ = some (.string a0) ∧ V.cell? ⟨b, off + 1, none⟩ = some (.string a1) ∧ V.cell? ⟨b, off + 2, none⟩ = some (.string a2) ∧ V.cell? ⟨b, off + 3, none⟩ = some (.string a3) ∧ Ext w V)) (by kernel_rfl) ?hs54 (fun hHeld => ?go54)
  case hs54 => (exact MK.out _ (by repeat (first | with_reducible exact Ext.refl _ | with_reducible assumption | with_reducible refine Ext.drew ?_ | with_reducible refine Ext.drewN ?_ _ | with_reducible refine Ext.alloc ?_ _ | (with_reducible refine Ext.setCell ?_ (by first | assumption | omega) _))))
  refine wpAnyH_take (i := 0) (oi := { dst := (some 95), op := (Op.move (Operand.tmp 0)), type := 46, pos := "ref.go:308", after := #[], guard := none }) (v := ?v55) rfl (by kernel_rfl) (by kernel_rfl) (by kernel_rfl) (fun _ _ _ h => h) (Or.inl ⟨rfl, ?hy55⟩) hHeld ?rest55
  case hy55 => (intro w hSw; (try dsimp only at hSw); go_simp <;> first | with_reducible rfl | rw [if_neg (by omega)] | rw [if_pos (by omega)])
  (try simp only [Act.put]); (try simp only [List.setIfInBounds_toArray]); (try simp only [List.set_cons_succ]); (try simp only [List.set_cons_zero])
  refine wpAnyH_take (i := 1) (oi := { dst := (some 96), op := (Op.indexAddr 46 (Operand.tmp 95) (Operand.const (Value.int IntKind.i64 1))), type := 0, pos := "ref.go:308", after := #[{ on := 0, ground := Ground.data }], guard := none }) (v := ?v56) rfl (by kernel_rfl) (by kernel_rfl) (by kernel_rfl) (fun _ _ _ h => h) (Or.inl ⟨rfl, ?hy56⟩) hHeld ?rest56
  case hy56 => (intro w hSw; (try dsimp only at hSw); go_simp <;> first | with_reducible rfl | rw [if_neg (by omega)] | rw [if_pos (by omega)])
  (try simp only [Act.put]); (try simp only [List.setIfInBounds_toArray]); (try simp only [List.set_cons_succ]); (try simp only [List.set_cons_zero])
  refine wpAnyH_take (i := 2) (oi := { dst := (some 97), op := (Op.load 9 (Operand.tmp 96)), type := 9, pos := "ref.go:308", after := #[{ on := 1, ground := Ground.data }], guard := none }) (v := ?v57) rfl (by kernel_rfl) (by kernel_rfl) (by kernel_rfl) (fun _ _ _ h => h) (Or.inl ⟨rfl, ?hy57⟩) hHeld ?rest57
  case hy57 => (intro w hSw; (try dsimp only at hSw); go_simp <;> first | with_reducible rfl | rw [if_neg (by omega)] | rw [if_pos (by omega)])
  (try simp only [Act.put]); (try simp only [List.setIfInBounds_toArray]); (try simp only [List.set_cons_succ]); (try simp only [List.set_cons_zero])
  refine wpAnyH_take (i := 3) (oi := { dst := (some 98), op := (Op.move (Operand.tmp 0)), type := 46, pos := "ref.go:308", after := #[], guard := none }) (v := ?v58) rfl (by kernel_rfl) (by kernel_rfl) (by kernel_rfl) (fun _ _ _ h => h) (Or.inl ⟨rfl, ?hy58⟩) hHeld ?rest58
  case hy58 => (intro w hSw; (try dsimp only at hSw); go_simp <;> first | with_reducible rfl | rw [if_neg (by omega)] | rw [if_pos (by omega)])
  (try simp only [Act.put]); (try simp only [List.setIfInBounds_toArray]); (try simp only [List.set_cons_succ]); (try simp only [List.set_cons_zero])
  refine wpAnyH_take (i := 4) (oi := { dst := (some 99), op := (Op.indexAddr 46 (Operand.tmp 98) (Operand.const (Value.int IntKind.i64 2))), type := 0, pos := "ref.go:308", after := #[{ on := 3, ground := Ground.data }], guard := none }) (v := ?v59) rfl (by kernel_rfl) (by kernel_rfl) (by kernel_rfl) (fun _ _ _ h => h) (Or.inl ⟨rfl, ?hy59⟩) hHeld ?rest59
  case hy59 => (intro w hSw; (try dsimp only at hSw); go_simp <;> first | with_reducible rfl | rw [if_neg (by omega)] | rw [if_pos (by omega)])
  (try simp only [Act.put]); (try simp only [List.setIfInBounds_toArray]); (try simp only [List.set_cons_succ]); (try simp only [List.set_cons_zero])
  refine wpAnyH_take (i := 5) (oi := { dst := (some 100), op := (Op.load 9 (Operand.tmp 99)), type := 9, pos := "ref.go:308", after := #[{ on := 4, ground := Ground.data }], guard := none }) (v := ?v60) rfl (by kernel_rfl) (by kernel_rfl) (by kernel_rfl) (fun _ _ _ h => h) (Or.inl ⟨rfl, ?hy60⟩) hHeld ?rest60
  case hy60 => (intro w hSw; (try dsimp only at hSw); go_simp <;> first | with_reducible rfl | rw [if_neg (by omega)] | rw [if_pos (by omega)])
  (try simp only [Act.put]); (try simp only [List.setIfInBounds_toArray]); (try simp only [List.set_cons_succ]); (try simp only [List.set_cons_zero])
  refine wpAnyH_take (i := 7) (oi := { dst := (some 102), op := (Op.move (Operand.tmp 0)), type := 46, pos := "ref.go:308", after := #[], guard := none }) (v := ?v61) rfl (by kernel_rfl) (by kernel_rfl) (by kernel_rfl) (fun _ _ _ h => h) (Or.inl ⟨rfl, ?hy61⟩) hHeld ?rest61
  case hy61 => (intro w hSw; (try dsimp only at hSw); go_simp <;> first | with_reducible rfl | rw [if_neg (by omega)] | rw [if_pos (by omega)])
  (try simp only [Act.put]); (try simp only [List.setIfInBounds_toArray]); (try simp only [List.set_cons_succ]); (try simp only [List.set_cons_zero])
  refine wpAnyH_take (i := 8) (oi := { dst := (some 103), op := (Op.indexAddr 46 (Operand.tmp 102) (Operand.const (Value.int IntKind.i64 3))), type := 0, pos := "ref.go:308", after := #[{ on := 7, ground := Ground.data }], guard := none }) (v := ?v62) rfl (by kernel_rfl) (by kernel_rfl) (by kernel_rfl) (fun _ _ _ h => h) (Or.inl ⟨rfl, ?hy62⟩) hHeld ?rest62
  case hy62 => (intro w hSw; (try dsimp only at hSw); go_simp <;> first | with_reducible rfl | rw [if_neg (by omega)] | rw [if_pos (by omega)])
  (try simp only [Act.put]); (try simp only [List.setIfInBounds_toArray]); (try simp only [List.set_cons_succ]); (try simp only [List.set_cons_zero])
  refine wpAnyH_take (i := 9) (oi := { dst := (some 104), op := (Op.load 9 (Operand.tmp 103)), type := 9, pos := "ref.go:308", after := #[{ on := 8, ground := Ground.data }], guard := none }) (v := ?v63) rfl (by kernel_rfl) (by kernel_rfl) (by kernel_rfl) (fun _ _ _ h => h) (Or.inl ⟨rfl, ?hy63⟩) hHeld ?rest63
  case hy63 => (intro w hSw; (try dsimp only at hSw); go_simp <;> first | with_reducible rfl | rw [if_neg (by omega)] | rw [if_pos (by omega)])
  (try simp only [Act.put]); (try simp only [List.setIfInBounds_toArray]); (try simp only [List.set_cons_succ]); (try simp only [List.set_cons_zero])
  refine wpAnyH_ready (rs := [6]) (by kernel_rfl) (by simp) ?_
  refine AllReadyH.cons (o := { dst := (some 101), op := (Op.call { callee := (Callee.value (Operand.func 66)), args := #[(Operand.tmp 100)], argTypes := #[9] }), type := 9, pos := "ref.go:308", after := #[{ on := 5, ground := Ground.data }], guard := none }) rfl (fun K hK => ?step64x0) ?more64x0
  case more64x0 => exact AllReadyH.nil
  go_simp
  (go_at_call 66; refine (r9_some a2 _).mono ?_; rintro e w' ⟨rfl, rfl⟩)
  refine hK.out _ _ ?hS64x0 (fun hHeld64 => ?rest64x0)
  case hS64x0 => first | (exact MK.out _ (by repeat (first | with_reducible exact Ext.refl _ | with_reducible assumption | with_reducible refine Ext.drew ?_ | with_reducible refine Ext.drewN ?_ _ | with_reducible refine Ext.alloc ?_ _ | (with_reducible refine Ext.setCell ?_ (by first | assumption | omega) _)))) | ((try dsimp only); (exact MK.out _ (by repeat (first | with_reducible exact Ext.refl _ | with_reducible assumption | with_reducible refine Ext.drew ?_ | with_reducible refine Ext.drewN ?_ _ | with_reducible refine Ext.alloc ?_ _ | (with_reducible refine Ext.setCell ?_ (by first | assumption | omega) _)))))
  clear hK K
  clear hHeld
  (try simp only [Act.put]); (try simp only [List.setIfInBounds_toArray]); (try simp only [List.set_cons_succ]); (try simp only [List.set_cons_zero])
  refine wpAnyH_ready (rs := [10]) (by kernel_rfl) (by simp) ?_
  refine AllReadyH.cons (o := { dst := (some 105), op := (Op.call { callee := (Callee.value (Operand.func 66)), args := #[(Operand.tmp 104)], argTypes := #[9] }), type := 9, pos := "ref.go:308", after := #[{ on := 9, ground := Ground.data }, { on := 6, ground := Ground.chain }], guard := none }) rfl (fun K hK => ?step65x0) ?more65x0
  case more65x0 => exact AllReadyH.nil
  go_simp
  (go_at_call 66; refine (r9_some a3 _).mono ?_; rintro e w' ⟨rfl, rfl⟩)
  refine hK.out _ _ ?hS65x0 (fun hHeld65 => ?rest65x0)
  case hS65x0 => first | (exact MK.out _ (by repeat (first | with_reducible exact Ext.refl _ | with_reducible assumption | with_reducible refine Ext.drew ?_ | with_reducible refine Ext.drewN ?_ _ | with_reducible refine Ext.alloc ?_ _ | (with_reducible refine Ext.setCell ?_ (by first | assumption | omega) _)))) | ((try dsimp only); (exact MK.out _ (by repeat (first | with_reducible exact Ext.refl _ | with_reducible assumption | with_reducible refine Ext.drew ?_ | with_reducible refine Ext.drewN ?_ _ | with_reducible refine Ext.alloc ?_ _ | (with_reducible refine Ext.setCell ?_ (by first | assumption | omega) _)))))
  clear hK K
  clear hHeld64
  (try simp only [Act.put]); (try simp only [List.setIfInBounds_toArray]); (try simp only [List.set_cons_succ]); (try simp only [List.set_cons_zero])
  refine wpAnyH_take (i := 11) (oi := { dst := (some 106), op := (Op.build 23 #[(0, (Operand.const (Value.int IntKind.i64 6))), (2, (Operand.tmp 97)), (4, (Operand.tmp 101)), (5, (Operand.tmp 105))]), type := 23, pos := "ref.go:308", after := #[{ on := 2, ground := Ground.data }, { on := 6, ground := Ground.data }, { on := 10, ground := Ground.data }], guard := none }) (v := ?v66) rfl (by kernel_rfl) (by kernel_rfl) (by kernel_rfl) (fun _ _ _ h => h) (Or.inl ⟨rfl, ?hy66⟩) hHeld65 ?rest66
  case hy66 => (intro w hSw; (try dsimp only at hSw); go_simp <;> first | with_reducible rfl | rw [if_neg (by omega)] | rw [if_pos (by omega)])
  (try simp only [Act.put]); (try simp only [List.setIfInBounds_toArray]); (try simp only [List.set_cons_succ]); (try simp only [List.set_cons_zero])
  refine wpAnyH_ready (rs := [12]) (by kernel_rfl) (by simp) ?_
  refine AllReadyH.cons (o := { dst := none, op := (Op.store 23 (Operand.tmp 2) (Operand.tmp 106)), type := 0, pos := "ref.go:308", after := #[{ on := 11, ground := Ground.data }, { on := 10, ground := Ground.chain }, { on := 0, ground := Ground.phase }, { on := 1, ground := Ground.phase }, { on := 2, ground := Ground.phase }, { on := 3, ground := Ground.phase }, { on := 4, ground := Ground.phase }, { on := 5, ground := Ground.phase }, { on := 6, ground := Ground.phase }, { on := 7, ground := Ground.phase }, { on := 8, ground := Ground.phase }, { on := 9, ground := Ground.phase }, { on := 10, ground := Ground.phase }, { on := 11, ground := Ground.phase }], guard := none }) rfl (fun K hK => ?step67x0) ?more67x0
  case more67x0 => exact AllReadyH.nil
  go_simp
  refine hK.out _ _ ?hS67x0 (fun hHeld67 => ?rest67x0)
  case hS67x0 => first | (exact MK.out _ (by repeat (first | with_reducible exact Ext.refl _ | with_reducible assumption | with_reducible refine Ext.drew ?_ | with_reducible refine Ext.drewN ?_ _ | with_reducible refine Ext.alloc ?_ _ | (with_reducible refine Ext.setCell ?_ (by first | assumption | omega) _)))) | ((try dsimp only); (exact MK.out _ (by repeat (first | with_reducible exact Ext.refl _ | with_reducible assumption | with_reducible refine Ext.drew ?_ | with_reducible refine Ext.drewN ?_ _ | with_reducible refine Ext.alloc ?_ _ | (with_reducible refine Ext.setCell ?_ (by first | assumption | omega) _)))))
  clear hK K
  clear hHeld65
  (try simp only [Act.put]); (try simp only [List.setIfInBounds_toArray]); (try simp only [List.set_cons_succ]); (try simp only [List.set_cons_zero])
  refine wpAnyH_done (by kernel_rfl) ?_ _
  clear hHeld67
  go_wp2_with fail
  exact bodyPost_ret (v := RuleP.val ⟨6, 0, a1, emptyB, someB a2, someB a3⟩) (by simp [results, Tryz.results47, RuleP.val, emptyB, go_sem, z0, z1, z2, z3, z4, z5] <;> rfl) rfl ⟨rfl, (by repeat (first | with_reducible exact Ext.refl _ | with_reducible assumption | with_reducible refine Ext.drew ?_ | with_reducible refine Ext.drewN ?_ _ | with_reducible refine Ext.alloc ?_ _ | (with_reducible refine Ext.setCell ?_ (by first | assumption | omega) _)))⟩

theorem numG_step (x : Int) (s : ByteArray) (k : Nat) (h : k < s.size) : numG x (s.data.toList.drop k) = if x ≤ 4000 then numG (IntKind.i64.wrap (IntKind.i64.wrap (IntKind.i64.wrap (x * 10) + s[k].toNat) - 48)) (s.data.toList.drop (k + 1)) else x := by
  have hc : s.data.toList.drop k = s[k] :: s.data.toList.drop (k + 1) := by
    rw [List.drop_eq_getElem_cons (by simpa using h)]; congr 1
  rw [hc]; rfl

theorem wrap_is (x : Int) : IntKind.i64.wrap x = wrap64 x := by rw [IntKind.wrap_i64]; unfold wrap64; omega
theorem wrap_byte (c : UInt8) : wrap64 (c.toNat : Int) = (c.toNat : Int) := IntWalk.wrap64_in _ (by have := c.toNat_lt; omega)

set_option maxRecDepth 100000 in
set_option maxHeartbeats 1600000 in
theorem r9_guess_l2 (b off c : Nat) (a0 a1 a2 : ByteArray) (w : World) (q0 : w.cell? ⟨b, off, none⟩ = some (.string a0)) (q1 : w.cell? ⟨b, off + 1, none⟩ = some (.string a1)) (q2 : w.cell? ⟨b, off + 2, none⟩ = some (.string a2)) (hz2 : a2.size ≤ 1000000) (eedge : (a0.toList == [101, 100, 103, 101]) = true) (eunique : (a0.toList == [117, 110, 105, 113, 117, 101]) = false) (eexists : (a0.toList == [101, 120, 105, 115, 116, 115]) = false) (ekind : (a0.toList == [107, 105, 110, 100]) = false) (eends : (a0.toList == [101, 110, 100, 115]) = false) :
    Calls Tryz.prog 47 #[.slice (some ⟨b, off, none⟩) 3 c] w fun e w' => e = .returned (RuleP.val ⟨7, numG 0 a2.data.toList, a1, emptyB, emptyB, emptyB⟩) ∧ Ext w w' := by
  obtain ⟨g, w1, hg, hw1, hz, hx, hle⟩ := box_zero w
  have MK := Lib.hid (fun V (e : Ext w V) => (⟨e.cell q0, e.cell q1, e.cell q2, e⟩ : V.cell? ⟨b, off, none⟩ = some (.string a0) ∧ V.cell? ⟨b, off + 1, none⟩ = some (.string a1) ∧ V.cell? ⟨b, off + 2, none⟩ = some (.string a2) ∧ Ext w V))
  go_enter Tryz.func47, Tryz.ntmps47
  have HW1 := Lib.hid hw1
  have HG := Lib.hid hg
  clear hw1 hg
  go_upto_region 1 with (fail)
  rw [← HW1.out, ← HG.out]
  clear HW1 HG
  obtain ⟨z0, f0, z1, f1, z2, f2, z3, f3, z4, f4, z5, f5⟩ := id hz
  obtain ⟨r0, r1, r2, -⟩ := MK.out w1 hx
  go_wp2_with fail
  go_loopw [3, 4] (fun v u W => ∃ (x : Int) (k : Nat), v = .int .i64 x ∧ u = .int .i64 k ∧ k ≤ a2.size ∧ Hid (numG 0 a2.data.toList = numG x (a2.data.toList.drop k)) ∧ W = w1) (fun _ u _ => a2.size - (intOf u).toNat)
  case atStart => exact ⟨0, 0, rfl, rfl, Nat.zero_le _, Lib.hid rfl, rfl⟩
  case round =>
    obtain ⟨x, k, rfl, rfl, hk, hX, rfl⟩ := hrel
    by_cases hlt : k < a2.size
    · have HD := Lib.hid (numG_step x a2 k hlt)
      by_cases hx4 : x ≤ 4000
      · have HS := Lib.hid (hX.out.trans (HD.out.trans (if_pos hx4)))
        go_wp2_with fail
        go_roundw
        case rel => exact ⟨_, k + 1, rfl, by go_num, by omega, Lib.hid (by have h := HS.out; simp only [wrap_is] at h; rw [wrap_byte]; exact h), by first | trivial | rfl⟩
        case measure => simp [intOf]; omega
      · have HS := Lib.hid (hX.out.trans (HD.out.trans (if_neg hx4)))
        go_wp2_with fail
        exact bodyPost_ret (v := RuleP.val ⟨7, x, a1, emptyB, emptyB, emptyB⟩) (by simp [results, Tryz.results47, RuleP.val, emptyB, go_sem, z0, z1, z2, z3, z4, z5] <;> rfl) rfl ⟨by rw [HS.out], (by repeat (first | with_reducible exact Ext.refl _ | with_reducible assumption | with_reducible refine Ext.drew ?_ | with_reducible refine Ext.drewN ?_ _ | with_reducible refine Ext.alloc ?_ _ | (with_reducible refine Ext.setCell ?_ (by first | assumption | omega) _)))⟩
    · have HS := Lib.hid (show numG 0 a2.data.toList = x by rw [hX.out, List.drop_of_length_le (by simp; omega)]; rfl)
      go_wp2_with fail
      exact bodyPost_ret (v := RuleP.val ⟨7, x, a1, emptyB, emptyB, emptyB⟩) (by simp [results, Tryz.results47, RuleP.val, emptyB, go_sem, z0, z1, z2, z3, z4, z5] <;> rfl) rfl ⟨by rw [HS.out], (by repeat (first | with_reducible exact Ext.refl _ | with_reducible assumption | with_reducible refine Ext.drew ?_ | with_reducible refine Ext.drewN ?_ _ | with_reducible refine Ext.alloc ?_ _ | (with_reducible refine Ext.setCell ?_ (by first | assumption | omega) _)))⟩

set_option maxRecDepth 100000 in
set_option maxHeartbeats 1600000 in
theorem r9_guess_l3 (b off n c : Nat) (a0 a1 a2 : ByteArray) (w : World) (hn : n ≤ 1000) (q0 : w.cell? ⟨b, off, none⟩ = some (.string a0)) (q1 : w.cell? ⟨b, off + 1, none⟩ = some (.string a1)) (q2 : w.cell? ⟨b, off + 2, none⟩ = some (.string a2)) (h3 : 3 ≤ n) (h4 : ((n : Int) == 4) = false) (hz2 : a2.size ≤ 1000000) (eedge : (a0.toList == [101, 100, 103, 101]) = false) (eunique : (a0.toList == [117, 110, 105, 113, 117, 101]) = false) (eexists : (a0.toList == [101, 120, 105, 115, 116, 115]) = false) (ekind : (a0.toList == [107, 105, 110, 100]) = true) (eends : (a0.toList == [101, 110, 100, 115]) = false) :
    Calls Tryz.prog 47 #[.slice (some ⟨b, off, none⟩) n c] w fun e w' => e = .returned (RuleP.val ⟨7, numG 0 a2.data.toList, a1, emptyB, emptyB, emptyB⟩) ∧ Ext w w' := by
  obtain ⟨g, w1, hg, hw1, hz, hx, hle⟩ := box_zero w
  have MK := Lib.hid (fun V (e : Ext w V) => (⟨e.cell q0, e.cell q1, e.cell q2, e⟩ : V.cell? ⟨b, off, none⟩ = some (.string a0) ∧ V.cell? ⟨b, off + 1, none⟩ = some (.string a1) ∧ V.cell? ⟨b, off + 2, none⟩ = some (.string a2) ∧ Ext w V))
  have i0 : (0 : Int) < (n : Int) := by omega
  have i1 : (1 : Int) < (n : Int) := by omega
  have i2 : (2 : Int) < (n : Int) := by omega
  have j3 : ¬ n < 3 := by omega
  have j3' : ¬ (n : Int) < 3 := by omega
  go_enter Tryz.func47, Tryz.ntmps47
  have HW1 := Lib.hid hw1
  have HG := Lib.hid hg
  clear hw1 hg
  go_upto_region 1 with (fail)
  rw [← HW1.out, ← HG.out]
  clear HW1 HG
  obtain ⟨z0, f0, z1, f1, z2, f2, z3, f3, z4, f4, z5, f5⟩ := id hz
  obtain ⟨r0, r1, r2, -⟩ := MK.out w1 hx
  go_wp2_with fail
  go_loopw [3, 4] (fun v u W => ∃ (x : Int) (k : Nat), v = .int .i64 x ∧ u = .int .i64 k ∧ k ≤ a2.size ∧ Hid (numG 0 a2.data.toList = numG x (a2.data.toList.drop k)) ∧ W = w1) (fun _ u _ => a2.size - (intOf u).toNat)
  case atStart => exact ⟨0, 0, rfl, rfl, Nat.zero_le _, Lib.hid rfl, rfl⟩
  case round =>
    obtain ⟨x, k, rfl, rfl, hk, hX, rfl⟩ := hrel
    by_cases hlt : k < a2.size
    · have HD := Lib.hid (numG_step x a2 k hlt)
      by_cases hx4 : x ≤ 4000
      · have HS := Lib.hid (hX.out.trans (HD.out.trans (if_pos hx4)))
        go_wp2_with fail
        go_roundw
        case rel => exact ⟨_, k + 1, rfl, by go_num, by omega, Lib.hid (by have h := HS.out; simp only [wrap_is] at h; rw [wrap_byte]; exact h), by first | trivial | rfl⟩
        case measure => simp [intOf]; omega
      · have HS := Lib.hid (hX.out.trans (HD.out.trans (if_neg hx4)))
        go_wp2_with fail
        exact bodyPost_ret (v := RuleP.val ⟨7, x, a1, emptyB, emptyB, emptyB⟩) (by simp [results, Tryz.results47, RuleP.val, emptyB, go_sem, z0, z1, z2, z3, z4, z5] <;> rfl) rfl ⟨by rw [HS.out], (by repeat (first | with_reducible exact Ext.refl _ | with_reducible assumption | with_reducible refine Ext.drew ?_ | with_reducible refine Ext.drewN ?_ _ | with_reducible refine Ext.alloc ?_ _ | (with_reducible refine Ext.setCell ?_ (by first | assumption | omega) _)))⟩
    · have HS := Lib.hid (show numG 0 a2.data.toList = x by rw [hX.out, List.drop_of_length_le (by simp; omega)]; rfl)
      go_wp2_with fail
      exact bodyPost_ret (v := RuleP.val ⟨7, x, a1, emptyB, emptyB, emptyB⟩) (by simp [results, Tryz.results47, RuleP.val, emptyB, go_sem, z0, z1, z2, z3, z4, z5] <;> rfl) rfl ⟨by rw [HS.out], (by repeat (first | with_reducible exact Ext.refl _ | with_reducible assumption | with_reducible refine Ext.drew ?_ | with_reducible refine Ext.drewN ?_ _ | with_reducible refine Ext.alloc ?_ _ | (with_reducible refine Ext.setCell ?_ (by first | assumption | omega) _)))⟩

set_option maxRecDepth 100000 in
set_option maxHeartbeats 1600000 in
theorem r9_guess_l4 (b off n c : Nat) (a0 a1 a2 : ByteArray) (w : World) (hn : n ≤ 1000) (q0 : w.cell? ⟨b, off, none⟩ = some (.string a0)) (q1 : w.cell? ⟨b, off + 1, none⟩ = some (.string a1)) (q2 : w.cell? ⟨b, off + 2, none⟩ = some (.string a2)) (h3 : 3 ≤ n) (h4 : ((n : Int) == 4) = false) (hz2 : a2.size ≤ 1000000) (eedge : (a0.toList == [101, 100, 103, 101]) = false) (eunique : (a0.toList == [117, 110, 105, 113, 117, 101]) = false) (eexists : (a0.toList == [101, 120, 105, 115, 116, 115]) = false) (ekind : (a0.toList == [107, 105, 110, 100]) = false) (eends : (a0.toList == [101, 110, 100, 115]) = true) :
    Calls Tryz.prog 47 #[.slice (some ⟨b, off, none⟩) n c] w fun e w' => e = .returned (RuleP.val ⟨7, numG 0 a2.data.toList, a1, emptyB, emptyB, emptyB⟩) ∧ Ext w w' := by
  obtain ⟨g, w1, hg, hw1, hz, hx, hle⟩ := box_zero w
  have MK := Lib.hid (fun V (e : Ext w V) => (⟨e.cell q0, e.cell q1, e.cell q2, e⟩ : V.cell? ⟨b, off, none⟩ = some (.string a0) ∧ V.cell? ⟨b, off + 1, none⟩ = some (.string a1) ∧ V.cell? ⟨b, off + 2, none⟩ = some (.string a2) ∧ Ext w V))
  have i0 : (0 : Int) < (n : Int) := by omega
  have i1 : (1 : Int) < (n : Int) := by omega
  have i2 : (2 : Int) < (n : Int) := by omega
  have j3 : ¬ n < 3 := by omega
  have j3' : ¬ (n : Int) < 3 := by omega
  go_enter Tryz.func47, Tryz.ntmps47
  have HW1 := Lib.hid hw1
  have HG := Lib.hid hg
  clear hw1 hg
  go_upto_region 1 with (fail)
  rw [← HW1.out, ← HG.out]
  clear HW1 HG
  obtain ⟨z0, f0, z1, f1, z2, f2, z3, f3, z4, f4, z5, f5⟩ := id hz
  obtain ⟨r0, r1, r2, -⟩ := MK.out w1 hx
  go_wp2_with fail
  go_loopw [3, 4] (fun v u W => ∃ (x : Int) (k : Nat), v = .int .i64 x ∧ u = .int .i64 k ∧ k ≤ a2.size ∧ Hid (numG 0 a2.data.toList = numG x (a2.data.toList.drop k)) ∧ W = w1) (fun _ u _ => a2.size - (intOf u).toNat)
  case atStart => exact ⟨0, 0, rfl, rfl, Nat.zero_le _, Lib.hid rfl, rfl⟩
  case round =>
    obtain ⟨x, k, rfl, rfl, hk, hX, rfl⟩ := hrel
    by_cases hlt : k < a2.size
    · have HD := Lib.hid (numG_step x a2 k hlt)
      by_cases hx4 : x ≤ 4000
      · have HS := Lib.hid (hX.out.trans (HD.out.trans (if_pos hx4)))
        go_wp2_with fail
        go_roundw
        case rel => exact ⟨_, k + 1, rfl, by go_num, by omega, Lib.hid (by have h := HS.out; simp only [wrap_is] at h; rw [wrap_byte]; exact h), by first | trivial | rfl⟩
        case measure => simp [intOf]; omega
      · have HS := Lib.hid (hX.out.trans (HD.out.trans (if_neg hx4)))
        go_wp2_with fail
        exact bodyPost_ret (v := RuleP.val ⟨7, x, a1, emptyB, emptyB, emptyB⟩) (by simp [results, Tryz.results47, RuleP.val, emptyB, go_sem, z0, z1, z2, z3, z4, z5] <;> rfl) rfl ⟨by rw [HS.out], (by repeat (first | with_reducible exact Ext.refl _ | with_reducible assumption | with_reducible refine Ext.drew ?_ | with_reducible refine Ext.drewN ?_ _ | with_reducible refine Ext.alloc ?_ _ | (with_reducible refine Ext.setCell ?_ (by first | assumption | omega) _)))⟩
    · have HS := Lib.hid (show numG 0 a2.data.toList = x by rw [hX.out, List.drop_of_length_le (by simp; omega)]; rfl)
      go_wp2_with fail
      exact bodyPost_ret (v := RuleP.val ⟨7, x, a1, emptyB, emptyB, emptyB⟩) (by simp [results, Tryz.results47, RuleP.val, emptyB, go_sem, z0, z1, z2, z3, z4, z5] <;> rfl) rfl ⟨by rw [HS.out], (by repeat (first | with_reducible exact Ext.refl _ | with_reducible assumption | with_reducible refine Ext.drew ?_ | with_reducible refine Ext.drewN ?_ _ | with_reducible refine Ext.alloc ?_ _ | (with_reducible refine Ext.setCell ?_ (by first | assumption | omega) _)))⟩

set_option maxRecDepth 100000 in
set_option maxHeartbeats 1600000 in
theorem r9_guess_l1 (b off n c : Nat) (a0 a1 a2 : ByteArray) (w : World) (hn : n ≤ 1000) (q0 : w.cell? ⟨b, off, none⟩ = some (.string a0)) (q1 : w.cell? ⟨b, off + 1, none⟩ = some (.string a1)) (q2 : w.cell? ⟨b, off + 2, none⟩ = some (.string a2)) (h3 : 3 ≤ n) (hz2 : a2.size ≤ 1000000) (eedge : (a0.toList == [101, 100, 103, 101]) = false) (eunique : (a0.toList == [117, 110, 105, 113, 117, 101]) = false) (eexists : (a0.toList == [101, 120, 105, 115, 116, 115]) = false) (ekind : (a0.toList == [107, 105, 110, 100]) = false) (eends : (a0.toList == [101, 110, 100, 115]) = false) :
    Calls Tryz.prog 47 #[.slice (some ⟨b, off, none⟩) n c] w fun e w' => e = .returned (RuleP.val ⟨7, numG 0 a2.data.toList, a1, emptyB, emptyB, emptyB⟩) ∧ Ext w w' := by
  obtain ⟨g, w1, hg, hw1, hz, hx, hle⟩ := box_zero w
  have MK := Lib.hid (fun V (e : Ext w V) => (⟨e.cell q0, e.cell q1, e.cell q2, e⟩ : V.cell? ⟨b, off, none⟩ = some (.string a0) ∧ V.cell? ⟨b, off + 1, none⟩ = some (.string a1) ∧ V.cell? ⟨b, off + 2, none⟩ = some (.string a2) ∧ Ext w V))
  have i0 : (0 : Int) < (n : Int) := by omega
  have i1 : (1 : Int) < (n : Int) := by omega
  have i2 : (2 : Int) < (n : Int) := by omega
  have j3 : ¬ n < 3 := by omega
  have j3' : ¬ (n : Int) < 3 := by omega
  go_enter Tryz.func47, Tryz.ntmps47
  have HW1 := Lib.hid hw1
  have HG := Lib.hid hg
  clear hw1 hg
  go_upto_region 1 with (fail)
  rw [← HW1.out, ← HG.out]
  clear HW1 HG
  obtain ⟨z0, f0, z1, f1, z2, f2, z3, f3, z4, f4, z5, f5⟩ := id hz
  obtain ⟨r0, r1, r2, -⟩ := MK.out w1 hx
  go_wp2_with fail
  go_loopw [3, 4] (fun v u W => ∃ (x : Int) (k : Nat), v = .int .i64 x ∧ u = .int .i64 k ∧ k ≤ a2.size ∧ Hid (numG 0 a2.data.toList = numG x (a2.data.toList.drop k)) ∧ W = w1) (fun _ u _ => a2.size - (intOf u).toNat)
  case atStart => exact ⟨0, 0, rfl, rfl, Nat.zero_le _, Lib.hid rfl, rfl⟩
  case round =>
    obtain ⟨x, k, rfl, rfl, hk, hX, rfl⟩ := hrel
    by_cases hlt : k < a2.size
    · have HD := Lib.hid (numG_step x a2 k hlt)
      by_cases hx4 : x ≤ 4000
      · have HS := Lib.hid (hX.out.trans (HD.out.trans (if_pos hx4)))
        go_wp2_with fail
        go_roundw
        case rel => exact ⟨_, k + 1, rfl, by go_num, by omega, Lib.hid (by have h := HS.out; simp only [wrap_is] at h; rw [wrap_byte]; exact h), by first | trivial | rfl⟩
        case measure => simp [intOf]; omega
      · have HS := Lib.hid (hX.out.trans (HD.out.trans (if_neg hx4)))
        go_wp2_with fail
        exact bodyPost_ret (v := RuleP.val ⟨7, x, a1, emptyB, emptyB, emptyB⟩) (by simp [results, Tryz.results47, RuleP.val, emptyB, go_sem, z0, z1, z2, z3, z4, z5] <;> rfl) rfl ⟨by rw [HS.out], (by repeat (first | with_reducible exact Ext.refl _ | with_reducible assumption | with_reducible refine Ext.drew ?_ | with_reducible refine Ext.drewN ?_ _ | with_reducible refine Ext.alloc ?_ _ | (with_reducible refine Ext.setCell ?_ (by first | assumption | omega) _)))⟩
    · have HS := Lib.hid (show numG 0 a2.data.toList = x by rw [hX.out, List.drop_of_length_le (by simp; omega)]; rfl)
      go_wp2_with fail
      exact bodyPost_ret (v := RuleP.val ⟨7, x, a1, emptyB, emptyB, emptyB⟩) (by simp [results, Tryz.results47, RuleP.val, emptyB, go_sem, z0, z1, z2, z3, z4, z5] <;> rfl) rfl ⟨by rw [HS.out], (by repeat (first | with_reducible exact Ext.refl _ | with_reducible assumption | with_reducible refine Ext.drew ?_ | with_reducible refine Ext.drewN ?_ _ | with_reducible refine Ext.alloc ?_ _ | (with_reducible refine Ext.setCell ?_ (by first | assumption | omega) _)))⟩

end Go.Proofs.YtanclhcoiagcfaaGreatDoor
