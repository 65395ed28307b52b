/- THE WALK over slices.BinarySearchFunc. -/
import Derived.Test.YtanclhcoiagcfaaGreatDoorSchQ
import Derived.Laws.BitsAllLaws
namespace Go.Proofs.YtanclhcoiagcfaaGreatDoor
open Go.RowKit

set_option maxRecDepth 100000 in
set_option maxHeartbeats 1600000 in
theorem s_BSF (s : List RuleP) (A : Option Addr) (c : Nat) (r : RuleP) (w : World) (hs : Rules w A s) (hsort : SortR s) (hl : s.length ≤ 1000) :
    Calls Tryz.prog 36 #[.slice A s.length c, r.val, .func (.func 35) #[] #[]] w fun e w' => e = .returned (.tuple #[.int .i64 (lowN s r : Int), .bool (decide (r ∈ s))]) ∧ Ext w w' := by
  obtain ⟨g, w1, hg, hw1, hb, hx, -⟩ := box_rule w r 23
  have hs1 := Lib.hid (hs.ext hx)
  have HI := Lib.hid (fun (i : Nat) (h : i < s.length) => (by rw [getB h]; exact low_iff hsort r h : ordR s[i]! r < 0 ↔ i < lowN s r))
  have HM := Lib.hid (low_found hsort r)
  have hlo := low_le s r
  obtain ⟨L, hL⟩ : ∃ L, L = lowN s r := ⟨_, rfl⟩
  rw [← hL] at HI HM hlo ⊢
  clear hs hsort hL
  show Calls Tryz.prog _ #[.slice A s.length c, .agg #[.int .i64 r.kind, .int .i64 r.n, .string r.name, .string r.key, .string r.frm, .string r.tov], .func (.func 35) #[] #[]] w _
  go_enter Tryz.func36, Tryz.ntmps36
  go_wp2_with fail
  rw [← hw1, ← hg]
  clear hw1 hg
  go_loopw [9, 10] (fun u v W => ∃ i j : Nat, u = .int .i64 i ∧ v = .int .i64 j ∧ i ≤ L ∧ L ≤ j ∧ j ≤ s.length ∧ Ext w1 W) (fun u v _ => (intOf v - intOf u).toNat)
  case atStart => exact ⟨0, s.length, rfl, rfl, Nat.zero_le _, hlo, Nat.le_refl _, Ext.refl _⟩
  case round =>
    obtain ⟨i, j, rfl, rfl, hi, hj, hjl, hE⟩ := hrel
    by_cases hlt : i < j
    · obtain ⟨b, off, rfl, hc⟩ := hs1.out (by omega)
      have hm1 : (i + j) / 2 < s.length := by omega
      have hd := (hc ((i + j) / 2) hm1).ext hE
      have hr := hb.ext hE
      have HX := Lib.hid (HI.out ((i + j) / 2) hm1)
      clear hc
      generalize s[(i + j) / 2]! = x at hd HX
      have MK := Lib.hid (fun V (e : Ext wr V) => mk_two hd hr e)
      clear hd hr
      have q1 : (0 : Int) ≤ ((i : Int) + (j : Int)) / 2 := by omega
      have q2 : ((i : Int) + (j : Int)) / 2 < (s.length : Int) := by omega
      have q3 : (((i : Int) + (j : Int)) / 2).toNat = (i + j) / 2 := by omega
      by_cases ho : ordR x r < 0
      · have HY := Lib.hid (HX.out.1 ho)
        have ho' : decide (ordR x r < 0) = true := decide_eq_true ho
        clear ho HX
        go_wp2_with fail
        refine wp_region_held_drew (S := (fun V => V.cell? ⟨b, off + (i + j) / 2 * 6, none⟩ = some (.int .i64 x.kind) ∧ V.cell? ⟨b, off + (i + j) / 2 * 6 + 1, none⟩ = some (.int .i64 x.n) ∧ V.cell? ⟨b, off + (i + j) / 2 * 6 + 2, none⟩ = some (.string x.name) ∧ V.cell? ⟨b, off + (i + j) / 2 * 6 + 3, none⟩ = some (.string x.key) ∧ V.cell? ⟨b, off + (i + j) / 2 * 6 + 4, none⟩ = some (.string x.frm) ∧ V.cell? ⟨b, off + (i + j) / 2 * 6 + 5, none⟩ = some (.string x.tov) ∧ V.cell? ⟨g, 0, none⟩ = some (.int .i64 r.kind) ∧ V.cell? ⟨g, 1, none⟩ = some (.int .i64 r.n) ∧ V.cell? ⟨g, 2, none⟩ = some (.string r.name) ∧ V.cell? ⟨g, 3, none⟩ = some (.string r.key) ∧ V.cell? ⟨g, 4, none⟩ = some (.string r.frm) ∧ V.cell? ⟨g, 5, none⟩ = some (.string r.tov) ∧ Ext wr V)) (by kernel_rfl) ?hs1 (fun hHeld => ?go1)
        case hs1 => (exact MK.out _ (by repeat (first | with_reducible exact Ext.refl _ | with_reducible assumption | with_reducible refine Ext.drew ?_ | with_reducible refine Ext.drewN ?_ _ | with_reducible refine Ext.alloc ?_ _)))
        refine wpAnyH_take (i := 0) (oi := { dst := (some 24), op := (Op.move (Operand.tmp 2)), type := 50, pos := "sort.go:160", after := #[], guard := none }) (v := ?v2) rfl (by kernel_rfl) (by kernel_rfl) (by kernel_rfl) (fun _ _ _ h => h) (Or.inl ⟨rfl, ?hy2⟩) hHeld ?rest2
        case hy2 => (intro w hSw; (try dsimp only at hSw); go_simp <;> with_reducible rfl)
        (try simp only [Act.put]); (try simp only [List.setIfInBounds_toArray]); (try simp only [List.set_cons_succ]); (try simp only [List.set_cons_zero])
        refine wpAnyH_take (i := 1) (oi := { dst := (some 25), op := (Op.move (Operand.tmp 0)), type := 30, pos := "sort.go:160", after := #[], guard := none }) (v := ?v3) rfl (by kernel_rfl) (by kernel_rfl) (by kernel_rfl) (fun _ _ _ h => h) (Or.inl ⟨rfl, ?hy3⟩) hHeld ?rest3
        case hy3 => (intro w hSw; (try dsimp only at hSw); go_simp <;> with_reducible rfl)
        (try simp only [Act.put]); (try simp only [List.setIfInBounds_toArray]); (try simp only [List.set_cons_succ]); (try simp only [List.set_cons_zero])
        refine wpAnyH_take (i := 2) (oi := { dst := (some 26), op := (Op.move (Operand.tmp 11)), type := 3, pos := "sort.go:160", after := #[], guard := none }) (v := ?v4) rfl (by kernel_rfl) (by kernel_rfl) (by kernel_rfl) (fun _ _ _ h => h) (Or.inl ⟨rfl, ?hy4⟩) hHeld ?rest4
        case hy4 => (intro w hSw; (try dsimp only at hSw); go_simp <;> with_reducible rfl)
        (try simp only [Act.put]); (try simp only [List.setIfInBounds_toArray]); (try simp only [List.set_cons_succ]); (try simp only [List.set_cons_zero])
        refine wpAnyH_take (i := 3) (oi := { dst := (some 27), op := (Op.indexAddr 30 (Operand.tmp 25) (Operand.tmp 26)), type := 0, pos := "sort.go:160", after := #[{ on := 1, ground := Ground.data }, { on := 2, ground := Ground.data }], guard := none }) (v := ?v5) rfl (by kernel_rfl) (by kernel_rfl) (by kernel_rfl) (fun _ _ _ h => h) (Or.inl ⟨rfl, ?hy5⟩) hHeld ?rest5
        case hy5 => (intro w hSw; (try dsimp only at hSw); go_simp <;> with_reducible rfl)
        (try simp only [Act.put]); (try simp only [List.setIfInBounds_toArray]); (try simp only [List.set_cons_succ]); (try simp only [List.set_cons_zero])
        refine wpAnyH_take (i := 4) (oi := { dst := (some 28), op := (Op.load 23 (Operand.tmp 27)), type := 23, pos := "sort.go:160", after := #[{ on := 3, ground := Ground.data }], guard := none }) (v := ?v6) rfl (by kernel_rfl) (by kernel_rfl) (by kernel_rfl) (fun _ _ _ h => h) (Or.inl ⟨rfl, ?hy6⟩) hHeld ?rest6
        case hy6 => (intro w hSw; (try dsimp only at hSw); go_simp <;> with_reducible rfl)
        (try simp only [Act.put]); (try simp only [List.setIfInBounds_toArray]); (try simp only [List.set_cons_succ]); (try simp only [List.set_cons_zero])
        refine wpAnyH_take (i := 5) (oi := { dst := (some 29), op := (Op.load 23 (Operand.tmp 4)), type := 23, pos := "sort.go:160", after := #[], guard := none }) (v := ?v7) rfl (by kernel_rfl) (by kernel_rfl) (by kernel_rfl) (fun _ _ _ h => h) (Or.inl ⟨rfl, ?hy7⟩) hHeld ?rest7
        case hy7 => (intro w hSw; (try dsimp only at hSw); go_simp <;> with_reducible rfl)
        (try simp only [Act.put]); (try simp only [List.setIfInBounds_toArray]); (try simp only [List.set_cons_succ]); (try simp only [List.set_cons_zero])
        refine wpAnyH_ready (rs := [6]) (by kernel_rfl) (by simp) ?_
        refine AllReadyH.cons (o := { dst := (some 30), op := (Op.call { callee := (Callee.value (Operand.tmp 24)), args := #[(Operand.tmp 28), (Operand.tmp 29)], argTypes := #[23, 23] }), type := 3, pos := "sort.go:160", after := #[{ on := 0, ground := Ground.data }, { on := 4, ground := Ground.data }, { on := 5, ground := Ground.data }], guard := none }) rfl (fun K hK => ?step8x0) ?more8x0
        case more8x0 => exact AllReadyH.nil
        go_simp
        (go_at_call 35; refine (s_Order x r _).mono ?_; rintro e w' ⟨rfl, hb⟩; replace hb : Ext wr w' := Ext.trans (by repeat (first | with_reducible exact Ext.refl _ | with_reducible assumption | with_reducible refine Ext.drew ?_ | with_reducible refine Ext.drewN ?_ _ | with_reducible refine Ext.alloc ?_ _)) hb)
        refine hK.out _ _ ?hS8x0 (fun hHeld8 => ?rest8x0)
        case hS8x0 => first | (exact MK.out _ (by repeat (first | with_reducible exact Ext.refl _ | with_reducible assumption | with_reducible refine Ext.drew ?_ | with_reducible refine Ext.drewN ?_ _ | with_reducible refine Ext.alloc ?_ _))) | ((try dsimp only); (exact MK.out _ (by repeat (first | with_reducible exact Ext.refl _ | with_reducible assumption | with_reducible refine Ext.drew ?_ | with_reducible refine Ext.drewN ?_ _ | with_reducible refine Ext.alloc ?_ _))))
        clear hK K
        clear hHeld
        (try simp only [Act.put]); (try simp only [List.setIfInBounds_toArray]); (try simp only [List.set_cons_succ]); (try simp only [List.set_cons_zero])
        refine wpAnyH_take (i := 7) (oi := { dst := (some 31), op := (Op.binOp BinOp.lss 3 (Operand.tmp 30) (Operand.const (Value.int IntKind.i64 0)) 3), type := 4, pos := "sort.go:160", after := #[{ on := 6, ground := Ground.data }], guard := none }) (v := ?v9) rfl (by kernel_rfl) (by kernel_rfl) (by kernel_rfl) (fun _ _ _ h => h) (Or.inl ⟨rfl, ?hy9⟩) hHeld8 ?rest9
        case hy9 => (intro w hSw; (try dsimp only at hSw); go_simp <;> with_reducible rfl)
        (try simp only [Act.put]); (try simp only [List.setIfInBounds_toArray]); (try simp only [List.set_cons_succ]); (try simp only [List.set_cons_zero])
        refine wpAnyH_done (by kernel_rfl) ?_ _
        clear hHeld8
        go_wp2_with fail
        have hy := HY.out
        go_roundw
        case rel => exact ⟨(i + j) / 2 + 1, j, congrArg (Value.int .i64) (by omega), rfl, by omega, hj, hjl, hE.trans (by repeat (first | with_reducible exact Ext.refl _ | with_reducible assumption | with_reducible refine Ext.drew ?_ | with_reducible refine Ext.drewN ?_ _ | with_reducible refine Ext.alloc ?_ _))⟩
        case measure => simp [intOf]; omega
      · have HY := Lib.hid (fun h => ho (HX.out.2 h))
        have ho' : decide (ordR x r < 0) = false := decide_eq_false ho
        clear ho HX
        go_wp2_with fail
        refine wp_region_held_drew (S := (fun V => V.cell? ⟨b, off + (i + j) / 2 * 6, none⟩ = some (.int .i64 x.kind) ∧ V.cell? ⟨b, off + (i + j) / 2 * 6 + 1, none⟩ = some (.int .i64 x.n) ∧ V.cell? ⟨b, off + (i + j) / 2 * 6 + 2, none⟩ = some (.string x.name) ∧ V.cell? ⟨b, off + (i + j) / 2 * 6 + 3, none⟩ = some (.string x.key) ∧ V.cell? ⟨b, off + (i + j) / 2 * 6 + 4, none⟩ = some (.string x.frm) ∧ V.cell? ⟨b, off + (i + j) / 2 * 6 + 5, none⟩ = some (.string x.tov) ∧ V.cell? ⟨g, 0, none⟩ = some (.int .i64 r.kind) ∧ V.cell? ⟨g, 1, none⟩ = some (.int .i64 r.n) ∧ V.cell? ⟨g, 2, none⟩ = some (.string r.name) ∧ V.cell? ⟨g, 3, none⟩ = some (.string r.key) ∧ V.cell? ⟨g, 4, none⟩ = some (.string r.frm) ∧ V.cell? ⟨g, 5, none⟩ = some (.string r.tov) ∧ Ext wr V)) (by kernel_rfl) ?hs10 (fun hHeld => ?go10)
        case hs10 => (exact MK.out _ (by repeat (first | with_reducible exact Ext.refl _ | with_reducible assumption | with_reducible refine Ext.drew ?_ | with_reducible refine Ext.drewN ?_ _ | with_reducible refine Ext.alloc ?_ _)))
        refine wpAnyH_take (i := 0) (oi := { dst := (some 24), op := (Op.move (Operand.tmp 2)), type := 50, pos := "sort.go:160", after := #[], guard := none }) (v := ?v11) rfl (by kernel_rfl) (by kernel_rfl) (by kernel_rfl) (fun _ _ _ h => h) (Or.inl ⟨rfl, ?hy11⟩) hHeld ?rest11
        case hy11 => (intro w hSw; (try dsimp only at hSw); go_simp <;> with_reducible rfl)
        (try simp only [Act.put]); (try simp only [List.setIfInBounds_toArray]); (try simp only [List.set_cons_succ]); (try simp only [List.set_cons_zero])
        refine wpAnyH_take (i := 1) (oi := { dst := (some 25), op := (Op.move (Operand.tmp 0)), type := 30, pos := "sort.go:160", after := #[], guard := none }) (v := ?v12) rfl (by kernel_rfl) (by kernel_rfl) (by kernel_rfl) (fun _ _ _ h => h) (Or.inl ⟨rfl, ?hy12⟩) hHeld ?rest12
        case hy12 => (intro w hSw; (try dsimp only at hSw); go_simp <;> with_reducible rfl)
        (try simp only [Act.put]); (try simp only [List.setIfInBounds_toArray]); (try simp only [List.set_cons_succ]); (try simp only [List.set_cons_zero])
        refine wpAnyH_take (i := 2) (oi := { dst := (some 26), op := (Op.move (Operand.tmp 11)), type := 3, pos := "sort.go:160", after := #[], guard := none }) (v := ?v13) rfl (by kernel_rfl) (by kernel_rfl) (by kernel_rfl) (fun _ _ _ h => h) (Or.inl ⟨rfl, ?hy13⟩) hHeld ?rest13
        case hy13 => (intro w hSw; (try dsimp only at hSw); go_simp <;> with_reducible rfl)
        (try simp only [Act.put]); (try simp only [List.setIfInBounds_toArray]); (try simp only [List.set_cons_succ]); (try simp only [List.set_cons_zero])
        refine wpAnyH_take (i := 3) (oi := { dst := (some 27), op := (Op.indexAddr 30 (Operand.tmp 25) (Operand.tmp 26)), type := 0, pos := "sort.go:160", after := #[{ on := 1, ground := Ground.data }, { on := 2, ground := Ground.data }], guard := none }) (v := ?v14) rfl (by kernel_rfl) (by kernel_rfl) (by kernel_rfl) (fun _ _ _ h => h) (Or.inl ⟨rfl, ?hy14⟩) hHeld ?rest14
        case hy14 => (intro w hSw; (try dsimp only at hSw); go_simp <;> with_reducible rfl)
        (try simp only [Act.put]); (try simp only [List.setIfInBounds_toArray]); (try simp only [List.set_cons_succ]); (try simp only [List.set_cons_zero])
        refine wpAnyH_take (i := 4) (oi := { dst := (some 28), op := (Op.load 23 (Operand.tmp 27)), type := 23, pos := "sort.go:160", after := #[{ on := 3, ground := Ground.data }], guard := none }) (v := ?v15) rfl (by kernel_rfl) (by kernel_rfl) (by kernel_rfl) (fun _ _ _ h => h) (Or.inl ⟨rfl, ?hy15⟩) hHeld ?rest15
        case hy15 => (intro w hSw; (try dsimp only at hSw); go_simp <;> with_reducible rfl)
        (try simp only [Act.put]); (try simp only [List.setIfInBounds_toArray]); (try simp only [List.set_cons_succ]); (try simp only [List.set_cons_zero])
        refine wpAnyH_take (i := 5) (oi := { dst := (some 29), op := (Op.load 23 (Operand.tmp 4)), type := 23, pos := "sort.go:160", after := #[], guard := none }) (v := ?v16) rfl (by kernel_rfl) (by kernel_rfl) (by kernel_rfl) (fun _ _ _ h => h) (Or.inl ⟨rfl, ?hy16⟩) hHeld ?rest16
        case hy16 => (intro w hSw; (try dsimp only at hSw); go_simp <;> with_reducible rfl)
        (try simp only [Act.put]); (try simp only [List.setIfInBounds_toArray]); (try simp only [List.set_cons_succ]); (try simp only [List.set_cons_zero])
        refine wpAnyH_ready (rs := [6]) (by kernel_rfl) (by simp) ?_
        refine AllReadyH.cons (o := { dst := (some 30), op := (Op.call { callee := (Callee.value (Operand.tmp 24)), args := #[(Operand.tmp 28), (Operand.tmp 29)], argTypes := #[23, 23] }), type := 3, pos := "sort.go:160", after := #[{ on := 0, ground := Ground.data }, { on := 4, ground := Ground.data }, { on := 5, ground := Ground.data }], guard := none }) rfl (fun K hK => ?step17x0) ?more17x0
        case more17x0 => exact AllReadyH.nil
        go_simp
        (go_at_call 35; refine (s_Order x r _).mono ?_; rintro e w' ⟨rfl, hb⟩; replace hb : Ext wr w' := Ext.trans (by repeat (first | with_reducible exact Ext.refl _ | with_reducible assumption | with_reducible refine Ext.drew ?_ | with_reducible refine Ext.drewN ?_ _ | with_reducible refine Ext.alloc ?_ _)) hb)
        refine hK.out _ _ ?hS17x0 (fun hHeld17 => ?rest17x0)
        case hS17x0 => first | (exact MK.out _ (by repeat (first | with_reducible exact Ext.refl _ | with_reducible assumption | with_reducible refine Ext.drew ?_ | with_reducible refine Ext.drewN ?_ _ | with_reducible refine Ext.alloc ?_ _))) | ((try dsimp only); (exact MK.out _ (by repeat (first | with_reducible exact Ext.refl _ | with_reducible assumption | with_reducible refine Ext.drew ?_ | with_reducible refine Ext.drewN ?_ _ | with_reducible refine Ext.alloc ?_ _))))
        clear hK K
        clear hHeld
        (try simp only [Act.put]); (try simp only [List.setIfInBounds_toArray]); (try simp only [List.set_cons_succ]); (try simp only [List.set_cons_zero])
        refine wpAnyH_take (i := 7) (oi := { dst := (some 31), op := (Op.binOp BinOp.lss 3 (Operand.tmp 30) (Operand.const (Value.int IntKind.i64 0)) 3), type := 4, pos := "sort.go:160", after := #[{ on := 6, ground := Ground.data }], guard := none }) (v := ?v18) rfl (by kernel_rfl) (by kernel_rfl) (by kernel_rfl) (fun _ _ _ h => h) (Or.inl ⟨rfl, ?hy18⟩) hHeld17 ?rest18
        case hy18 => (intro w hSw; (try dsimp only at hSw); go_simp <;> with_reducible rfl)
        (try simp only [Act.put]); (try simp only [List.setIfInBounds_toArray]); (try simp only [List.set_cons_succ]); (try simp only [List.set_cons_zero])
        refine wpAnyH_done (by kernel_rfl) ?_ _
        clear hHeld17
        go_wp2_with fail
        have hy : L ≤ (i + j) / 2 := Nat.le_of_not_lt HY.out
        go_roundw
        case rel => exact ⟨i, (i + j) / 2, rfl, congrArg (Value.int .i64) (by omega), hi, hy, by omega, hE.trans (by repeat (first | with_reducible exact Ext.refl _ | with_reducible assumption | with_reducible refine Ext.drew ?_ | with_reducible refine Ext.drewN ?_ _ | with_reducible refine Ext.alloc ?_ _))⟩
        case measure => simp [intOf]; omega
    · obtain rfl : i = j := by omega
      obtain rfl : i = L := by omega
      by_cases hin : i < s.length
      · obtain ⟨b, off, rfl, hc⟩ := hs1.out (by omega)
        have hd := (hc i hin).ext hE
        have hr := hb.ext hE
        clear hc
        have HX := Lib.hid (show decide (r ∈ s) = (ordR s[i]! r == 0) by
          rw [Bool.eq_iff_iff, decide_eq_true_iff, beq_iff_eq, HM.out]
          exact ⟨fun h => h.2, fun h => ⟨hin, h⟩⟩)
        generalize s[i]! = x at hd HX
        have MK := Lib.hid (fun V (e : Ext wr V) => mk_two hd hr e)
        have q2 : (i : Int) < (s.length : Int) := by omega
        clear hd hr HI HM
        by_cases hz : ordR x r = 0
        · have HB := Lib.hid (show decide (r ∈ s) = true by rw [HX.out, hz]; rfl)
          have HO := Lib.hid hz
          clear hz HX
          go_wp2_with fail
          refine wp_region_held_drew (S := (fun V => V.cell? ⟨b, off + i * 6, none⟩ = some (.int .i64 x.kind) ∧ V.cell? ⟨b, off + i * 6 + 1, none⟩ = some (.int .i64 x.n) ∧ V.cell? ⟨b, off + i * 6 + 2, none⟩ = some (.string x.name) ∧ V.cell? ⟨b, off + i * 6 + 3, none⟩ = some (.string x.key) ∧ V.cell? ⟨b, off + i * 6 + 4, none⟩ = some (.string x.frm) ∧ V.cell? ⟨b, off + i * 6 + 5, none⟩ = some (.string x.tov) ∧ V.cell? ⟨g, 0, none⟩ = some (.int .i64 r.kind) ∧ V.cell? ⟨g, 1, none⟩ = some (.int .i64 r.n) ∧ V.cell? ⟨g, 2, none⟩ = some (.string r.name) ∧ V.cell? ⟨g, 3, none⟩ = some (.string r.key) ∧ V.cell? ⟨g, 4, none⟩ = some (.string r.frm) ∧ V.cell? ⟨g, 5, none⟩ = some (.string r.tov) ∧ Ext wr V)) (by kernel_rfl) ?hs19 (fun hHeld => ?go19)
          case hs19 => (exact MK.out _ (by repeat (first | with_reducible exact Ext.refl _ | with_reducible assumption | with_reducible refine Ext.drew ?_ | with_reducible refine Ext.drewN ?_ _ | with_reducible refine Ext.alloc ?_ _)))
          refine wpAnyH_take (i := 0) (oi := { dst := (some 35), op := (Op.move (Operand.tmp 9)), type := 3, pos := "sort.go:167", after := #[], guard := none }) (v := ?v20) rfl (by kernel_rfl) (by kernel_rfl) (by kernel_rfl) (fun _ _ _ h => h) (Or.inl ⟨rfl, ?hy20⟩) hHeld ?rest20
          case hy20 => (intro w hSw; (try dsimp only at hSw); go_simp <;> with_reducible rfl)
          (try simp only [Act.put]); (try simp only [List.setIfInBounds_toArray]); (try simp only [List.set_cons_succ]); (try simp only [List.set_cons_zero])
          refine wpAnyH_take (i := 1) (oi := { dst := (some 36), op := (Op.move (Operand.tmp 9)), type := 3, pos := "sort.go:167", after := #[], guard := none }) (v := ?v21) rfl (by kernel_rfl) (by kernel_rfl) (by kernel_rfl) (fun _ _ _ h => h) (Or.inl ⟨rfl, ?hy21⟩) hHeld ?rest21
          case hy21 => (intro w hSw; (try dsimp only at hSw); go_simp <;> with_reducible rfl)
          (try simp only [Act.put]); (try simp only [List.setIfInBounds_toArray]); (try simp only [List.set_cons_succ]); (try simp only [List.set_cons_zero])
          refine wpAnyH_take (i := 2) (oi := { dst := (some 37), op := (Op.move (Operand.tmp 8)), type := 3, pos := "sort.go:167", after := #[], guard := none }) (v := ?v22) rfl (by kernel_rfl) (by kernel_rfl) (by kernel_rfl) (fun _ _ _ h => h) (Or.inl ⟨rfl, ?hy22⟩) hHeld ?rest22
          case hy22 => (intro w hSw; (try dsimp only at hSw); go_simp <;> with_reducible rfl)
          (try simp only [Act.put]); (try simp only [List.setIfInBounds_toArray]); (try simp only [List.set_cons_succ]); (try simp only [List.set_cons_zero])
          refine wpAnyH_take (i := 3) (oi := { dst := (some 38), op := (Op.binOp BinOp.lss 3 (Operand.tmp 36) (Operand.tmp 37) 3), type := 4, pos := "sort.go:167", after := #[{ on := 1, ground := Ground.data }, { on := 2, ground := Ground.data }], guard := none }) (v := ?v23) rfl (by kernel_rfl) (by kernel_rfl) (by kernel_rfl) (fun _ _ _ h => h) (Or.inl ⟨rfl, ?hy23⟩) hHeld ?rest23
          case hy23 => (intro w hSw; (try dsimp only at hSw); go_simp <;> with_reducible rfl)
          (try simp only [Act.put]); (try simp only [List.setIfInBounds_toArray]); (try simp only [List.set_cons_succ]); (try simp only [List.set_cons_zero])
          refine wpAnyH_take (i := 4) (oi := { dst := (some 39), op := (Op.move (Operand.tmp 38)), type := 4, pos := "sort.go:167", after := #[{ on := 3, ground := Ground.data }], guard := none }) (v := ?v24) rfl (by kernel_rfl) (by kernel_rfl) (by kernel_rfl) (fun _ _ _ h => h) (Or.inl ⟨rfl, ?hy24⟩) hHeld ?rest24
          case hy24 => (intro w hSw; (try dsimp only at hSw); go_simp <;> with_reducible rfl)
          (try simp only [Act.put]); (try simp only [List.setIfInBounds_toArray]); (try simp only [List.set_cons_succ]); (try simp only [List.set_cons_zero])
          refine wpAnyH_take (i := 5) (oi := { dst := (some 40), op := (Op.move (Operand.tmp 2)), type := 50, pos := "sort.go:167", after := #[{ on := 4, ground := Ground.guard }], guard := (some (4, true)) }) (v := ?v25) rfl (by kernel_rfl) (by kernel_rfl) (by kernel_rfl) (fun _ _ _ h => h) (Or.inl ⟨rfl, ?hy25⟩) hHeld ?rest25
          case hy25 => (intro w hSw; (try dsimp only at hSw); go_simp <;> with_reducible rfl)
          (try simp only [Act.put]); (try simp only [List.setIfInBounds_toArray]); (try simp only [List.set_cons_succ]); (try simp only [List.set_cons_zero])
          refine wpAnyH_take (i := 6) (oi := { dst := (some 41), op := (Op.move (Operand.tmp 0)), type := 30, pos := "sort.go:167", after := #[{ on := 4, ground := Ground.guard }], guard := (some (4, true)) }) (v := ?v26) rfl (by kernel_rfl) (by kernel_rfl) (by kernel_rfl) (fun _ _ _ h => h) (Or.inl ⟨rfl, ?hy26⟩) hHeld ?rest26
          case hy26 => (intro w hSw; (try dsimp only at hSw); go_simp <;> with_reducible rfl)
          (try simp only [Act.put]); (try simp only [List.setIfInBounds_toArray]); (try simp only [List.set_cons_succ]); (try simp only [List.set_cons_zero])
          refine wpAnyH_take (i := 7) (oi := { dst := (some 42), op := (Op.move (Operand.tmp 9)), type := 3, pos := "sort.go:167", after := #[{ on := 4, ground := Ground.guard }], guard := (some (4, true)) }) (v := ?v27) rfl (by kernel_rfl) (by kernel_rfl) (by kernel_rfl) (fun _ _ _ h => h) (Or.inl ⟨rfl, ?hy27⟩) hHeld ?rest27
          case hy27 => (intro w hSw; (try dsimp only at hSw); go_simp <;> with_reducible rfl)
          (try simp only [Act.put]); (try simp only [List.setIfInBounds_toArray]); (try simp only [List.set_cons_succ]); (try simp only [List.set_cons_zero])
          refine wpAnyH_take (i := 8) (oi := { dst := (some 43), op := (Op.indexAddr 30 (Operand.tmp 41) (Operand.tmp 42)), type := 0, pos := "sort.go:167", after := #[{ on := 6, ground := Ground.data }, { on := 7, ground := Ground.data }, { on := 4, ground := Ground.guard }], guard := (some (4, true)) }) (v := ?v28) rfl (by kernel_rfl) (by kernel_rfl) (by kernel_rfl) (fun _ _ _ h => h) (Or.inl ⟨rfl, ?hy28⟩) hHeld ?rest28
          case hy28 => (intro w hSw; (try dsimp only at hSw); go_simp <;> with_reducible rfl)
          (try simp only [Act.put]); (try simp only [List.setIfInBounds_toArray]); (try simp only [List.set_cons_succ]); (try simp only [List.set_cons_zero])
          refine wpAnyH_take (i := 9) (oi := { dst := (some 44), op := (Op.load 23 (Operand.tmp 43)), type := 23, pos := "sort.go:167", after := #[{ on := 8, ground := Ground.data }, { on := 4, ground := Ground.guard }], guard := (some (4, true)) }) (v := ?v29) rfl (by kernel_rfl) (by kernel_rfl) (by kernel_rfl) (fun _ _ _ h => h) (Or.inl ⟨rfl, ?hy29⟩) hHeld ?rest29
          case hy29 => (intro w hSw; (try dsimp only at hSw); go_simp <;> with_reducible rfl)
          (try simp only [Act.put]); (try simp only [List.setIfInBounds_toArray]); (try simp only [List.set_cons_succ]); (try simp only [List.set_cons_zero])
          refine wpAnyH_take (i := 10) (oi := { dst := (some 45), op := (Op.load 23 (Operand.tmp 4)), type := 23, pos := "sort.go:167", after := #[{ on := 4, ground := Ground.guard }], guard := (some (4, true)) }) (v := ?v30) rfl (by kernel_rfl) (by kernel_rfl) (by kernel_rfl) (fun _ _ _ h => h) (Or.inl ⟨rfl, ?hy30⟩) hHeld ?rest30
          case hy30 => (intro w hSw; (try dsimp only at hSw); go_simp <;> with_reducible rfl)
          (try simp only [Act.put]); (try simp only [List.setIfInBounds_toArray]); (try simp only [List.set_cons_succ]); (try simp only [List.set_cons_zero])
          refine wpAnyH_ready (rs := [11]) (by kernel_rfl) (by simp) ?_
          refine AllReadyH.cons (o := { dst := (some 46), op := (Op.call { callee := (Callee.value (Operand.tmp 40)), args := #[(Operand.tmp 44), (Operand.tmp 45)], argTypes := #[23, 23] }), type := 3, pos := "sort.go:167", after := #[{ on := 5, ground := Ground.data }, { on := 9, ground := Ground.data }, { on := 10, ground := Ground.data }, { on := 4, ground := Ground.chain }, { on := 4, ground := Ground.guard }], guard := (some (4, true)) }) rfl (fun K hK => ?step31x0) ?more31x0
          case more31x0 => exact AllReadyH.nil
          go_simp
          (go_at_call 35; refine (s_Order x r _).mono ?_; rintro e w' ⟨rfl, hb⟩; replace hb : Ext wr w' := Ext.trans (by repeat (first | with_reducible exact Ext.refl _ | with_reducible assumption | with_reducible refine Ext.drew ?_ | with_reducible refine Ext.drewN ?_ _ | with_reducible refine Ext.alloc ?_ _)) hb; rw [HO.out])
          refine hK.out _ _ ?hS31x0 (fun hHeld31 => ?rest31x0)
          case hS31x0 => first | (exact MK.out _ (by repeat (first | with_reducible exact Ext.refl _ | with_reducible assumption | with_reducible refine Ext.drew ?_ | with_reducible refine Ext.drewN ?_ _ | with_reducible refine Ext.alloc ?_ _))) | ((try dsimp only); (exact MK.out _ (by repeat (first | with_reducible exact Ext.refl _ | with_reducible assumption | with_reducible refine Ext.drew ?_ | with_reducible refine Ext.drewN ?_ _ | with_reducible refine Ext.alloc ?_ _))))
          clear hK K
          clear hHeld
          (try simp only [Act.put]); (try simp only [List.setIfInBounds_toArray]); (try simp only [List.set_cons_succ]); (try simp only [List.set_cons_zero])
          refine wpAnyH_take (i := 12) (oi := { dst := (some 47), op := (Op.binOp BinOp.eql 3 (Operand.tmp 46) (Operand.const (Value.int IntKind.i64 0)) 3), type := 4, pos := "sort.go:167", after := #[{ on := 11, ground := Ground.data }, { on := 4, ground := Ground.guard }, { on := 14, ground := (Ground.gcOnly Departure.lateStores) }], guard := (some (4, true)) }) (v := ?v32) rfl (by kernel_rfl) (by kernel_rfl) (by kernel_rfl) (fun _ _ _ h => h) (Or.inl ⟨rfl, ?hy32⟩) hHeld31 ?rest32
          case hy32 => (intro w hSw; (try dsimp only at hSw); go_simp <;> with_reducible rfl)
          (try simp only [Act.put]); (try simp only [List.setIfInBounds_toArray]); (try simp only [List.set_cons_succ]); (try simp only [List.set_cons_zero])
          refine wpAnyH_take (i := 13) (oi := { dst := (some 48), op := (Op.pick (Operand.tmp 39) (Operand.tmp 47) (Operand.const (Value.bool false))), type := 4, pos := "sort.go:167", after := #[{ on := 4, ground := Ground.data }, { on := 12, ground := Ground.data }, { on := 14, ground := (Ground.gcOnly Departure.lateStores) }], guard := none }) (v := ?v33) rfl (by kernel_rfl) (by kernel_rfl) (by kernel_rfl) (fun _ _ _ h => h) (Or.inl ⟨rfl, ?hy33⟩) hHeld31 ?rest33
          case hy33 => (intro w hSw; (try dsimp only at hSw); go_simp <;> with_reducible rfl)
          (try simp only [Act.put]); (try simp only [List.setIfInBounds_toArray]); (try simp only [List.set_cons_succ]); (try simp only [List.set_cons_zero])
          refine wpAnyH_take (i := 14) (oi := { dst := (some 6), op := (Op.assign (Operand.tmp 35)), type := 3, pos := "sort.go:167", after := #[{ on := 0, ground := Ground.data }, { on := 11, ground := Ground.chain }, { on := 0, ground := Ground.phase }, { on := 1, ground := (Ground.textOnly Departure.lateStores) }, { on := 2, ground := (Ground.textOnly Departure.lateStores) }, { on := 3, ground := (Ground.textOnly Departure.lateStores) }, { on := 4, ground := (Ground.textOnly Departure.lateStores) }, { on := 5, ground := (Ground.textOnly Departure.lateStores) }, { on := 6, ground := (Ground.textOnly Departure.lateStores) }, { on := 7, ground := (Ground.textOnly Departure.lateStores) }, { on := 8, ground := (Ground.textOnly Departure.lateStores) }, { on := 9, ground := (Ground.textOnly Departure.lateStores) }, { on := 10, ground := (Ground.textOnly Departure.lateStores) }, { on := 11, ground := (Ground.textOnly Departure.lateStoresUnsure) }, { on := 12, ground := (Ground.textOnly Departure.lateStores) }, { on := 13, ground := (Ground.textOnly Departure.lateStores) }], guard := none }) (v := ?v34) rfl (by kernel_rfl) (by kernel_rfl) (by kernel_rfl) (fun _ _ _ h => h) (Or.inl ⟨rfl, ?hy34⟩) hHeld31 ?rest34
          case hy34 => (intro w hSw; (try dsimp only at hSw); go_simp <;> with_reducible rfl)
          (try simp only [Act.put]); (try simp only [List.setIfInBounds_toArray]); (try simp only [List.set_cons_succ]); (try simp only [List.set_cons_zero])
          refine wpAnyH_take (i := 15) (oi := { dst := (some 7), op := (Op.assign (Operand.tmp 48)), type := 4, pos := "sort.go:167", after := #[{ on := 13, ground := Ground.data }, { on := 14, ground := Ground.chain }, { on := 0, ground := Ground.phase }, { on := 1, ground := Ground.phase }, { on := 2, ground := Ground.phase }, { on := 3, ground := Ground.phase }, { on := 4, ground := Ground.phase }, { on := 5, ground := Ground.phase }, { on := 6, ground := Ground.phase }, { on := 7, ground := Ground.phase }, { on := 8, ground := Ground.phase }, { on := 9, ground := Ground.phase }, { on := 10, ground := Ground.phase }, { on := 11, ground := Ground.phase }, { on := 12, ground := Ground.phase }, { on := 13, ground := Ground.phase }, { on := 14, ground := Ground.phase }], guard := none }) (v := ?v35) rfl (by kernel_rfl) (by kernel_rfl) (by kernel_rfl) (fun _ _ _ h => h) (Or.inl ⟨rfl, ?hy35⟩) hHeld31 ?rest35
          case hy35 => (intro w hSw; (try dsimp only at hSw); go_simp <;> with_reducible rfl)
          (try simp only [Act.put]); (try simp only [List.setIfInBounds_toArray]); (try simp only [List.set_cons_succ]); (try simp only [List.set_cons_zero])
          refine wpAnyH_done (by kernel_rfl) ?_ _
          clear hHeld31
          go_wp2_with fail
          go_ret2
          exact ⟨by rw [HB.out]; rfl, hx.trans (hE.trans (by repeat (first | with_reducible exact Ext.refl _ | with_reducible assumption | with_reducible refine Ext.drew ?_ | with_reducible refine Ext.drewN ?_ _ | with_reducible refine Ext.alloc ?_ _)))⟩
        · have HB := Lib.hid (show decide (r ∈ s) = false by rw [HX.out]; simpa using hz)
          have hz' : (ordR x r == 0) = false := by simpa using hz
          clear HX
          go_wp2_with fail
          refine wp_region_held_drew (S := (fun V => V.cell? ⟨b, off + i * 6, none⟩ = some (.int .i64 x.kind) ∧ V.cell? ⟨b, off + i * 6 + 1, none⟩ = some (.int .i64 x.n) ∧ V.cell? ⟨b, off + i * 6 + 2, none⟩ = some (.string x.name) ∧ V.cell? ⟨b, off + i * 6 + 3, none⟩ = some (.string x.key) ∧ V.cell? ⟨b, off + i * 6 + 4, none⟩ = some (.string x.frm) ∧ V.cell? ⟨b, off + i * 6 + 5, none⟩ = some (.string x.tov) ∧ V.cell? ⟨g, 0, none⟩ = some (.int .i64 r.kind) ∧ V.cell? ⟨g, 1, none⟩ = some (.int .i64 r.n) ∧ V.cell? ⟨g, 2, none⟩ = some (.string r.name) ∧ V.cell? ⟨g, 3, none⟩ = some (.string r.key) ∧ V.cell? ⟨g, 4, none⟩ = some (.string r.frm) ∧ V.cell? ⟨g, 5, none⟩ = some (.string r.tov) ∧ Ext wr V)) (by kernel_rfl) ?hs36 (fun hHeld => ?go36)
          case hs36 => (exact MK.out _ (by repeat (first | with_reducible exact Ext.refl _ | with_reducible assumption | with_reducible refine Ext.drew ?_ | with_reducible refine Ext.drewN ?_ _ | with_reducible refine Ext.alloc ?_ _)))
          refine wpAnyH_take (i := 0) (oi := { dst := (some 35), op := (Op.move (Operand.tmp 9)), type := 3, pos := "sort.go:167", after := #[], guard := none }) (v := ?v37) rfl (by kernel_rfl) (by kernel_rfl) (by kernel_rfl) (fun _ _ _ h => h) (Or.inl ⟨rfl, ?hy37⟩) hHeld ?rest37
          case hy37 => (intro w hSw; (try dsimp only at hSw); go_simp <;> with_reducible rfl)
          (try simp only [Act.put]); (try simp only [List.setIfInBounds_toArray]); (try simp only [List.set_cons_succ]); (try simp only [List.set_cons_zero])
          refine wpAnyH_take (i := 1) (oi := { dst := (some 36), op := (Op.move (Operand.tmp 9)), type := 3, pos := "sort.go:167", after := #[], guard := none }) (v := ?v38) rfl (by kernel_rfl) (by kernel_rfl) (by kernel_rfl) (fun _ _ _ h => h) (Or.inl ⟨rfl, ?hy38⟩) hHeld ?rest38
          case hy38 => (intro w hSw; (try dsimp only at hSw); go_simp <;> with_reducible rfl)
          (try simp only [Act.put]); (try simp only [List.setIfInBounds_toArray]); (try simp only [List.set_cons_succ]); (try simp only [List.set_cons_zero])
          refine wpAnyH_take (i := 2) (oi := { dst := (some 37), op := (Op.move (Operand.tmp 8)), type := 3, pos := "sort.go:167", after := #[], guard := none }) (v := ?v39) rfl (by kernel_rfl) (by kernel_rfl) (by kernel_rfl) (fun _ _ _ h => h) (Or.inl ⟨rfl, ?hy39⟩) hHeld ?rest39
          case hy39 => (intro w hSw; (try dsimp only at hSw); go_simp <;> with_reducible rfl)
          (try simp only [Act.put]); (try simp only [List.setIfInBounds_toArray]); (try simp only [List.set_cons_succ]); (try simp only [List.set_cons_zero])
          refine wpAnyH_take (i := 3) (oi := { dst := (some 38), op := (Op.binOp BinOp.lss 3 (Operand.tmp 36) (Operand.tmp 37) 3), type := 4, pos := "sort.go:167", after := #[{ on := 1, ground := Ground.data }, { on := 2, ground := Ground.data }], guard := none }) (v := ?v40) rfl (by kernel_rfl) (by kernel_rfl) (by kernel_rfl) (fun _ _ _ h => h) (Or.inl ⟨rfl, ?hy40⟩) hHeld ?rest40
          case hy40 => (intro w hSw; (try dsimp only at hSw); go_simp <;> with_reducible rfl)
          (try simp only [Act.put]); (try simp only [List.setIfInBounds_toArray]); (try simp only [List.set_cons_succ]); (try simp only [List.set_cons_zero])
          refine wpAnyH_take (i := 4) (oi := { dst := (some 39), op := (Op.move (Operand.tmp 38)), type := 4, pos := "sort.go:167", after := #[{ on := 3, ground := Ground.data }], guard := none }) (v := ?v41) rfl (by kernel_rfl) (by kernel_rfl) (by kernel_rfl) (fun _ _ _ h => h) (Or.inl ⟨rfl, ?hy41⟩) hHeld ?rest41
          case hy41 => (intro w hSw; (try dsimp only at hSw); go_simp <;> with_reducible rfl)
          (try simp only [Act.put]); (try simp only [List.setIfInBounds_toArray]); (try simp only [List.set_cons_succ]); (try simp only [List.set_cons_zero])
          refine wpAnyH_take (i := 5) (oi := { dst := (some 40), op := (Op.move (Operand.tmp 2)), type := 50, pos := "sort.go:167", after := #[{ on := 4, ground := Ground.guard }], guard := (some (4, true)) }) (v := ?v42) rfl (by kernel_rfl) (by kernel_rfl) (by kernel_rfl) (fun _ _ _ h => h) (Or.inl ⟨rfl, ?hy42⟩) hHeld ?rest42
          case hy42 => (intro w hSw; (try dsimp only at hSw); go_simp <;> with_reducible rfl)
          (try simp only [Act.put]); (try simp only [List.setIfInBounds_toArray]); (try simp only [List.set_cons_succ]); (try simp only [List.set_cons_zero])
          refine wpAnyH_take (i := 6) (oi := { dst := (some 41), op := (Op.move (Operand.tmp 0)), type := 30, pos := "sort.go:167", after := #[{ on := 4, ground := Ground.guard }], guard := (some (4, true)) }) (v := ?v43) rfl (by kernel_rfl) (by kernel_rfl) (by kernel_rfl) (fun _ _ _ h => h) (Or.inl ⟨rfl, ?hy43⟩) hHeld ?rest43
          case hy43 => (intro w hSw; (try dsimp only at hSw); go_simp <;> with_reducible rfl)
          (try simp only [Act.put]); (try simp only [List.setIfInBounds_toArray]); (try simp only [List.set_cons_succ]); (try simp only [List.set_cons_zero])
          refine wpAnyH_take (i := 7) (oi := { dst := (some 42), op := (Op.move (Operand.tmp 9)), type := 3, pos := "sort.go:167", after := #[{ on := 4, ground := Ground.guard }], guard := (some (4, true)) }) (v := ?v44) rfl (by kernel_rfl) (by kernel_rfl) (by kernel_rfl) (fun _ _ _ h => h) (Or.inl ⟨rfl, ?hy44⟩) hHeld ?rest44
          case hy44 => (intro w hSw; (try dsimp only at hSw); go_simp <;> with_reducible rfl)
          (try simp only [Act.put]); (try simp only [List.setIfInBounds_toArray]); (try simp only [List.set_cons_succ]); (try simp only [List.set_cons_zero])
          refine wpAnyH_take (i := 8) (oi := { dst := (some 43), op := (Op.indexAddr 30 (Operand.tmp 41) (Operand.tmp 42)), type := 0, pos := "sort.go:167", after := #[{ on := 6, ground := Ground.data }, { on := 7, ground := Ground.data }, { on := 4, ground := Ground.guard }], guard := (some (4, true)) }) (v := ?v45) rfl (by kernel_rfl) (by kernel_rfl) (by kernel_rfl) (fun _ _ _ h => h) (Or.inl ⟨rfl, ?hy45⟩) hHeld ?rest45
          case hy45 => (intro w hSw; (try dsimp only at hSw); go_simp <;> with_reducible rfl)
          (try simp only [Act.put]); (try simp only [List.setIfInBounds_toArray]); (try simp only [List.set_cons_succ]); (try simp only [List.set_cons_zero])
          refine wpAnyH_take (i := 9) (oi := { dst := (some 44), op := (Op.load 23 (Operand.tmp 43)), type := 23, pos := "sort.go:167", after := #[{ on := 8, ground := Ground.data }, { on := 4, ground := Ground.guard }], guard := (some (4, true)) }) (v := ?v46) rfl (by kernel_rfl) (by kernel_rfl) (by kernel_rfl) (fun _ _ _ h => h) (Or.inl ⟨rfl, ?hy46⟩) hHeld ?rest46
          case hy46 => (intro w hSw; (try dsimp only at hSw); go_simp <;> with_reducible rfl)
          (try simp only [Act.put]); (try simp only [List.setIfInBounds_toArray]); (try simp only [List.set_cons_succ]); (try simp only [List.set_cons_zero])
          refine wpAnyH_take (i := 10) (oi := { dst := (some 45), op := (Op.load 23 (Operand.tmp 4)), type := 23, pos := "sort.go:167", after := #[{ on := 4, ground := Ground.guard }], guard := (some (4, true)) }) (v := ?v47) rfl (by kernel_rfl) (by kernel_rfl) (by kernel_rfl) (fun _ _ _ h => h) (Or.inl ⟨rfl, ?hy47⟩) hHeld ?rest47
          case hy47 => (intro w hSw; (try dsimp only at hSw); go_simp <;> with_reducible rfl)
          (try simp only [Act.put]); (try simp only [List.setIfInBounds_toArray]); (try simp only [List.set_cons_succ]); (try simp only [List.set_cons_zero])
          refine wpAnyH_ready (rs := [11]) (by kernel_rfl) (by simp) ?_
          refine AllReadyH.cons (o := { dst := (some 46), op := (Op.call { callee := (Callee.value (Operand.tmp 40)), args := #[(Operand.tmp 44), (Operand.tmp 45)], argTypes := #[23, 23] }), type := 3, pos := "sort.go:167", after := #[{ on := 5, ground := Ground.data }, { on := 9, ground := Ground.data }, { on := 10, ground := Ground.data }, { on := 4, ground := Ground.chain }, { on := 4, ground := Ground.guard }], guard := (some (4, true)) }) rfl (fun K hK => ?step48x0) ?more48x0
          case more48x0 => exact AllReadyH.nil
          go_simp
          (go_at_call 35; refine (s_Order x r _).mono ?_; rintro e w' ⟨rfl, hb⟩; replace hb : Ext wr w' := Ext.trans (by repeat (first | with_reducible exact Ext.refl _ | with_reducible assumption | with_reducible refine Ext.drew ?_ | with_reducible refine Ext.drewN ?_ _ | with_reducible refine Ext.alloc ?_ _)) hb)
          refine hK.out _ _ ?hS48x0 (fun hHeld48 => ?rest48x0)
          case hS48x0 => first | (exact MK.out _ (by repeat (first | with_reducible exact Ext.refl _ | with_reducible assumption | with_reducible refine Ext.drew ?_ | with_reducible refine Ext.drewN ?_ _ | with_reducible refine Ext.alloc ?_ _))) | ((try dsimp only); (exact MK.out _ (by repeat (first | with_reducible exact Ext.refl _ | with_reducible assumption | with_reducible refine Ext.drew ?_ | with_reducible refine Ext.drewN ?_ _ | with_reducible refine Ext.alloc ?_ _))))
          clear hK K
          clear hHeld
          (try simp only [Act.put]); (try simp only [List.setIfInBounds_toArray]); (try simp only [List.set_cons_succ]); (try simp only [List.set_cons_zero])
          refine wpAnyH_take (i := 12) (oi := { dst := (some 47), op := (Op.binOp BinOp.eql 3 (Operand.tmp 46) (Operand.const (Value.int IntKind.i64 0)) 3), type := 4, pos := "sort.go:167", after := #[{ on := 11, ground := Ground.data }, { on := 4, ground := Ground.guard }, { on := 14, ground := (Ground.gcOnly Departure.lateStores) }], guard := (some (4, true)) }) (v := ?v49) rfl (by kernel_rfl) (by kernel_rfl) (by kernel_rfl) (fun _ _ _ h => h) (Or.inl ⟨rfl, ?hy49⟩) hHeld48 ?rest49
          case hy49 => (intro w hSw; (try dsimp only at hSw); go_simp <;> with_reducible rfl)
          (try simp only [Act.put]); (try simp only [List.setIfInBounds_toArray]); (try simp only [List.set_cons_succ]); (try simp only [List.set_cons_zero])
          refine wpAnyH_take (i := 13) (oi := { dst := (some 48), op := (Op.pick (Operand.tmp 39) (Operand.tmp 47) (Operand.const (Value.bool false))), type := 4, pos := "sort.go:167", after := #[{ on := 4, ground := Ground.data }, { on := 12, ground := Ground.data }, { on := 14, ground := (Ground.gcOnly Departure.lateStores) }], guard := none }) (v := ?v50) rfl (by kernel_rfl) (by kernel_rfl) (by kernel_rfl) (fun _ _ _ h => h) (Or.inl ⟨rfl, ?hy50⟩) hHeld48 ?rest50
          case hy50 => (intro w hSw; (try dsimp only at hSw); go_simp <;> with_reducible rfl)
          (try simp only [Act.put]); (try simp only [List.setIfInBounds_toArray]); (try simp only [List.set_cons_succ]); (try simp only [List.set_cons_zero])
          refine wpAnyH_take (i := 14) (oi := { dst := (some 6), op := (Op.assign (Operand.tmp 35)), type := 3, pos := "sort.go:167", after := #[{ on := 0, ground := Ground.data }, { on := 11, ground := Ground.chain }, { on := 0, ground := Ground.phase }, { on := 1, ground := (Ground.textOnly Departure.lateStores) }, { on := 2, ground := (Ground.textOnly Departure.lateStores) }, { on := 3, ground := (Ground.textOnly Departure.lateStores) }, { on := 4, ground := (Ground.textOnly Departure.lateStores) }, { on := 5, ground := (Ground.textOnly Departure.lateStores) }, { on := 6, ground := (Ground.textOnly Departure.lateStores) }, { on := 7, ground := (Ground.textOnly Departure.lateStores) }, { on := 8, ground := (Ground.textOnly Departure.lateStores) }, { on := 9, ground := (Ground.textOnly Departure.lateStores) }, { on := 10, ground := (Ground.textOnly Departure.lateStores) }, { on := 11, ground := (Ground.textOnly Departure.lateStoresUnsure) }, { on := 12, ground := (Ground.textOnly Departure.lateStores) }, { on := 13, ground := (Ground.textOnly Departure.lateStores) }], guard := none }) (v := ?v51) rfl (by kernel_rfl) (by kernel_rfl) (by kernel_rfl) (fun _ _ _ h => h) (Or.inl ⟨rfl, ?hy51⟩) hHeld48 ?rest51
          case hy51 => (intro w hSw; (try dsimp only at hSw); go_simp <;> with_reducible rfl)
          (try simp only [Act.put]); (try simp only [List.setIfInBounds_toArray]); (try simp only [List.set_cons_succ]); (try simp only [List.set_cons_zero])
          refine wpAnyH_take (i := 15) (oi := { dst := (some 7), op := (Op.assign (Operand.tmp 48)), type := 4, pos := "sort.go:167", after := #[{ on := 13, ground := Ground.data }, { on := 14, ground := Ground.chain }, { on := 0, ground := Ground.phase }, { on := 1, ground := Ground.phase }, { on := 2, ground := Ground.phase }, { on := 3, ground := Ground.phase }, { on := 4, ground := Ground.phase }, { on := 5, ground := Ground.phase }, { on := 6, ground := Ground.phase }, { on := 7, ground := Ground.phase }, { on := 8, ground := Ground.phase }, { on := 9, ground := Ground.phase }, { on := 10, ground := Ground.phase }, { on := 11, ground := Ground.phase }, { on := 12, ground := Ground.phase }, { on := 13, ground := Ground.phase }, { on := 14, ground := Ground.phase }], guard := none }) (v := ?v52) rfl (by kernel_rfl) (by kernel_rfl) (by kernel_rfl) (fun _ _ _ h => h) (Or.inl ⟨rfl, ?hy52⟩) hHeld48 ?rest52
          case hy52 => (intro w hSw; (try dsimp only at hSw); go_simp <;> with_reducible rfl)
          (try simp only [Act.put]); (try simp only [List.setIfInBounds_toArray]); (try simp only [List.set_cons_succ]); (try simp only [List.set_cons_zero])
          refine wpAnyH_done (by kernel_rfl) ?_ _
          clear hHeld48
          go_wp2_with fail
          go_ret2
          exact ⟨by rw [HB.out]; rfl, hx.trans (hE.trans (by repeat (first | with_reducible exact Ext.refl _ | with_reducible assumption | with_reducible refine Ext.drew ?_ | with_reducible refine Ext.drewN ?_ _ | with_reducible refine Ext.alloc ?_ _)))⟩
      · have HX := Lib.hid (show decide (r ∈ s) = false by
          rw [decide_eq_false]
          intro h
          exact hin (HM.out.1 h).1)
        have MK := Lib.hid (fun V (e : Ext wr V) => (⟨trivial, e⟩ : True ∧ Ext wr V))
        have q2 : ¬ (i : Int) < (s.length : Int) := by omega
        clear HI HM
        go_wp2_with fail
        refine wp_region_held_drew (S := (fun V => True ∧ Ext wr V)) (by kernel_rfl) ?hs53 (fun hHeld => ?go53)
        case hs53 => (exact MK.out _ (by repeat (first | with_reducible exact Ext.refl _ | with_reducible assumption | with_reducible refine Ext.drew ?_ | with_reducible refine Ext.drewN ?_ _ | with_reducible refine Ext.alloc ?_ _)))
        refine wpAnyH_take (i := 0) (oi := { dst := (some 35), op := (Op.move (Operand.tmp 9)), type := 3, pos := "sort.go:167", after := #[], guard := none }) (v := ?v54) rfl (by kernel_rfl) (by kernel_rfl) (by kernel_rfl) (fun _ _ _ h => h) (Or.inl ⟨rfl, ?hy54⟩) hHeld ?rest54
        case hy54 => (intro w hSw; (try dsimp only at hSw); go_simp <;> with_reducible rfl)
        (try simp only [Act.put]); (try simp only [List.setIfInBounds_toArray]); (try simp only [List.set_cons_succ]); (try simp only [List.set_cons_zero])
        refine wpAnyH_take (i := 1) (oi := { dst := (some 36), op := (Op.move (Operand.tmp 9)), type := 3, pos := "sort.go:167", after := #[], guard := none }) (v := ?v55) rfl (by kernel_rfl) (by kernel_rfl) (by kernel_rfl) (fun _ _ _ h => h) (Or.inl ⟨rfl, ?hy55⟩) hHeld ?rest55
        case hy55 => (intro w hSw; (try dsimp only at hSw); go_simp <;> with_reducible rfl)
        (try simp only [Act.put]); (try simp only [List.setIfInBounds_toArray]); (try simp only [List.set_cons_succ]); (try simp only [List.set_cons_zero])
        refine wpAnyH_take (i := 2) (oi := { dst := (some 37), op := (Op.move (Operand.tmp 8)), type := 3, pos := "sort.go:167", after := #[], guard := none }) (v := ?v56) rfl (by kernel_rfl) (by kernel_rfl) (by kernel_rfl) (fun _ _ _ h => h) (Or.inl ⟨rfl, ?hy56⟩) hHeld ?rest56
        case hy56 => (intro w hSw; (try dsimp only at hSw); go_simp <;> with_reducible rfl)
        (try simp only [Act.put]); (try simp only [List.setIfInBounds_toArray]); (try simp only [List.set_cons_succ]); (try simp only [List.set_cons_zero])
        refine wpAnyH_take (i := 3) (oi := { dst := (some 38), op := (Op.binOp BinOp.lss 3 (Operand.tmp 36) (Operand.tmp 37) 3), type := 4, pos := "sort.go:167", after := #[{ on := 1, ground := Ground.data }, { on := 2, ground := Ground.data }], guard := none }) (v := ?v57) rfl (by kernel_rfl) (by kernel_rfl) (by kernel_rfl) (fun _ _ _ h => h) (Or.inl ⟨rfl, ?hy57⟩) hHeld ?rest57
        case hy57 => (intro w hSw; (try dsimp only at hSw); go_simp <;> with_reducible rfl)
        (try simp only [Act.put]); (try simp only [List.setIfInBounds_toArray]); (try simp only [List.set_cons_succ]); (try simp only [List.set_cons_zero])
        refine wpAnyH_take (i := 4) (oi := { dst := (some 39), op := (Op.move (Operand.tmp 38)), type := 4, pos := "sort.go:167", after := #[{ on := 3, ground := Ground.data }], guard := none }) (v := ?v58) rfl (by kernel_rfl) (by kernel_rfl) (by kernel_rfl) (fun _ _ _ h => h) (Or.inl ⟨rfl, ?hy58⟩) hHeld ?rest58
        case hy58 => (intro w hSw; (try dsimp only at hSw); go_simp <;> with_reducible rfl)
        (try simp only [Act.put]); (try simp only [List.setIfInBounds_toArray]); (try simp only [List.set_cons_succ]); (try simp only [List.set_cons_zero])
        refine wpAnyH_take (i := 5) (oi := { dst := (some 40), op := (Op.move (Operand.tmp 2)), type := 50, pos := "sort.go:167", after := #[{ on := 4, ground := Ground.guard }], guard := (some (4, true)) }) (v := undef) rfl (by kernel_rfl) (by kernel_rfl) (by kernel_rfl) (fun _ _ _ h => h) (Or.inr ⟨rfl, rfl⟩) hHeld ?rest59
        (try simp only [Act.put]); (try simp only [List.setIfInBounds_toArray]); (try simp only [List.set_cons_succ]); (try simp only [List.set_cons_zero])
        refine wpAnyH_take (i := 6) (oi := { dst := (some 41), op := (Op.move (Operand.tmp 0)), type := 30, pos := "sort.go:167", after := #[{ on := 4, ground := Ground.guard }], guard := (some (4, true)) }) (v := undef) rfl (by kernel_rfl) (by kernel_rfl) (by kernel_rfl) (fun _ _ _ h => h) (Or.inr ⟨rfl, rfl⟩) hHeld ?rest60
        (try simp only [Act.put]); (try simp only [List.setIfInBounds_toArray]); (try simp only [List.set_cons_succ]); (try simp only [List.set_cons_zero])
        refine wpAnyH_take (i := 7) (oi := { dst := (some 42), op := (Op.move (Operand.tmp 9)), type := 3, pos := "sort.go:167", after := #[{ on := 4, ground := Ground.guard }], guard := (some (4, true)) }) (v := undef) rfl (by kernel_rfl) (by kernel_rfl) (by kernel_rfl) (fun _ _ _ h => h) (Or.inr ⟨rfl, rfl⟩) hHeld ?rest61
        (try simp only [Act.put]); (try simp only [List.setIfInBounds_toArray]); (try simp only [List.set_cons_succ]); (try simp only [List.set_cons_zero])
        refine wpAnyH_take (i := 8) (oi := { dst := (some 43), op := (Op.indexAddr 30 (Operand.tmp 41) (Operand.tmp 42)), type := 0, pos := "sort.go:167", after := #[{ on := 6, ground := Ground.data }, { on := 7, ground := Ground.data }, { on := 4, ground := Ground.guard }], guard := (some (4, true)) }) (v := undef) rfl (by kernel_rfl) (by kernel_rfl) (by kernel_rfl) (fun _ _ _ h => h) (Or.inr ⟨rfl, rfl⟩) hHeld ?rest62
        (try simp only [Act.put]); (try simp only [List.setIfInBounds_toArray]); (try simp only [List.set_cons_succ]); (try simp only [List.set_cons_zero])
        refine wpAnyH_take (i := 9) (oi := { dst := (some 44), op := (Op.load 23 (Operand.tmp 43)), type := 23, pos := "sort.go:167", after := #[{ on := 8, ground := Ground.data }, { on := 4, ground := Ground.guard }], guard := (some (4, true)) }) (v := undef) rfl (by kernel_rfl) (by kernel_rfl) (by kernel_rfl) (fun _ _ _ h => h) (Or.inr ⟨rfl, rfl⟩) hHeld ?rest63
        (try simp only [Act.put]); (try simp only [List.setIfInBounds_toArray]); (try simp only [List.set_cons_succ]); (try simp only [List.set_cons_zero])
        refine wpAnyH_take (i := 10) (oi := { dst := (some 45), op := (Op.load 23 (Operand.tmp 4)), type := 23, pos := "sort.go:167", after := #[{ on := 4, ground := Ground.guard }], guard := (some (4, true)) }) (v := undef) rfl (by kernel_rfl) (by kernel_rfl) (by kernel_rfl) (fun _ _ _ h => h) (Or.inr ⟨rfl, rfl⟩) hHeld ?rest64
        (try simp only [Act.put]); (try simp only [List.setIfInBounds_toArray]); (try simp only [List.set_cons_succ]); (try simp only [List.set_cons_zero])
        refine wpAnyH_take (i := 11) (oi := { dst := (some 46), op := (Op.call { callee := (Callee.value (Operand.tmp 40)), args := #[(Operand.tmp 44), (Operand.tmp 45)], argTypes := #[23, 23] }), type := 3, pos := "sort.go:167", after := #[{ on := 5, ground := Ground.data }, { on := 9, ground := Ground.data }, { on := 10, ground := Ground.data }, { on := 4, ground := Ground.chain }, { on := 4, ground := Ground.guard }], guard := (some (4, true)) }) (v := undef) rfl (by kernel_rfl) (by kernel_rfl) (by kernel_rfl) (fun _ _ _ h => h) (Or.inr ⟨rfl, rfl⟩) hHeld ?rest65
        (try simp only [Act.put]); (try simp only [List.setIfInBounds_toArray]); (try simp only [List.set_cons_succ]); (try simp only [List.set_cons_zero])
        refine wpAnyH_take (i := 12) (oi := { dst := (some 47), op := (Op.binOp BinOp.eql 3 (Operand.tmp 46) (Operand.const (Value.int IntKind.i64 0)) 3), type := 4, pos := "sort.go:167", after := #[{ on := 11, ground := Ground.data }, { on := 4, ground := Ground.guard }, { on := 14, ground := (Ground.gcOnly Departure.lateStores) }], guard := (some (4, true)) }) (v := undef) rfl (by kernel_rfl) (by kernel_rfl) (by kernel_rfl) (fun _ _ _ h => h) (Or.inr ⟨rfl, rfl⟩) hHeld ?rest66
        (try simp only [Act.put]); (try simp only [List.setIfInBounds_toArray]); (try simp only [List.set_cons_succ]); (try simp only [List.set_cons_zero])
        refine wpAnyH_take (i := 13) (oi := { dst := (some 48), op := (Op.pick (Operand.tmp 39) (Operand.tmp 47) (Operand.const (Value.bool false))), type := 4, pos := "sort.go:167", after := #[{ on := 4, ground := Ground.data }, { on := 12, ground := Ground.data }, { on := 14, ground := (Ground.gcOnly Departure.lateStores) }], guard := none }) (v := ?v67) rfl (by kernel_rfl) (by kernel_rfl) (by kernel_rfl) (fun _ _ _ h => h) (Or.inl ⟨rfl, ?hy67⟩) hHeld ?rest67
        case hy67 => (intro w hSw; (try dsimp only at hSw); go_simp <;> with_reducible rfl)
        (try simp only [Act.put]); (try simp only [List.setIfInBounds_toArray]); (try simp only [List.set_cons_succ]); (try simp only [List.set_cons_zero])
        refine wpAnyH_take (i := 14) (oi := { dst := (some 6), op := (Op.assign (Operand.tmp 35)), type := 3, pos := "sort.go:167", after := #[{ on := 0, ground := Ground.data }, { on := 11, ground := Ground.chain }, { on := 0, ground := Ground.phase }, { on := 1, ground := (Ground.textOnly Departure.lateStores) }, { on := 2, ground := (Ground.textOnly Departure.lateStores) }, { on := 3, ground := (Ground.textOnly Departure.lateStores) }, { on := 4, ground := (Ground.textOnly Departure.lateStores) }, { on := 5, ground := (Ground.textOnly Departure.lateStores) }, { on := 6, ground := (Ground.textOnly Departure.lateStores) }, { on := 7, ground := (Ground.textOnly Departure.lateStores) }, { on := 8, ground := (Ground.textOnly Departure.lateStores) }, { on := 9, ground := (Ground.textOnly Departure.lateStores) }, { on := 10, ground := (Ground.textOnly Departure.lateStores) }, { on := 11, ground := (Ground.textOnly Departure.lateStoresUnsure) }, { on := 12, ground := (Ground.textOnly Departure.lateStores) }, { on := 13, ground := (Ground.textOnly Departure.lateStores) }], guard := none }) (v := ?v68) rfl (by kernel_rfl) (by kernel_rfl) (by kernel_rfl) (fun _ _ _ h => h) (Or.inl ⟨rfl, ?hy68⟩) hHeld ?rest68
        case hy68 => (intro w hSw; (try dsimp only at hSw); go_simp <;> with_reducible rfl)
        (try simp only [Act.put]); (try simp only [List.setIfInBounds_toArray]); (try simp only [List.set_cons_succ]); (try simp only [List.set_cons_zero])
        refine wpAnyH_take (i := 15) (oi := { dst := (some 7), op := (Op.assign (Operand.tmp 48)), type := 4, pos := "sort.go:167", after := #[{ on := 13, ground := Ground.data }, { on := 14, ground := Ground.chain }, { on := 0, ground := Ground.phase }, { on := 1, ground := Ground.phase }, { on := 2, ground := Ground.phase }, { on := 3, ground := Ground.phase }, { on := 4, ground := Ground.phase }, { on := 5, ground := Ground.phase }, { on := 6, ground := Ground.phase }, { on := 7, ground := Ground.phase }, { on := 8, ground := Ground.phase }, { on := 9, ground := Ground.phase }, { on := 10, ground := Ground.phase }, { on := 11, ground := Ground.phase }, { on := 12, ground := Ground.phase }, { on := 13, ground := Ground.phase }, { on := 14, ground := Ground.phase }], guard := none }) (v := ?v69) rfl (by kernel_rfl) (by kernel_rfl) (by kernel_rfl) (fun _ _ _ h => h) (Or.inl ⟨rfl, ?hy69⟩) hHeld ?rest69
        case hy69 => (intro w hSw; (try dsimp only at hSw); go_simp <;> with_reducible rfl)
        (try simp only [Act.put]); (try simp only [List.setIfInBounds_toArray]); (try simp only [List.set_cons_succ]); (try simp only [List.set_cons_zero])
        refine wpAnyH_done (by kernel_rfl) ?_ _
        clear hHeld
        go_wp2_with fail
        go_ret2
        exact ⟨by rw [HX.out]; rfl, hx.trans (hE.trans (by repeat (first | with_reducible exact Ext.refl _ | with_reducible assumption | with_reducible refine Ext.drew ?_ | with_reducible refine Ext.drewN ?_ _ | with_reducible refine Ext.alloc ?_ _)))⟩

end Go.Proofs.YtanclhcoiagcfaaGreatDoor
