/- THE WALK over the reference's Valid. -/
import Derived.Test.YtanclhcoiagcfaaGreatDoorSchK
namespace Go.Proofs.YtanclhcoiagcfaaGreatDoor
open Go.RowKit

theorem valid_no {s : List RuleP} {k : Nat} (hk : k < s.length) (h : stepB s k = false) : validB s = false := by
  unfold validB
  rw [Bool.and_eq_false_iff]
  exact .inr (List.all_eq_false.2 ⟨k, List.mem_range.2 hk, by rw [h]; simp⟩)
theorem valid_yes {s : List RuleP} (h : ∀ j, j < s.length → stepB s j = true) : validB s = decide (s.length ≤ 40) := by
  unfold validB
  rw [List.all_eq_true.2 (fun j hj => h j (List.mem_range.1 hj)), Bool.and_true]
theorem valid_long {s : List RuleP} (h : ¬ s.length ≤ 40) : validB s = false := by
  unfold validB; rw [decide_eq_false h]; rfl
theorem step_chk {s : List RuleP} {k : Nat} (h : chkR s[k]! ≠ 0) : stepB s k = false := by unfold stepB; rw [decide_eq_false h]; rfl
theorem step_zero {s : List RuleP} (h : chkR s[0]! = 0) : stepB s 0 = true := by unfold stepB; rw [decide_eq_true h]; rfl
theorem step_low {s : List RuleP} {k : Nat} (h : chkR s[k]! = 0) (hk : 0 < k) : stepB s k = decide (ordR s[k - 1]! s[k]! < 0) := by
  unfold stepB; rw [decide_eq_true h, decide_eq_false (show ¬ k = 0 by omega)]; simp

theorem mk_one {a V : World} {b o : Nat} {r : RuleP} (h : CellsR a b o r) (e : Ext a V) : V.cell? ⟨b, o, none⟩ = some (.int .i64 r.kind) ∧ V.cell? ⟨b, o + 1, none⟩ = some (.int .i64 r.n) ∧ V.cell? ⟨b, o + 2, none⟩ = some (.string r.name) ∧ V.cell? ⟨b, o + 3, none⟩ = some (.string r.key) ∧ V.cell? ⟨b, o + 4, none⟩ = some (.string r.frm) ∧ V.cell? ⟨b, o + 5, none⟩ = some (.string r.tov) ∧ Ext a V :=
  let ⟨h0, h1, h2, h3, h4, h5⟩ := h.ext e
  ⟨h0, h1, h2, h3, h4, h5, e⟩

theorem step_more {s : List RuleP} {k : Nat} (h : ∀ j, j < k → stepB s j = true) (hk : stepB s k = true) : ∀ j, j < k + 1 → stepB s j = true := by
  intro j hj
  by_cases e : j = k
  · subst e; exact hk
  · exact h j (by omega)

set_option maxRecDepth 100000 in
set_option maxHeartbeats 1600000 in
theorem r9_Valid (s : List RuleP) (A : Option Addr) (c : Nat) (w : World) (hs : Rules w A s) (hl : s.length ≤ 1000) :
    Calls Tryz.prog 19 #[.slice A s.length c] w fun e w' => e = .returned (.bool (validB s)) ∧ Ext w w' := by
  have hs1 := Lib.hid hs
  clear hs
  by_cases h40 : s.length ≤ 40
  · have HY := Lib.hid (fun h => (valid_yes h).trans (decide_eq_true h40))
    have HNO := Lib.hid (fun k (hk : k < s.length) => valid_no hk)
    go_enter Tryz.func19, Tryz.ntmps19
    go_wp2_with fail
    go_loopw [3] (fun u W => ∃ k : Nat, u = .int .i64 k ∧ k ≤ s.length ∧ Hid (∀ j, j < k → stepB s j = true) ∧ Ext w W) (fun u _ => s.length - (intOf u).toNat)
    case atStart => exact ⟨0, rfl, Nat.zero_le _, Lib.hid (fun j hj => absurd hj (Nat.not_lt_zero _)), Ext.refl _⟩
    case round =>
      obtain ⟨k, rfl, hk, hn, hE⟩ := hrel
      by_cases hlt : k < s.length
      · obtain ⟨b, off, rfl, hc⟩ := hs1.out (by omega)
        have hd := (hc k hlt).ext hE
        have HT := Lib.hid (HNO.out k hlt)
        have HC := Lib.hid (step_chk (s := s) (k := k))
        by_cases hck : chkR s[k]! = 0
        · by_cases hk0 : k = 0
          · have HX := Lib.hid (step_more hn.out (by subst hk0; exact step_zero hck))
            clear hc HNO HT HC
            generalize s[k]! = x at hd hck
            have MK := Lib.hid (fun V (e : Ext wr V) => mk_one hd e)
            have HO := Lib.hid hck
            have p4 : ∀ W, (binOp .gtr 3 (.int .i64 (k : Int)) (.int .i64 0)).run Tryz.prog W = .ok (.bool false) W := fun W => by subst hk0; rfl
            have p3 : ¬ 0 < k := by omega
            clear p4
            clear hd hck hk0
            go_wp2_with fail
            refine wp_region_held_drew (S := (fun V => V.cell? ⟨b, off + k * 6, none⟩ = some (.int .i64 x.kind) ∧ V.cell? ⟨b, off + k * 6 + 1, none⟩ = some (.int .i64 x.n) ∧ V.cell? ⟨b, off + k * 6 + 2, none⟩ = some (.string x.name) ∧ V.cell? ⟨b, off + k * 6 + 3, none⟩ = some (.string x.key) ∧ V.cell? ⟨b, off + k * 6 + 4, none⟩ = some (.string x.frm) ∧ V.cell? ⟨b, off + k * 6 + 5, none⟩ = some (.string x.tov) ∧ Ext wr V)) (by kernel_rfl) ?hs1 (fun hHeld => ?go1)
            case hs1 => (exact MK.out _ (by repeat (first | with_reducible exact Ext.refl _ | with_reducible assumption | with_reducible refine Ext.drew ?_ | with_reducible refine Ext.drewN ?_ _ | with_reducible refine Ext.alloc ?_ _)))
            refine wpAnyH_take (i := 0) (oi := { dst := (some 13), op := (Op.move (Operand.tmp 0)), type := 30, pos := "ref.go:93", after := #[], guard := none }) (v := ?v2) rfl (by kernel_rfl) (by kernel_rfl) (by kernel_rfl) (fun _ _ _ h => h) (Or.inl ⟨rfl, ?hy2⟩) hHeld ?rest2
            case hy2 => (intro w hSw; (try dsimp only at hSw); go_simp <;> with_reducible rfl)
            try simp only [Act.put, List.setIfInBounds_toArray, List.set_cons_zero, List.set_cons_succ]
            refine wpAnyH_take (i := 1) (oi := { dst := (some 14), op := (Op.move (Operand.tmp 3)), type := 3, pos := "ref.go:93", after := #[], guard := none }) (v := ?v3) rfl (by kernel_rfl) (by kernel_rfl) (by kernel_rfl) (fun _ _ _ h => h) (Or.inl ⟨rfl, ?hy3⟩) hHeld ?rest3
            case hy3 => (intro w hSw; (try dsimp only at hSw); go_simp <;> with_reducible rfl)
            try simp only [Act.put, List.setIfInBounds_toArray, List.set_cons_zero, List.set_cons_succ]
            refine wpAnyH_take (i := 2) (oi := { dst := (some 15), op := (Op.indexAddr 30 (Operand.tmp 13) (Operand.tmp 14)), type := 0, pos := "ref.go:93", after := #[{ on := 0, ground := Ground.data }, { on := 1, ground := Ground.data }], guard := none }) (v := ?v4) rfl (by kernel_rfl) (by kernel_rfl) (by kernel_rfl) (fun _ _ _ h => h) (Or.inl ⟨rfl, ?hy4⟩) hHeld ?rest4
            case hy4 => (intro w hSw; (try dsimp only at hSw); go_simp <;> with_reducible rfl)
            try simp only [Act.put, List.setIfInBounds_toArray, List.set_cons_zero, List.set_cons_succ]
            refine wpAnyH_take (i := 3) (oi := { dst := (some 16), op := (Op.load 23 (Operand.tmp 15)), type := 23, pos := "ref.go:93", after := #[{ on := 2, ground := Ground.data }], guard := none }) (v := ?v5) rfl (by kernel_rfl) (by kernel_rfl) (by kernel_rfl) (fun _ _ _ h => h) (Or.inl ⟨rfl, ?hy5⟩) hHeld ?rest5
            case hy5 => (intro w hSw; (try dsimp only at hSw); go_simp <;> with_reducible rfl)
            try simp only [Act.put, List.setIfInBounds_toArray, List.set_cons_zero, List.set_cons_succ]
            refine wpAnyH_ready (rs := [4]) (by kernel_rfl) (by simp) ?_
            refine AllReadyH.cons (o := { dst := (some 17), op := (Op.call { callee := (Callee.value (Operand.func 7)), args := #[(Operand.tmp 16)], argTypes := #[23] }), type := 24, pos := "ref.go:93", after := #[{ on := 3, ground := Ground.data }], guard := none }) rfl (fun K hK => ?step6x0) ?more6x0
            case more6x0 => exact AllReadyH.nil
            go_simp
            (go_at_call 7; refine (r9_Check x _).mono ?_; rintro e w' ⟨rfl, hb⟩; replace hb : Ext wr w' := Ext.trans (by repeat (first | with_reducible exact Ext.refl _ | with_reducible assumption | with_reducible refine Ext.drew ?_ | with_reducible refine Ext.drewN ?_ _ | with_reducible refine Ext.alloc ?_ _)) hb; rw [HO.out])
            refine hK.out _ _ ?hS6x0 (fun hHeld6 => ?rest6x0)
            case hS6x0 => ((try dsimp only); (exact MK.out _ (by repeat (first | with_reducible exact Ext.refl _ | with_reducible assumption | with_reducible refine Ext.drew ?_ | with_reducible refine Ext.drewN ?_ _ | with_reducible refine Ext.alloc ?_ _))))
            clear hK K
            clear hHeld
            try simp only [Act.put, List.setIfInBounds_toArray, List.set_cons_zero, List.set_cons_succ]
            refine wpAnyH_take (i := 5) (oi := { dst := (some 18), op := (Op.binOp BinOp.neq 24 (Operand.tmp 17) (Operand.const (Value.int IntKind.i64 0)) 24), type := 4, pos := "ref.go:93", after := #[{ on := 4, ground := Ground.data }], guard := none }) (v := ?v7) rfl (by kernel_rfl) (by kernel_rfl) (by kernel_rfl) (fun _ _ _ h => h) (Or.inl ⟨rfl, ?hy7⟩) hHeld6 ?rest7
            case hy7 => (intro w hSw; (try dsimp only at hSw); go_simp <;> with_reducible rfl)
            try simp only [Act.put, List.setIfInBounds_toArray, List.set_cons_zero, List.set_cons_succ]
            refine wpAnyH_take (i := 6) (oi := { dst := (some 19), op := (Op.move (Operand.tmp 18)), type := 4, pos := "ref.go:93", after := #[{ on := 5, ground := Ground.data }, { on := 4, ground := Ground.chain }], guard := none }) (v := ?v8) rfl (by kernel_rfl) (by kernel_rfl) (by kernel_rfl) (fun _ _ _ h => h) (Or.inl ⟨rfl, ?hy8⟩) hHeld6 ?rest8
            case hy8 => (intro w hSw; (try dsimp only at hSw); go_simp <;> with_reducible rfl)
            try simp only [Act.put, List.setIfInBounds_toArray, List.set_cons_zero, List.set_cons_succ]
            refine wpAnyH_take (i := 7) (oi := { dst := (some 20), op := (Op.move (Operand.tmp 3)), type := 3, pos := "ref.go:93", after := #[{ on := 6, ground := Ground.guard }], guard := (some (6, false)) }) (v := ?v9) rfl (by kernel_rfl) (by kernel_rfl) (by kernel_rfl) (fun _ _ _ h => h) (Or.inl ⟨rfl, ?hy9⟩) hHeld6 ?rest9
            case hy9 => (intro w hSw; (try dsimp only at hSw); go_simp <;> with_reducible rfl)
            try simp only [Act.put, List.setIfInBounds_toArray, List.set_cons_zero, List.set_cons_succ]
            refine wpAnyH_take (i := 8) (oi := { dst := (some 21), op := (Op.binOp BinOp.gtr 3 (Operand.tmp 20) (Operand.const (Value.int IntKind.i64 0)) 3), type := 4, pos := "ref.go:93", after := #[{ on := 7, ground := Ground.data }, { on := 6, ground := Ground.guard }], guard := (some (6, false)) }) (v := ?v10) rfl (by kernel_rfl) (by kernel_rfl) (by kernel_rfl) (fun _ _ _ h => h) (Or.inl ⟨rfl, ?hy10⟩) hHeld6 ?rest10
            case hy10 => (intro w hSw; (try dsimp only at hSw); go_simp <;> with_reducible rfl)
            try simp only [Act.put, List.setIfInBounds_toArray, List.set_cons_zero, List.set_cons_succ]
            refine wpAnyH_take (i := 9) (oi := { dst := (some 22), op := (Op.move (Operand.tmp 21)), type := 4, pos := "ref.go:93", after := #[{ on := 8, ground := Ground.data }, { on := 6, ground := Ground.chain }, { on := 6, ground := Ground.guard }], guard := (some (6, false)) }) (v := ?v11) rfl (by kernel_rfl) (by kernel_rfl) (by kernel_rfl) (fun _ _ _ h => h) (Or.inl ⟨rfl, ?hy11⟩) hHeld6 ?rest11
            case hy11 => (intro w hSw; (try dsimp only at hSw); go_simp <;> with_reducible rfl)
            try simp only [Act.put, List.setIfInBounds_toArray, List.set_cons_zero, List.set_cons_succ]
            refine wpAnyH_take (i := 10) (oi := { dst := (some 23), op := (Op.move (Operand.tmp 0)), type := 30, pos := "ref.go:93", after := #[{ on := 9, ground := Ground.guard }], guard := (some (9, true)) }) (v := undef) rfl (by kernel_rfl) (by kernel_rfl) (by kernel_rfl) (fun _ _ _ h => h) (Or.inr ⟨rfl, rfl⟩) hHeld6 ?rest12
            try simp only [Act.put, List.setIfInBounds_toArray, List.set_cons_zero, List.set_cons_succ]
            refine wpAnyH_take (i := 11) (oi := { dst := (some 24), op := (Op.move (Operand.tmp 3)), type := 3, pos := "ref.go:93", after := #[{ on := 9, ground := Ground.guard }], guard := (some (9, true)) }) (v := undef) rfl (by kernel_rfl) (by kernel_rfl) (by kernel_rfl) (fun _ _ _ h => h) (Or.inr ⟨rfl, rfl⟩) hHeld6 ?rest13
            try simp only [Act.put, List.setIfInBounds_toArray, List.set_cons_zero, List.set_cons_succ]
            refine wpAnyH_take (i := 12) (oi := { dst := (some 25), op := (Op.binOp BinOp.sub 3 (Operand.tmp 24) (Operand.const (Value.int IntKind.i64 1)) 3), type := 3, pos := "ref.go:93", after := #[{ on := 11, ground := Ground.data }, { on := 9, ground := Ground.guard }], guard := (some (9, true)) }) (v := undef) rfl (by kernel_rfl) (by kernel_rfl) (by kernel_rfl) (fun _ _ _ h => h) (Or.inr ⟨rfl, rfl⟩) hHeld6 ?rest14
            try simp only [Act.put, List.setIfInBounds_toArray, List.set_cons_zero, List.set_cons_succ]
            refine wpAnyH_take (i := 13) (oi := { dst := (some 26), op := (Op.indexAddr 30 (Operand.tmp 23) (Operand.tmp 25)), type := 0, pos := "ref.go:93", after := #[{ on := 10, ground := Ground.data }, { on := 12, ground := Ground.data }, { on := 9, ground := Ground.guard }], guard := (some (9, true)) }) (v := undef) rfl (by kernel_rfl) (by kernel_rfl) (by kernel_rfl) (fun _ _ _ h => h) (Or.inr ⟨rfl, rfl⟩) hHeld6 ?rest15
            try simp only [Act.put, List.setIfInBounds_toArray, List.set_cons_zero, List.set_cons_succ]
            refine wpAnyH_take (i := 14) (oi := { dst := (some 27), op := (Op.load 23 (Operand.tmp 26)), type := 23, pos := "ref.go:93", after := #[{ on := 13, ground := Ground.data }, { on := 9, ground := Ground.guard }], guard := (some (9, true)) }) (v := undef) rfl (by kernel_rfl) (by kernel_rfl) (by kernel_rfl) (fun _ _ _ h => h) (Or.inr ⟨rfl, rfl⟩) hHeld6 ?rest16
            try simp only [Act.put, List.setIfInBounds_toArray, List.set_cons_zero, List.set_cons_succ]
            refine wpAnyH_take (i := 15) (oi := { dst := (some 28), op := (Op.move (Operand.tmp 0)), type := 30, pos := "ref.go:93", after := #[{ on := 9, ground := Ground.guard }], guard := (some (9, true)) }) (v := undef) rfl (by kernel_rfl) (by kernel_rfl) (by kernel_rfl) (fun _ _ _ h => h) (Or.inr ⟨rfl, rfl⟩) hHeld6 ?rest17
            try simp only [Act.put, List.setIfInBounds_toArray, List.set_cons_zero, List.set_cons_succ]
            refine wpAnyH_take (i := 16) (oi := { dst := (some 29), op := (Op.move (Operand.tmp 3)), type := 3, pos := "ref.go:93", after := #[{ on := 9, ground := Ground.guard }], guard := (some (9, true)) }) (v := undef) rfl (by kernel_rfl) (by kernel_rfl) (by kernel_rfl) (fun _ _ _ h => h) (Or.inr ⟨rfl, rfl⟩) hHeld6 ?rest18
            try simp only [Act.put, List.setIfInBounds_toArray, List.set_cons_zero, List.set_cons_succ]
            refine wpAnyH_take (i := 17) (oi := { dst := (some 30), op := (Op.indexAddr 30 (Operand.tmp 28) (Operand.tmp 29)), type := 0, pos := "ref.go:93", after := #[{ on := 15, ground := Ground.data }, { on := 16, ground := Ground.data }, { on := 9, ground := Ground.guard }], guard := (some (9, true)) }) (v := undef) rfl (by kernel_rfl) (by kernel_rfl) (by kernel_rfl) (fun _ _ _ h => h) (Or.inr ⟨rfl, rfl⟩) hHeld6 ?rest19
            try simp only [Act.put, List.setIfInBounds_toArray, List.set_cons_zero, List.set_cons_succ]
            refine wpAnyH_take (i := 18) (oi := { dst := (some 31), op := (Op.load 23 (Operand.tmp 30)), type := 23, pos := "ref.go:93", after := #[{ on := 17, ground := Ground.data }, { on := 9, ground := Ground.guard }], guard := (some (9, true)) }) (v := undef) rfl (by kernel_rfl) (by kernel_rfl) (by kernel_rfl) (fun _ _ _ h => h) (Or.inr ⟨rfl, rfl⟩) hHeld6 ?rest20
            try simp only [Act.put, List.setIfInBounds_toArray, List.set_cons_zero, List.set_cons_succ]
            refine wpAnyH_take (i := 19) (oi := { dst := (some 32), op := (Op.call { callee := (Callee.value (Operand.func 40)), args := #[(Operand.tmp 27), (Operand.tmp 31)], argTypes := #[23, 23] }), type := 3, pos := "ref.go:93", after := #[{ on := 14, ground := Ground.data }, { on := 18, ground := Ground.data }, { on := 9, ground := Ground.chain }, { on := 9, ground := Ground.guard }], guard := (some (9, true)) }) (v := undef) rfl (by kernel_rfl) (by kernel_rfl) (by kernel_rfl) (fun _ _ _ h => h) (Or.inr ⟨rfl, rfl⟩) hHeld6 ?rest21
            try simp only [Act.put, List.setIfInBounds_toArray, List.set_cons_zero, List.set_cons_succ]
            refine wpAnyH_take (i := 20) (oi := { dst := (some 33), op := (Op.binOp BinOp.geq 3 (Operand.tmp 32) (Operand.const (Value.int IntKind.i64 0)) 3), type := 4, pos := "ref.go:93", after := #[{ on := 19, ground := Ground.data }, { on := 9, ground := Ground.guard }], guard := (some (9, true)) }) (v := undef) rfl (by kernel_rfl) (by kernel_rfl) (by kernel_rfl) (fun _ _ _ h => h) (Or.inr ⟨rfl, rfl⟩) hHeld6 ?rest22
            try simp only [Act.put, List.setIfInBounds_toArray, List.set_cons_zero, List.set_cons_succ]
            refine wpAnyH_take (i := 21) (oi := { dst := (some 34), op := (Op.pick (Operand.tmp 22) (Operand.tmp 33) (Operand.const (Value.bool false))), type := 4, pos := "ref.go:93", after := #[{ on := 9, ground := Ground.data }, { on := 20, ground := Ground.data }, { on := 6, ground := Ground.guard }], guard := (some (6, false)) }) (v := ?v23) rfl (by kernel_rfl) (by kernel_rfl) (by kernel_rfl) (fun _ _ _ h => h) (Or.inl ⟨rfl, ?hy23⟩) hHeld6 ?rest23
            case hy23 => (intro w hSw; (try dsimp only at hSw); go_simp <;> with_reducible rfl)
            try simp only [Act.put, List.setIfInBounds_toArray, List.set_cons_zero, List.set_cons_succ]
            refine wpAnyH_take (i := 22) (oi := { dst := (some 35), op := (Op.pick (Operand.tmp 19) (Operand.const (Value.bool true)) (Operand.tmp 34)), type := 4, pos := "ref.go:93", after := #[{ on := 6, ground := Ground.data }, { on := 21, ground := Ground.data }], guard := none }) (v := ?v24) rfl (by kernel_rfl) (by kernel_rfl) (by kernel_rfl) (fun _ _ _ h => h) (Or.inl ⟨rfl, ?hy24⟩) hHeld6 ?rest24
            case hy24 => (intro w hSw; (try dsimp only at hSw); go_simp <;> with_reducible rfl)
            try simp only [Act.put, List.setIfInBounds_toArray, List.set_cons_zero, List.set_cons_succ]
            refine wpAnyH_done (by kernel_rfl) ?_ _
            all_goals
              go_wp2_with fail
              go_roundw
              case rel => exact ⟨k + 1, by go_num, by omega, HX, hE.trans (by repeat (first | with_reducible exact Ext.refl _ | with_reducible assumption | with_reducible refine Ext.drew ?_ | with_reducible refine Ext.drewN ?_ _ | with_reducible refine Ext.alloc ?_ _))⟩
              case measure => simp [intOf]; omega
          · have hk1 : k - 1 < s.length := by omega
            have hd0 := (hc (k - 1) hk1).ext hE
            have HL := Lib.hid (step_low hck (by omega))
            have HS := Lib.hid (step_more hn.out)
            clear hc HNO HC
            generalize s[k]! = x at hd hck HL
            generalize s[k - 1]! = y at hd0 HL
            have MK := Lib.hid (fun V (e : Ext wr V) => mk_two hd0 hd e)
            have HO := Lib.hid hck
            have p1 : (1 : Int) ≤ (k : Int) := by omega
            have p2 : ((k : Int) - 1).toNat = k - 1 := by omega
            have p5 : IntKind.i64.wrap ((k : Int) - 1) = (k : Int) - 1 := IntWalk.i64_in _ (by omega)
            have p6 : ((k : Int) - 1) < (s.length : Int) := by omega
            have p3 : decide (0 < k) = true := decide_eq_true (by omega)
            have p4 : ∀ W, (binOp .gtr 3 (.int .i64 (k : Int)) (.int .i64 0)).run Tryz.prog W = .ok (.bool true) W := fun W => by go_simp
            clear hd hd0 hck
            by_cases ho : ordR y x < 0
            · have HX := Lib.hid (HS.out (by rw [HL.out]; exact decide_eq_true ho))
              have ho' : decide (ordR y x < 0) = true := decide_eq_true ho
              clear HL HS HT
              go_wp2_with fail
              refine wp_region_held_drew (S := (fun V => V.cell? ⟨b, off + (k - 1) * 6, none⟩ = some (.int .i64 y.kind) ∧ V.cell? ⟨b, off + (k - 1) * 6 + 1, none⟩ = some (.int .i64 y.n) ∧ V.cell? ⟨b, off + (k - 1) * 6 + 2, none⟩ = some (.string y.name) ∧ V.cell? ⟨b, off + (k - 1) * 6 + 3, none⟩ = some (.string y.key) ∧ V.cell? ⟨b, off + (k - 1) * 6 + 4, none⟩ = some (.string y.frm) ∧ V.cell? ⟨b, off + (k - 1) * 6 + 5, none⟩ = some (.string y.tov) ∧ V.cell? ⟨b, off + k * 6, none⟩ = some (.int .i64 x.kind) ∧ V.cell? ⟨b, off + k * 6 + 1, none⟩ = some (.int .i64 x.n) ∧ V.cell? ⟨b, off + k * 6 + 2, none⟩ = some (.string x.name) ∧ V.cell? ⟨b, off + k * 6 + 3, none⟩ = some (.string x.key) ∧ V.cell? ⟨b, off + k * 6 + 4, none⟩ = some (.string x.frm) ∧ V.cell? ⟨b, off + k * 6 + 5, none⟩ = some (.string x.tov) ∧ Ext wr V)) (by kernel_rfl) ?hs25 (fun hHeld => ?go25)
              case hs25 => (exact MK.out _ (by repeat (first | with_reducible exact Ext.refl _ | with_reducible assumption | with_reducible refine Ext.drew ?_ | with_reducible refine Ext.drewN ?_ _ | with_reducible refine Ext.alloc ?_ _)))
              refine wpAnyH_take (i := 0) (oi := { dst := (some 13), op := (Op.move (Operand.tmp 0)), type := 30, pos := "ref.go:93", after := #[], guard := none }) (v := ?v26) rfl (by kernel_rfl) (by kernel_rfl) (by kernel_rfl) (fun _ _ _ h => h) (Or.inl ⟨rfl, ?hy26⟩) hHeld ?rest26
              case hy26 => (intro w hSw; (try dsimp only at hSw); go_simp <;> with_reducible rfl)
              try simp only [Act.put, List.setIfInBounds_toArray, List.set_cons_zero, List.set_cons_succ]
              refine wpAnyH_take (i := 1) (oi := { dst := (some 14), op := (Op.move (Operand.tmp 3)), type := 3, pos := "ref.go:93", after := #[], guard := none }) (v := ?v27) rfl (by kernel_rfl) (by kernel_rfl) (by kernel_rfl) (fun _ _ _ h => h) (Or.inl ⟨rfl, ?hy27⟩) hHeld ?rest27
              case hy27 => (intro w hSw; (try dsimp only at hSw); go_simp <;> with_reducible rfl)
              try simp only [Act.put, List.setIfInBounds_toArray, List.set_cons_zero, List.set_cons_succ]
              refine wpAnyH_take (i := 2) (oi := { dst := (some 15), op := (Op.indexAddr 30 (Operand.tmp 13) (Operand.tmp 14)), type := 0, pos := "ref.go:93", after := #[{ on := 0, ground := Ground.data }, { on := 1, ground := Ground.data }], guard := none }) (v := ?v28) rfl (by kernel_rfl) (by kernel_rfl) (by kernel_rfl) (fun _ _ _ h => h) (Or.inl ⟨rfl, ?hy28⟩) hHeld ?rest28
              case hy28 => (intro w hSw; (try dsimp only at hSw); go_simp <;> with_reducible rfl)
              try simp only [Act.put, List.setIfInBounds_toArray, List.set_cons_zero, List.set_cons_succ]
              refine wpAnyH_take (i := 3) (oi := { dst := (some 16), op := (Op.load 23 (Operand.tmp 15)), type := 23, pos := "ref.go:93", after := #[{ on := 2, ground := Ground.data }], guard := none }) (v := ?v29) rfl (by kernel_rfl) (by kernel_rfl) (by kernel_rfl) (fun _ _ _ h => h) (Or.inl ⟨rfl, ?hy29⟩) hHeld ?rest29
              case hy29 => (intro w hSw; (try dsimp only at hSw); go_simp <;> with_reducible rfl)
              try simp only [Act.put, List.setIfInBounds_toArray, List.set_cons_zero, List.set_cons_succ]
              refine wpAnyH_ready (rs := [4]) (by kernel_rfl) (by simp) ?_
              refine AllReadyH.cons (o := { dst := (some 17), op := (Op.call { callee := (Callee.value (Operand.func 7)), args := #[(Operand.tmp 16)], argTypes := #[23] }), type := 24, pos := "ref.go:93", after := #[{ on := 3, ground := Ground.data }], guard := none }) rfl (fun K hK => ?step30x0) ?more30x0
              case more30x0 => exact AllReadyH.nil
              go_simp
              (go_at_call 7; refine (r9_Check x _).mono ?_; rintro e w' ⟨rfl, hb⟩; replace hb : Ext wr w' := Ext.trans (by repeat (first | with_reducible exact Ext.refl _ | with_reducible assumption | with_reducible refine Ext.drew ?_ | with_reducible refine Ext.drewN ?_ _ | with_reducible refine Ext.alloc ?_ _)) hb; rw [HO.out])
              refine hK.out _ _ ?hS30x0 (fun hHeld30 => ?rest30x0)
              case hS30x0 => ((try dsimp only); (exact MK.out _ (by repeat (first | with_reducible exact Ext.refl _ | with_reducible assumption | with_reducible refine Ext.drew ?_ | with_reducible refine Ext.drewN ?_ _ | with_reducible refine Ext.alloc ?_ _))))
              clear hK K
              clear hHeld
              try simp only [Act.put, List.setIfInBounds_toArray, List.set_cons_zero, List.set_cons_succ]
              refine wpAnyH_take (i := 5) (oi := { dst := (some 18), op := (Op.binOp BinOp.neq 24 (Operand.tmp 17) (Operand.const (Value.int IntKind.i64 0)) 24), type := 4, pos := "ref.go:93", after := #[{ on := 4, ground := Ground.data }], guard := none }) (v := ?v31) rfl (by kernel_rfl) (by kernel_rfl) (by kernel_rfl) (fun _ _ _ h => h) (Or.inl ⟨rfl, ?hy31⟩) hHeld30 ?rest31
              case hy31 => (intro w hSw; (try dsimp only at hSw); go_simp <;> with_reducible rfl)
              try simp only [Act.put, List.setIfInBounds_toArray, List.set_cons_zero, List.set_cons_succ]
              refine wpAnyH_take (i := 6) (oi := { dst := (some 19), op := (Op.move (Operand.tmp 18)), type := 4, pos := "ref.go:93", after := #[{ on := 5, ground := Ground.data }, { on := 4, ground := Ground.chain }], guard := none }) (v := ?v32) rfl (by kernel_rfl) (by kernel_rfl) (by kernel_rfl) (fun _ _ _ h => h) (Or.inl ⟨rfl, ?hy32⟩) hHeld30 ?rest32
              case hy32 => (intro w hSw; (try dsimp only at hSw); go_simp <;> with_reducible rfl)
              try simp only [Act.put, List.setIfInBounds_toArray, List.set_cons_zero, List.set_cons_succ]
              refine wpAnyH_take (i := 7) (oi := { dst := (some 20), op := (Op.move (Operand.tmp 3)), type := 3, pos := "ref.go:93", after := #[{ on := 6, ground := Ground.guard }], guard := (some (6, false)) }) (v := ?v33) rfl (by kernel_rfl) (by kernel_rfl) (by kernel_rfl) (fun _ _ _ h => h) (Or.inl ⟨rfl, ?hy33⟩) hHeld30 ?rest33
              case hy33 => (intro w hSw; (try dsimp only at hSw); go_simp <;> with_reducible rfl)
              try simp only [Act.put, List.setIfInBounds_toArray, List.set_cons_zero, List.set_cons_succ]
              refine wpAnyH_take (i := 8) (oi := { dst := (some 21), op := (Op.binOp BinOp.gtr 3 (Operand.tmp 20) (Operand.const (Value.int IntKind.i64 0)) 3), type := 4, pos := "ref.go:93", after := #[{ on := 7, ground := Ground.data }, { on := 6, ground := Ground.guard }], guard := (some (6, false)) }) (v := ?v34) rfl (by kernel_rfl) (by kernel_rfl) (by kernel_rfl) (fun _ _ _ h => h) (Or.inl ⟨rfl, ?hy34⟩) hHeld30 ?rest34
              case hy34 => (intro w hSw; (try dsimp only at hSw); go_simp <;> with_reducible rfl)
              try simp only [Act.put, List.setIfInBounds_toArray, List.set_cons_zero, List.set_cons_succ]
              refine wpAnyH_take (i := 9) (oi := { dst := (some 22), op := (Op.move (Operand.tmp 21)), type := 4, pos := "ref.go:93", after := #[{ on := 8, ground := Ground.data }, { on := 6, ground := Ground.chain }, { on := 6, ground := Ground.guard }], guard := (some (6, false)) }) (v := ?v35) rfl (by kernel_rfl) (by kernel_rfl) (by kernel_rfl) (fun _ _ _ h => h) (Or.inl ⟨rfl, ?hy35⟩) hHeld30 ?rest35
              case hy35 => (intro w hSw; (try dsimp only at hSw); go_simp <;> with_reducible rfl)
              try simp only [Act.put, List.setIfInBounds_toArray, List.set_cons_zero, List.set_cons_succ]
              refine wpAnyH_take (i := 10) (oi := { dst := (some 23), op := (Op.move (Operand.tmp 0)), type := 30, pos := "ref.go:93", after := #[{ on := 9, ground := Ground.guard }], guard := (some (9, true)) }) (v := ?v36) rfl (by kernel_rfl) (by kernel_rfl) (by kernel_rfl) (fun _ _ _ h => h) (Or.inl ⟨rfl, ?hy36⟩) hHeld30 ?rest36
              case hy36 => (intro w hSw; (try dsimp only at hSw); go_simp <;> with_reducible rfl)
              try simp only [Act.put, List.setIfInBounds_toArray, List.set_cons_zero, List.set_cons_succ]
              refine wpAnyH_take (i := 11) (oi := { dst := (some 24), op := (Op.move (Operand.tmp 3)), type := 3, pos := "ref.go:93", after := #[{ on := 9, ground := Ground.guard }], guard := (some (9, true)) }) (v := ?v37) rfl (by kernel_rfl) (by kernel_rfl) (by kernel_rfl) (fun _ _ _ h => h) (Or.inl ⟨rfl, ?hy37⟩) hHeld30 ?rest37
              case hy37 => (intro w hSw; (try dsimp only at hSw); go_simp <;> with_reducible rfl)
              try simp only [Act.put, List.setIfInBounds_toArray, List.set_cons_zero, List.set_cons_succ]
              refine wpAnyH_take (i := 12) (oi := { dst := (some 25), op := (Op.binOp BinOp.sub 3 (Operand.tmp 24) (Operand.const (Value.int IntKind.i64 1)) 3), type := 3, pos := "ref.go:93", after := #[{ on := 11, ground := Ground.data }, { on := 9, ground := Ground.guard }], guard := (some (9, true)) }) (v := ?v38) rfl (by kernel_rfl) (by kernel_rfl) (by kernel_rfl) (fun _ _ _ h => h) (Or.inl ⟨rfl, ?hy38⟩) hHeld30 ?rest38
              case hy38 => (intro w hSw; (try dsimp only at hSw); go_simp <;> with_reducible rfl)
              try simp only [Act.put, List.setIfInBounds_toArray, List.set_cons_zero, List.set_cons_succ]
              refine wpAnyH_take (i := 13) (oi := { dst := (some 26), op := (Op.indexAddr 30 (Operand.tmp 23) (Operand.tmp 25)), type := 0, pos := "ref.go:93", after := #[{ on := 10, ground := Ground.data }, { on := 12, ground := Ground.data }, { on := 9, ground := Ground.guard }], guard := (some (9, true)) }) (v := ?v39) rfl (by kernel_rfl) (by kernel_rfl) (by kernel_rfl) (fun _ _ _ h => h) (Or.inl ⟨rfl, ?hy39⟩) hHeld30 ?rest39
              case hy39 => (intro w hSw; (try dsimp only at hSw); go_simp <;> with_reducible rfl)
              try simp only [Act.put, List.setIfInBounds_toArray, List.set_cons_zero, List.set_cons_succ]
              refine wpAnyH_take (i := 14) (oi := { dst := (some 27), op := (Op.load 23 (Operand.tmp 26)), type := 23, pos := "ref.go:93", after := #[{ on := 13, ground := Ground.data }, { on := 9, ground := Ground.guard }], guard := (some (9, true)) }) (v := ?v40) rfl (by kernel_rfl) (by kernel_rfl) (by kernel_rfl) (fun _ _ _ h => h) (Or.inl ⟨rfl, ?hy40⟩) hHeld30 ?rest40
              case hy40 => (intro w hSw; (try dsimp only at hSw); go_simp <;> with_reducible rfl)
              try simp only [Act.put, List.setIfInBounds_toArray, List.set_cons_zero, List.set_cons_succ]
              refine wpAnyH_take (i := 15) (oi := { dst := (some 28), op := (Op.move (Operand.tmp 0)), type := 30, pos := "ref.go:93", after := #[{ on := 9, ground := Ground.guard }], guard := (some (9, true)) }) (v := ?v41) rfl (by kernel_rfl) (by kernel_rfl) (by kernel_rfl) (fun _ _ _ h => h) (Or.inl ⟨rfl, ?hy41⟩) hHeld30 ?rest41
              case hy41 => (intro w hSw; (try dsimp only at hSw); go_simp <;> with_reducible rfl)
              try simp only [Act.put, List.setIfInBounds_toArray, List.set_cons_zero, List.set_cons_succ]
              refine wpAnyH_take (i := 16) (oi := { dst := (some 29), op := (Op.move (Operand.tmp 3)), type := 3, pos := "ref.go:93", after := #[{ on := 9, ground := Ground.guard }], guard := (some (9, true)) }) (v := ?v42) rfl (by kernel_rfl) (by kernel_rfl) (by kernel_rfl) (fun _ _ _ h => h) (Or.inl ⟨rfl, ?hy42⟩) hHeld30 ?rest42
              case hy42 => (intro w hSw; (try dsimp only at hSw); go_simp <;> with_reducible rfl)
              try simp only [Act.put, List.setIfInBounds_toArray, List.set_cons_zero, List.set_cons_succ]
              refine wpAnyH_take (i := 17) (oi := { dst := (some 30), op := (Op.indexAddr 30 (Operand.tmp 28) (Operand.tmp 29)), type := 0, pos := "ref.go:93", after := #[{ on := 15, ground := Ground.data }, { on := 16, ground := Ground.data }, { on := 9, ground := Ground.guard }], guard := (some (9, true)) }) (v := ?v43) rfl (by kernel_rfl) (by kernel_rfl) (by kernel_rfl) (fun _ _ _ h => h) (Or.inl ⟨rfl, ?hy43⟩) hHeld30 ?rest43
              case hy43 => (intro w hSw; (try dsimp only at hSw); go_simp <;> with_reducible rfl)
              try simp only [Act.put, List.setIfInBounds_toArray, List.set_cons_zero, List.set_cons_succ]
              refine wpAnyH_take (i := 18) (oi := { dst := (some 31), op := (Op.load 23 (Operand.tmp 30)), type := 23, pos := "ref.go:93", after := #[{ on := 17, ground := Ground.data }, { on := 9, ground := Ground.guard }], guard := (some (9, true)) }) (v := ?v44) rfl (by kernel_rfl) (by kernel_rfl) (by kernel_rfl) (fun _ _ _ h => h) (Or.inl ⟨rfl, ?hy44⟩) hHeld30 ?rest44
              case hy44 => (intro w hSw; (try dsimp only at hSw); go_simp <;> with_reducible rfl)
              try simp only [Act.put, List.setIfInBounds_toArray, List.set_cons_zero, List.set_cons_succ]
              refine wpAnyH_ready (rs := [19]) (by kernel_rfl) (by simp) ?_
              refine AllReadyH.cons (o := { dst := (some 32), op := (Op.call { callee := (Callee.value (Operand.func 40)), args := #[(Operand.tmp 27), (Operand.tmp 31)], argTypes := #[23, 23] }), type := 3, pos := "ref.go:93", after := #[{ on := 14, ground := Ground.data }, { on := 18, ground := Ground.data }, { on := 9, ground := Ground.chain }, { on := 9, ground := Ground.guard }], guard := (some (9, true)) }) rfl (fun K hK => ?step45x0) ?more45x0
              case more45x0 => exact AllReadyH.nil
              go_simp
              (go_at_call 40; refine (r9_Order y x _).mono ?_; rintro e w' ⟨rfl, hb⟩; replace hb : Ext wr w' := Ext.trans (by repeat (first | with_reducible exact Ext.refl _ | with_reducible assumption | with_reducible refine Ext.drew ?_ | with_reducible refine Ext.drewN ?_ _ | with_reducible refine Ext.alloc ?_ _)) hb)
              refine hK.out _ _ ?hS45x0 (fun hHeld45 => ?rest45x0)
              case hS45x0 => ((try dsimp only); (exact MK.out _ (by repeat (first | with_reducible exact Ext.refl _ | with_reducible assumption | with_reducible refine Ext.drew ?_ | with_reducible refine Ext.drewN ?_ _ | with_reducible refine Ext.alloc ?_ _))))
              clear hK K
              clear hHeld30
              try simp only [Act.put, List.setIfInBounds_toArray, List.set_cons_zero, List.set_cons_succ]
              refine wpAnyH_take (i := 20) (oi := { dst := (some 33), op := (Op.binOp BinOp.geq 3 (Operand.tmp 32) (Operand.const (Value.int IntKind.i64 0)) 3), type := 4, pos := "ref.go:93", after := #[{ on := 19, ground := Ground.data }, { on := 9, ground := Ground.guard }], guard := (some (9, true)) }) (v := ?v46) rfl (by kernel_rfl) (by kernel_rfl) (by kernel_rfl) (fun _ _ _ h => h) (Or.inl ⟨rfl, ?hy46⟩) hHeld45 ?rest46
              case hy46 => (intro w hSw; (try dsimp only at hSw); go_simp <;> with_reducible rfl)
              try simp only [Act.put, List.setIfInBounds_toArray, List.set_cons_zero, List.set_cons_succ]
              refine wpAnyH_take (i := 21) (oi := { dst := (some 34), op := (Op.pick (Operand.tmp 22) (Operand.tmp 33) (Operand.const (Value.bool false))), type := 4, pos := "ref.go:93", after := #[{ on := 9, ground := Ground.data }, { on := 20, ground := Ground.data }, { on := 6, ground := Ground.guard }], guard := (some (6, false)) }) (v := ?v47) rfl (by kernel_rfl) (by kernel_rfl) (by kernel_rfl) (fun _ _ _ h => h) (Or.inl ⟨rfl, ?hy47⟩) hHeld45 ?rest47
              case hy47 => (intro w hSw; (try dsimp only at hSw); go_simp <;> with_reducible rfl)
              try simp only [Act.put, List.setIfInBounds_toArray, List.set_cons_zero, List.set_cons_succ]
              refine wpAnyH_take (i := 22) (oi := { dst := (some 35), op := (Op.pick (Operand.tmp 19) (Operand.const (Value.bool true)) (Operand.tmp 34)), type := 4, pos := "ref.go:93", after := #[{ on := 6, ground := Ground.data }, { on := 21, ground := Ground.data }], guard := none }) (v := ?v48) rfl (by kernel_rfl) (by kernel_rfl) (by kernel_rfl) (fun _ _ _ h => h) (Or.inl ⟨rfl, ?hy48⟩) hHeld45 ?rest48
              case hy48 => (intro w hSw; (try dsimp only at hSw); go_simp <;> with_reducible rfl)
              try simp only [Act.put, List.setIfInBounds_toArray, List.set_cons_zero, List.set_cons_succ]
              refine wpAnyH_done (by kernel_rfl) ?_ _
              all_goals
                go_wp2_with fail
                go_roundw
                case rel => exact ⟨k + 1, by go_num, by omega, HX, hE.trans (by repeat (first | with_reducible exact Ext.refl _ | with_reducible assumption | with_reducible refine Ext.drew ?_ | with_reducible refine Ext.drewN ?_ _ | with_reducible refine Ext.alloc ?_ _))⟩
                case measure => simp [intOf]; omega
            · have HX := Lib.hid (HT.out (by rw [HL.out]; exact decide_eq_false ho))
              have ho' : decide (ordR y x < 0) = false := decide_eq_false ho
              clear HL HS HT
              go_wp2_with fail
              refine wp_region_held_drew (S := (fun V => V.cell? ⟨b, off + (k - 1) * 6, none⟩ = some (.int .i64 y.kind) ∧ V.cell? ⟨b, off + (k - 1) * 6 + 1, none⟩ = some (.int .i64 y.n) ∧ V.cell? ⟨b, off + (k - 1) * 6 + 2, none⟩ = some (.string y.name) ∧ V.cell? ⟨b, off + (k - 1) * 6 + 3, none⟩ = some (.string y.key) ∧ V.cell? ⟨b, off + (k - 1) * 6 + 4, none⟩ = some (.string y.frm) ∧ V.cell? ⟨b, off + (k - 1) * 6 + 5, none⟩ = some (.string y.tov) ∧ V.cell? ⟨b, off + k * 6, none⟩ = some (.int .i64 x.kind) ∧ V.cell? ⟨b, off + k * 6 + 1, none⟩ = some (.int .i64 x.n) ∧ V.cell? ⟨b, off + k * 6 + 2, none⟩ = some (.string x.name) ∧ V.cell? ⟨b, off + k * 6 + 3, none⟩ = some (.string x.key) ∧ V.cell? ⟨b, off + k * 6 + 4, none⟩ = some (.string x.frm) ∧ V.cell? ⟨b, off + k * 6 + 5, none⟩ = some (.string x.tov) ∧ Ext wr V)) (by kernel_rfl) ?hs49 (fun hHeld => ?go49)
              case hs49 => (exact MK.out _ (by repeat (first | with_reducible exact Ext.refl _ | with_reducible assumption | with_reducible refine Ext.drew ?_ | with_reducible refine Ext.drewN ?_ _ | with_reducible refine Ext.alloc ?_ _)))
              refine wpAnyH_take (i := 0) (oi := { dst := (some 13), op := (Op.move (Operand.tmp 0)), type := 30, pos := "ref.go:93", after := #[], guard := none }) (v := ?v50) rfl (by kernel_rfl) (by kernel_rfl) (by kernel_rfl) (fun _ _ _ h => h) (Or.inl ⟨rfl, ?hy50⟩) hHeld ?rest50
              case hy50 => (intro w hSw; (try dsimp only at hSw); go_simp <;> with_reducible rfl)
              try simp only [Act.put, List.setIfInBounds_toArray, List.set_cons_zero, List.set_cons_succ]
              refine wpAnyH_take (i := 1) (oi := { dst := (some 14), op := (Op.move (Operand.tmp 3)), type := 3, pos := "ref.go:93", after := #[], guard := none }) (v := ?v51) rfl (by kernel_rfl) (by kernel_rfl) (by kernel_rfl) (fun _ _ _ h => h) (Or.inl ⟨rfl, ?hy51⟩) hHeld ?rest51
              case hy51 => (intro w hSw; (try dsimp only at hSw); go_simp <;> with_reducible rfl)
              try simp only [Act.put, List.setIfInBounds_toArray, List.set_cons_zero, List.set_cons_succ]
              refine wpAnyH_take (i := 2) (oi := { dst := (some 15), op := (Op.indexAddr 30 (Operand.tmp 13) (Operand.tmp 14)), type := 0, pos := "ref.go:93", after := #[{ on := 0, ground := Ground.data }, { on := 1, ground := Ground.data }], guard := none }) (v := ?v52) rfl (by kernel_rfl) (by kernel_rfl) (by kernel_rfl) (fun _ _ _ h => h) (Or.inl ⟨rfl, ?hy52⟩) hHeld ?rest52
              case hy52 => (intro w hSw; (try dsimp only at hSw); go_simp <;> with_reducible rfl)
              try simp only [Act.put, List.setIfInBounds_toArray, List.set_cons_zero, List.set_cons_succ]
              refine wpAnyH_take (i := 3) (oi := { dst := (some 16), op := (Op.load 23 (Operand.tmp 15)), type := 23, pos := "ref.go:93", after := #[{ on := 2, ground := Ground.data }], guard := none }) (v := ?v53) rfl (by kernel_rfl) (by kernel_rfl) (by kernel_rfl) (fun _ _ _ h => h) (Or.inl ⟨rfl, ?hy53⟩) hHeld ?rest53
              case hy53 => (intro w hSw; (try dsimp only at hSw); go_simp <;> with_reducible rfl)
              try simp only [Act.put, List.setIfInBounds_toArray, List.set_cons_zero, List.set_cons_succ]
              refine wpAnyH_ready (rs := [4]) (by kernel_rfl) (by simp) ?_
              refine AllReadyH.cons (o := { dst := (some 17), op := (Op.call { callee := (Callee.value (Operand.func 7)), args := #[(Operand.tmp 16)], argTypes := #[23] }), type := 24, pos := "ref.go:93", after := #[{ on := 3, ground := Ground.data }], guard := none }) rfl (fun K hK => ?step54x0) ?more54x0
              case more54x0 => exact AllReadyH.nil
              go_simp
              (go_at_call 7; refine (r9_Check x _).mono ?_; rintro e w' ⟨rfl, hb⟩; replace hb : Ext wr w' := Ext.trans (by repeat (first | with_reducible exact Ext.refl _ | with_reducible assumption | with_reducible refine Ext.drew ?_ | with_reducible refine Ext.drewN ?_ _ | with_reducible refine Ext.alloc ?_ _)) hb; rw [HO.out])
              refine hK.out _ _ ?hS54x0 (fun hHeld54 => ?rest54x0)
              case hS54x0 => ((try dsimp only); (exact MK.out _ (by repeat (first | with_reducible exact Ext.refl _ | with_reducible assumption | with_reducible refine Ext.drew ?_ | with_reducible refine Ext.drewN ?_ _ | with_reducible refine Ext.alloc ?_ _))))
              clear hK K
              clear hHeld
              try simp only [Act.put, List.setIfInBounds_toArray, List.set_cons_zero, List.set_cons_succ]
              refine wpAnyH_take (i := 5) (oi := { dst := (some 18), op := (Op.binOp BinOp.neq 24 (Operand.tmp 17) (Operand.const (Value.int IntKind.i64 0)) 24), type := 4, pos := "ref.go:93", after := #[{ on := 4, ground := Ground.data }], guard := none }) (v := ?v55) rfl (by kernel_rfl) (by kernel_rfl) (by kernel_rfl) (fun _ _ _ h => h) (Or.inl ⟨rfl, ?hy55⟩) hHeld54 ?rest55
              case hy55 => (intro w hSw; (try dsimp only at hSw); go_simp <;> with_reducible rfl)
              try simp only [Act.put, List.setIfInBounds_toArray, List.set_cons_zero, List.set_cons_succ]
              refine wpAnyH_take (i := 6) (oi := { dst := (some 19), op := (Op.move (Operand.tmp 18)), type := 4, pos := "ref.go:93", after := #[{ on := 5, ground := Ground.data }, { on := 4, ground := Ground.chain }], guard := none }) (v := ?v56) rfl (by kernel_rfl) (by kernel_rfl) (by kernel_rfl) (fun _ _ _ h => h) (Or.inl ⟨rfl, ?hy56⟩) hHeld54 ?rest56
              case hy56 => (intro w hSw; (try dsimp only at hSw); go_simp <;> with_reducible rfl)
              try simp only [Act.put, List.setIfInBounds_toArray, List.set_cons_zero, List.set_cons_succ]
              refine wpAnyH_take (i := 7) (oi := { dst := (some 20), op := (Op.move (Operand.tmp 3)), type := 3, pos := "ref.go:93", after := #[{ on := 6, ground := Ground.guard }], guard := (some (6, false)) }) (v := ?v57) rfl (by kernel_rfl) (by kernel_rfl) (by kernel_rfl) (fun _ _ _ h => h) (Or.inl ⟨rfl, ?hy57⟩) hHeld54 ?rest57
              case hy57 => (intro w hSw; (try dsimp only at hSw); go_simp <;> with_reducible rfl)
              try simp only [Act.put, List.setIfInBounds_toArray, List.set_cons_zero, List.set_cons_succ]
              refine wpAnyH_take (i := 8) (oi := { dst := (some 21), op := (Op.binOp BinOp.gtr 3 (Operand.tmp 20) (Operand.const (Value.int IntKind.i64 0)) 3), type := 4, pos := "ref.go:93", after := #[{ on := 7, ground := Ground.data }, { on := 6, ground := Ground.guard }], guard := (some (6, false)) }) (v := ?v58) rfl (by kernel_rfl) (by kernel_rfl) (by kernel_rfl) (fun _ _ _ h => h) (Or.inl ⟨rfl, ?hy58⟩) hHeld54 ?rest58
              case hy58 => (intro w hSw; (try dsimp only at hSw); go_simp <;> with_reducible rfl)
              try simp only [Act.put, List.setIfInBounds_toArray, List.set_cons_zero, List.set_cons_succ]
              refine wpAnyH_take (i := 9) (oi := { dst := (some 22), op := (Op.move (Operand.tmp 21)), type := 4, pos := "ref.go:93", after := #[{ on := 8, ground := Ground.data }, { on := 6, ground := Ground.chain }, { on := 6, ground := Ground.guard }], guard := (some (6, false)) }) (v := ?v59) rfl (by kernel_rfl) (by kernel_rfl) (by kernel_rfl) (fun _ _ _ h => h) (Or.inl ⟨rfl, ?hy59⟩) hHeld54 ?rest59
              case hy59 => (intro w hSw; (try dsimp only at hSw); go_simp <;> with_reducible rfl)
              try simp only [Act.put, List.setIfInBounds_toArray, List.set_cons_zero, List.set_cons_succ]
              refine wpAnyH_take (i := 10) (oi := { dst := (some 23), op := (Op.move (Operand.tmp 0)), type := 30, pos := "ref.go:93", after := #[{ on := 9, ground := Ground.guard }], guard := (some (9, true)) }) (v := ?v60) rfl (by kernel_rfl) (by kernel_rfl) (by kernel_rfl) (fun _ _ _ h => h) (Or.inl ⟨rfl, ?hy60⟩) hHeld54 ?rest60
              case hy60 => (intro w hSw; (try dsimp only at hSw); go_simp <;> with_reducible rfl)
              try simp only [Act.put, List.setIfInBounds_toArray, List.set_cons_zero, List.set_cons_succ]
              refine wpAnyH_take (i := 11) (oi := { dst := (some 24), op := (Op.move (Operand.tmp 3)), type := 3, pos := "ref.go:93", after := #[{ on := 9, ground := Ground.guard }], guard := (some (9, true)) }) (v := ?v61) rfl (by kernel_rfl) (by kernel_rfl) (by kernel_rfl) (fun _ _ _ h => h) (Or.inl ⟨rfl, ?hy61⟩) hHeld54 ?rest61
              case hy61 => (intro w hSw; (try dsimp only at hSw); go_simp <;> with_reducible rfl)
              try simp only [Act.put, List.setIfInBounds_toArray, List.set_cons_zero, List.set_cons_succ]
              refine wpAnyH_take (i := 12) (oi := { dst := (some 25), op := (Op.binOp BinOp.sub 3 (Operand.tmp 24) (Operand.const (Value.int IntKind.i64 1)) 3), type := 3, pos := "ref.go:93", after := #[{ on := 11, ground := Ground.data }, { on := 9, ground := Ground.guard }], guard := (some (9, true)) }) (v := ?v62) rfl (by kernel_rfl) (by kernel_rfl) (by kernel_rfl) (fun _ _ _ h => h) (Or.inl ⟨rfl, ?hy62⟩) hHeld54 ?rest62
              case hy62 => (intro w hSw; (try dsimp only at hSw); go_simp <;> with_reducible rfl)
              try simp only [Act.put, List.setIfInBounds_toArray, List.set_cons_zero, List.set_cons_succ]
              refine wpAnyH_take (i := 13) (oi := { dst := (some 26), op := (Op.indexAddr 30 (Operand.tmp 23) (Operand.tmp 25)), type := 0, pos := "ref.go:93", after := #[{ on := 10, ground := Ground.data }, { on := 12, ground := Ground.data }, { on := 9, ground := Ground.guard }], guard := (some (9, true)) }) (v := ?v63) rfl (by kernel_rfl) (by kernel_rfl) (by kernel_rfl) (fun _ _ _ h => h) (Or.inl ⟨rfl, ?hy63⟩) hHeld54 ?rest63
              case hy63 => (intro w hSw; (try dsimp only at hSw); go_simp <;> with_reducible rfl)
              try simp only [Act.put, List.setIfInBounds_toArray, List.set_cons_zero, List.set_cons_succ]
              refine wpAnyH_take (i := 14) (oi := { dst := (some 27), op := (Op.load 23 (Operand.tmp 26)), type := 23, pos := "ref.go:93", after := #[{ on := 13, ground := Ground.data }, { on := 9, ground := Ground.guard }], guard := (some (9, true)) }) (v := ?v64) rfl (by kernel_rfl) (by kernel_rfl) (by kernel_rfl) (fun _ _ _ h => h) (Or.inl ⟨rfl, ?hy64⟩) hHeld54 ?rest64
              case hy64 => (intro w hSw; (try dsimp only at hSw); go_simp <;> with_reducible rfl)
              try simp only [Act.put, List.setIfInBounds_toArray, List.set_cons_zero, List.set_cons_succ]
              refine wpAnyH_take (i := 15) (oi := { dst := (some 28), op := (Op.move (Operand.tmp 0)), type := 30, pos := "ref.go:93", after := #[{ on := 9, ground := Ground.guard }], guard := (some (9, true)) }) (v := ?v65) rfl (by kernel_rfl) (by kernel_rfl) (by kernel_rfl) (fun _ _ _ h => h) (Or.inl ⟨rfl, ?hy65⟩) hHeld54 ?rest65
              case hy65 => (intro w hSw; (try dsimp only at hSw); go_simp <;> with_reducible rfl)
              try simp only [Act.put, List.setIfInBounds_toArray, List.set_cons_zero, List.set_cons_succ]
              refine wpAnyH_take (i := 16) (oi := { dst := (some 29), op := (Op.move (Operand.tmp 3)), type := 3, pos := "ref.go:93", after := #[{ on := 9, ground := Ground.guard }], guard := (some (9, true)) }) (v := ?v66) rfl (by kernel_rfl) (by kernel_rfl) (by kernel_rfl) (fun _ _ _ h => h) (Or.inl ⟨rfl, ?hy66⟩) hHeld54 ?rest66
              case hy66 => (intro w hSw; (try dsimp only at hSw); go_simp <;> with_reducible rfl)
              try simp only [Act.put, List.setIfInBounds_toArray, List.set_cons_zero, List.set_cons_succ]
              refine wpAnyH_take (i := 17) (oi := { dst := (some 30), op := (Op.indexAddr 30 (Operand.tmp 28) (Operand.tmp 29)), type := 0, pos := "ref.go:93", after := #[{ on := 15, ground := Ground.data }, { on := 16, ground := Ground.data }, { on := 9, ground := Ground.guard }], guard := (some (9, true)) }) (v := ?v67) rfl (by kernel_rfl) (by kernel_rfl) (by kernel_rfl) (fun _ _ _ h => h) (Or.inl ⟨rfl, ?hy67⟩) hHeld54 ?rest67
              case hy67 => (intro w hSw; (try dsimp only at hSw); go_simp <;> with_reducible rfl)
              try simp only [Act.put, List.setIfInBounds_toArray, List.set_cons_zero, List.set_cons_succ]
              refine wpAnyH_take (i := 18) (oi := { dst := (some 31), op := (Op.load 23 (Operand.tmp 30)), type := 23, pos := "ref.go:93", after := #[{ on := 17, ground := Ground.data }, { on := 9, ground := Ground.guard }], guard := (some (9, true)) }) (v := ?v68) rfl (by kernel_rfl) (by kernel_rfl) (by kernel_rfl) (fun _ _ _ h => h) (Or.inl ⟨rfl, ?hy68⟩) hHeld54 ?rest68
              case hy68 => (intro w hSw; (try dsimp only at hSw); go_simp <;> with_reducible rfl)
              try simp only [Act.put, List.setIfInBounds_toArray, List.set_cons_zero, List.set_cons_succ]
              refine wpAnyH_ready (rs := [19]) (by kernel_rfl) (by simp) ?_
              refine AllReadyH.cons (o := { dst := (some 32), op := (Op.call { callee := (Callee.value (Operand.func 40)), args := #[(Operand.tmp 27), (Operand.tmp 31)], argTypes := #[23, 23] }), type := 3, pos := "ref.go:93", after := #[{ on := 14, ground := Ground.data }, { on := 18, ground := Ground.data }, { on := 9, ground := Ground.chain }, { on := 9, ground := Ground.guard }], guard := (some (9, true)) }) rfl (fun K hK => ?step69x0) ?more69x0
              case more69x0 => exact AllReadyH.nil
              go_simp
              (go_at_call 40; refine (r9_Order y x _).mono ?_; rintro e w' ⟨rfl, hb⟩; replace hb : Ext wr w' := Ext.trans (by repeat (first | with_reducible exact Ext.refl _ | with_reducible assumption | with_reducible refine Ext.drew ?_ | with_reducible refine Ext.drewN ?_ _ | with_reducible refine Ext.alloc ?_ _)) hb)
              refine hK.out _ _ ?hS69x0 (fun hHeld69 => ?rest69x0)
              case hS69x0 => ((try dsimp only); (exact MK.out _ (by repeat (first | with_reducible exact Ext.refl _ | with_reducible assumption | with_reducible refine Ext.drew ?_ | with_reducible refine Ext.drewN ?_ _ | with_reducible refine Ext.alloc ?_ _))))
              clear hK K
              clear hHeld54
              try simp only [Act.put, List.setIfInBounds_toArray, List.set_cons_zero, List.set_cons_succ]
              refine wpAnyH_take (i := 20) (oi := { dst := (some 33), op := (Op.binOp BinOp.geq 3 (Operand.tmp 32) (Operand.const (Value.int IntKind.i64 0)) 3), type := 4, pos := "ref.go:93", after := #[{ on := 19, ground := Ground.data }, { on := 9, ground := Ground.guard }], guard := (some (9, true)) }) (v := ?v70) rfl (by kernel_rfl) (by kernel_rfl) (by kernel_rfl) (fun _ _ _ h => h) (Or.inl ⟨rfl, ?hy70⟩) hHeld69 ?rest70
              case hy70 => (intro w hSw; (try dsimp only at hSw); go_simp <;> with_reducible rfl)
              try simp only [Act.put, List.setIfInBounds_toArray, List.set_cons_zero, List.set_cons_succ]
              refine wpAnyH_take (i := 21) (oi := { dst := (some 34), op := (Op.pick (Operand.tmp 22) (Operand.tmp 33) (Operand.const (Value.bool false))), type := 4, pos := "ref.go:93", after := #[{ on := 9, ground := Ground.data }, { on := 20, ground := Ground.data }, { on := 6, ground := Ground.guard }], guard := (some (6, false)) }) (v := ?v71) rfl (by kernel_rfl) (by kernel_rfl) (by kernel_rfl) (fun _ _ _ h => h) (Or.inl ⟨rfl, ?hy71⟩) hHeld69 ?rest71
              case hy71 => (intro w hSw; (try dsimp only at hSw); go_simp <;> with_reducible rfl)
              try simp only [Act.put, List.setIfInBounds_toArray, List.set_cons_zero, List.set_cons_succ]
              refine wpAnyH_take (i := 22) (oi := { dst := (some 35), op := (Op.pick (Operand.tmp 19) (Operand.const (Value.bool true)) (Operand.tmp 34)), type := 4, pos := "ref.go:93", after := #[{ on := 6, ground := Ground.data }, { on := 21, ground := Ground.data }], guard := none }) (v := ?v72) rfl (by kernel_rfl) (by kernel_rfl) (by kernel_rfl) (fun _ _ _ h => h) (Or.inl ⟨rfl, ?hy72⟩) hHeld69 ?rest72
              case hy72 => (intro w hSw; (try dsimp only at hSw); go_simp <;> with_reducible rfl)
              try simp only [Act.put, List.setIfInBounds_toArray, List.set_cons_zero, List.set_cons_succ]
              refine wpAnyH_done (by kernel_rfl) ?_ _
              all_goals
                go_wp2_with fail
                go_ret
                exact ⟨ret_bool HX.out.symm, hE.trans (by repeat (first | with_reducible exact Ext.refl _ | with_reducible assumption | with_reducible refine Ext.drew ?_ | with_reducible refine Ext.drewN ?_ _ | with_reducible refine Ext.alloc ?_ _))⟩
        · have HX := Lib.hid (HT.out (HC.out hck))
          clear hc HNO HT HC
          generalize s[k]! = x at hd hck
          have MK := Lib.hid (fun V (e : Ext wr V) => mk_one hd e)
          have hck' : (chkR x != 0) = true := by simpa using hck
          clear hd hck
          go_wp2_with fail
          refine wp_region_held_drew (S := (fun V => V.cell? ⟨b, off + k * 6, none⟩ = some (.int .i64 x.kind) ∧ V.cell? ⟨b, off + k * 6 + 1, none⟩ = some (.int .i64 x.n) ∧ V.cell? ⟨b, off + k * 6 + 2, none⟩ = some (.string x.name) ∧ V.cell? ⟨b, off + k * 6 + 3, none⟩ = some (.string x.key) ∧ V.cell? ⟨b, off + k * 6 + 4, none⟩ = some (.string x.frm) ∧ V.cell? ⟨b, off + k * 6 + 5, none⟩ = some (.string x.tov) ∧ Ext wr V)) (by kernel_rfl) ?hs73 (fun hHeld => ?go73)
          case hs73 => (exact MK.out _ (by repeat (first | with_reducible exact Ext.refl _ | with_reducible assumption | with_reducible refine Ext.drew ?_ | with_reducible refine Ext.drewN ?_ _ | with_reducible refine Ext.alloc ?_ _)))
          refine wpAnyH_take (i := 0) (oi := { dst := (some 13), op := (Op.move (Operand.tmp 0)), type := 30, pos := "ref.go:93", after := #[], guard := none }) (v := ?v74) rfl (by kernel_rfl) (by kernel_rfl) (by kernel_rfl) (fun _ _ _ h => h) (Or.inl ⟨rfl, ?hy74⟩) hHeld ?rest74
          case hy74 => (intro w hSw; (try dsimp only at hSw); go_simp <;> with_reducible rfl)
          try simp only [Act.put, List.setIfInBounds_toArray, List.set_cons_zero, List.set_cons_succ]
          refine wpAnyH_take (i := 1) (oi := { dst := (some 14), op := (Op.move (Operand.tmp 3)), type := 3, pos := "ref.go:93", after := #[], guard := none }) (v := ?v75) rfl (by kernel_rfl) (by kernel_rfl) (by kernel_rfl) (fun _ _ _ h => h) (Or.inl ⟨rfl, ?hy75⟩) hHeld ?rest75
          case hy75 => (intro w hSw; (try dsimp only at hSw); go_simp <;> with_reducible rfl)
          try simp only [Act.put, List.setIfInBounds_toArray, List.set_cons_zero, List.set_cons_succ]
          refine wpAnyH_take (i := 2) (oi := { dst := (some 15), op := (Op.indexAddr 30 (Operand.tmp 13) (Operand.tmp 14)), type := 0, pos := "ref.go:93", after := #[{ on := 0, ground := Ground.data }, { on := 1, ground := Ground.data }], guard := none }) (v := ?v76) rfl (by kernel_rfl) (by kernel_rfl) (by kernel_rfl) (fun _ _ _ h => h) (Or.inl ⟨rfl, ?hy76⟩) hHeld ?rest76
          case hy76 => (intro w hSw; (try dsimp only at hSw); go_simp <;> with_reducible rfl)
          try simp only [Act.put, List.setIfInBounds_toArray, List.set_cons_zero, List.set_cons_succ]
          refine wpAnyH_take (i := 3) (oi := { dst := (some 16), op := (Op.load 23 (Operand.tmp 15)), type := 23, pos := "ref.go:93", after := #[{ on := 2, ground := Ground.data }], guard := none }) (v := ?v77) rfl (by kernel_rfl) (by kernel_rfl) (by kernel_rfl) (fun _ _ _ h => h) (Or.inl ⟨rfl, ?hy77⟩) hHeld ?rest77
          case hy77 => (intro w hSw; (try dsimp only at hSw); go_simp <;> with_reducible rfl)
          try simp only [Act.put, List.setIfInBounds_toArray, List.set_cons_zero, List.set_cons_succ]
          refine wpAnyH_ready (rs := [4]) (by kernel_rfl) (by simp) ?_
          refine AllReadyH.cons (o := { dst := (some 17), op := (Op.call { callee := (Callee.value (Operand.func 7)), args := #[(Operand.tmp 16)], argTypes := #[23] }), type := 24, pos := "ref.go:93", after := #[{ on := 3, ground := Ground.data }], guard := none }) rfl (fun K hK => ?step78x0) ?more78x0
          case more78x0 => exact AllReadyH.nil
          go_simp
          (go_at_call 7; refine (r9_Check x _).mono ?_; rintro e w' ⟨rfl, hb⟩; replace hb : Ext wr w' := Ext.trans (by repeat (first | with_reducible exact Ext.refl _ | with_reducible assumption | with_reducible refine Ext.drew ?_ | with_reducible refine Ext.drewN ?_ _ | with_reducible refine Ext.alloc ?_ _)) hb)
          refine hK.out _ _ ?hS78x0 (fun hHeld78 => ?rest78x0)
          case hS78x0 => ((try dsimp only); (exact MK.out _ (by repeat (first | with_reducible exact Ext.refl _ | with_reducible assumption | with_reducible refine Ext.drew ?_ | with_reducible refine Ext.drewN ?_ _ | with_reducible refine Ext.alloc ?_ _))))
          clear hK K
          clear hHeld
          try simp only [Act.put, List.setIfInBounds_toArray, List.set_cons_zero, List.set_cons_succ]
          refine wpAnyH_take (i := 5) (oi := { dst := (some 18), op := (Op.binOp BinOp.neq 24 (Operand.tmp 17) (Operand.const (Value.int IntKind.i64 0)) 24), type := 4, pos := "ref.go:93", after := #[{ on := 4, ground := Ground.data }], guard := none }) (v := ?v79) rfl (by kernel_rfl) (by kernel_rfl) (by kernel_rfl) (fun _ _ _ h => h) (Or.inl ⟨rfl, ?hy79⟩) hHeld78 ?rest79
          case hy79 => (intro w hSw; (try dsimp only at hSw); go_simp <;> with_reducible rfl)
          try simp only [Act.put, List.setIfInBounds_toArray, List.set_cons_zero, List.set_cons_succ]
          refine wpAnyH_take (i := 6) (oi := { dst := (some 19), op := (Op.move (Operand.tmp 18)), type := 4, pos := "ref.go:93", after := #[{ on := 5, ground := Ground.data }, { on := 4, ground := Ground.chain }], guard := none }) (v := ?v80) rfl (by kernel_rfl) (by kernel_rfl) (by kernel_rfl) (fun _ _ _ h => h) (Or.inl ⟨rfl, ?hy80⟩) hHeld78 ?rest80
          case hy80 => (intro w hSw; (try dsimp only at hSw); go_simp <;> with_reducible rfl)
          try simp only [Act.put, List.setIfInBounds_toArray, List.set_cons_zero, List.set_cons_succ]
          refine wpAnyH_take (i := 7) (oi := { dst := (some 20), op := (Op.move (Operand.tmp 3)), type := 3, pos := "ref.go:93", after := #[{ on := 6, ground := Ground.guard }], guard := (some (6, false)) }) (v := undef) rfl (by kernel_rfl) (by kernel_rfl) (by kernel_rfl) (fun _ _ _ h => h) (Or.inr ⟨rfl, rfl⟩) hHeld78 ?rest81
          try simp only [Act.put, List.setIfInBounds_toArray, List.set_cons_zero, List.set_cons_succ]
          refine wpAnyH_take (i := 8) (oi := { dst := (some 21), op := (Op.binOp BinOp.gtr 3 (Operand.tmp 20) (Operand.const (Value.int IntKind.i64 0)) 3), type := 4, pos := "ref.go:93", after := #[{ on := 7, ground := Ground.data }, { on := 6, ground := Ground.guard }], guard := (some (6, false)) }) (v := undef) rfl (by kernel_rfl) (by kernel_rfl) (by kernel_rfl) (fun _ _ _ h => h) (Or.inr ⟨rfl, rfl⟩) hHeld78 ?rest82
          try simp only [Act.put, List.setIfInBounds_toArray, List.set_cons_zero, List.set_cons_succ]
          refine wpAnyH_take (i := 9) (oi := { dst := (some 22), op := (Op.move (Operand.tmp 21)), type := 4, pos := "ref.go:93", after := #[{ on := 8, ground := Ground.data }, { on := 6, ground := Ground.chain }, { on := 6, ground := Ground.guard }], guard := (some (6, false)) }) (v := undef) rfl (by kernel_rfl) (by kernel_rfl) (by kernel_rfl) (fun _ _ _ h => h) (Or.inr ⟨rfl, rfl⟩) hHeld78 ?rest83
          try simp only [Act.put, List.setIfInBounds_toArray, List.set_cons_zero, List.set_cons_succ]
          refine wpAnyH_take (i := 10) (oi := { dst := (some 23), op := (Op.move (Operand.tmp 0)), type := 30, pos := "ref.go:93", after := #[{ on := 9, ground := Ground.guard }], guard := (some (9, true)) }) (v := undef) rfl (by kernel_rfl) (by kernel_rfl) (by kernel_rfl) (fun _ _ _ h => h) (Or.inr ⟨rfl, rfl⟩) hHeld78 ?rest84
          try simp only [Act.put, List.setIfInBounds_toArray, List.set_cons_zero, List.set_cons_succ]
          refine wpAnyH_take (i := 11) (oi := { dst := (some 24), op := (Op.move (Operand.tmp 3)), type := 3, pos := "ref.go:93", after := #[{ on := 9, ground := Ground.guard }], guard := (some (9, true)) }) (v := undef) rfl (by kernel_rfl) (by kernel_rfl) (by kernel_rfl) (fun _ _ _ h => h) (Or.inr ⟨rfl, rfl⟩) hHeld78 ?rest85
          try simp only [Act.put, List.setIfInBounds_toArray, List.set_cons_zero, List.set_cons_succ]
          refine wpAnyH_take (i := 12) (oi := { dst := (some 25), op := (Op.binOp BinOp.sub 3 (Operand.tmp 24) (Operand.const (Value.int IntKind.i64 1)) 3), type := 3, pos := "ref.go:93", after := #[{ on := 11, ground := Ground.data }, { on := 9, ground := Ground.guard }], guard := (some (9, true)) }) (v := undef) rfl (by kernel_rfl) (by kernel_rfl) (by kernel_rfl) (fun _ _ _ h => h) (Or.inr ⟨rfl, rfl⟩) hHeld78 ?rest86
          try simp only [Act.put, List.setIfInBounds_toArray, List.set_cons_zero, List.set_cons_succ]
          refine wpAnyH_take (i := 13) (oi := { dst := (some 26), op := (Op.indexAddr 30 (Operand.tmp 23) (Operand.tmp 25)), type := 0, pos := "ref.go:93", after := #[{ on := 10, ground := Ground.data }, { on := 12, ground := Ground.data }, { on := 9, ground := Ground.guard }], guard := (some (9, true)) }) (v := undef) rfl (by kernel_rfl) (by kernel_rfl) (by kernel_rfl) (fun _ _ _ h => h) (Or.inr ⟨rfl, rfl⟩) hHeld78 ?rest87
          try simp only [Act.put, List.setIfInBounds_toArray, List.set_cons_zero, List.set_cons_succ]
          refine wpAnyH_take (i := 14) (oi := { dst := (some 27), op := (Op.load 23 (Operand.tmp 26)), type := 23, pos := "ref.go:93", after := #[{ on := 13, ground := Ground.data }, { on := 9, ground := Ground.guard }], guard := (some (9, true)) }) (v := undef) rfl (by kernel_rfl) (by kernel_rfl) (by kernel_rfl) (fun _ _ _ h => h) (Or.inr ⟨rfl, rfl⟩) hHeld78 ?rest88
          try simp only [Act.put, List.setIfInBounds_toArray, List.set_cons_zero, List.set_cons_succ]
          refine wpAnyH_take (i := 15) (oi := { dst := (some 28), op := (Op.move (Operand.tmp 0)), type := 30, pos := "ref.go:93", after := #[{ on := 9, ground := Ground.guard }], guard := (some (9, true)) }) (v := undef) rfl (by kernel_rfl) (by kernel_rfl) (by kernel_rfl) (fun _ _ _ h => h) (Or.inr ⟨rfl, rfl⟩) hHeld78 ?rest89
          try simp only [Act.put, List.setIfInBounds_toArray, List.set_cons_zero, List.set_cons_succ]
          refine wpAnyH_take (i := 16) (oi := { dst := (some 29), op := (Op.move (Operand.tmp 3)), type := 3, pos := "ref.go:93", after := #[{ on := 9, ground := Ground.guard }], guard := (some (9, true)) }) (v := undef) rfl (by kernel_rfl) (by kernel_rfl) (by kernel_rfl) (fun _ _ _ h => h) (Or.inr ⟨rfl, rfl⟩) hHeld78 ?rest90
          try simp only [Act.put, List.setIfInBounds_toArray, List.set_cons_zero, List.set_cons_succ]
          refine wpAnyH_take (i := 17) (oi := { dst := (some 30), op := (Op.indexAddr 30 (Operand.tmp 28) (Operand.tmp 29)), type := 0, pos := "ref.go:93", after := #[{ on := 15, ground := Ground.data }, { on := 16, ground := Ground.data }, { on := 9, ground := Ground.guard }], guard := (some (9, true)) }) (v := undef) rfl (by kernel_rfl) (by kernel_rfl) (by kernel_rfl) (fun _ _ _ h => h) (Or.inr ⟨rfl, rfl⟩) hHeld78 ?rest91
          try simp only [Act.put, List.setIfInBounds_toArray, List.set_cons_zero, List.set_cons_succ]
          refine wpAnyH_take (i := 18) (oi := { dst := (some 31), op := (Op.load 23 (Operand.tmp 30)), type := 23, pos := "ref.go:93", after := #[{ on := 17, ground := Ground.data }, { on := 9, ground := Ground.guard }], guard := (some (9, true)) }) (v := undef) rfl (by kernel_rfl) (by kernel_rfl) (by kernel_rfl) (fun _ _ _ h => h) (Or.inr ⟨rfl, rfl⟩) hHeld78 ?rest92
          try simp only [Act.put, List.setIfInBounds_toArray, List.set_cons_zero, List.set_cons_succ]
          refine wpAnyH_take (i := 19) (oi := { dst := (some 32), op := (Op.call { callee := (Callee.value (Operand.func 40)), args := #[(Operand.tmp 27), (Operand.tmp 31)], argTypes := #[23, 23] }), type := 3, pos := "ref.go:93", after := #[{ on := 14, ground := Ground.data }, { on := 18, ground := Ground.data }, { on := 9, ground := Ground.chain }, { on := 9, ground := Ground.guard }], guard := (some (9, true)) }) (v := undef) rfl (by kernel_rfl) (by kernel_rfl) (by kernel_rfl) (fun _ _ _ h => h) (Or.inr ⟨rfl, rfl⟩) hHeld78 ?rest93
          try simp only [Act.put, List.setIfInBounds_toArray, List.set_cons_zero, List.set_cons_succ]
          refine wpAnyH_take (i := 20) (oi := { dst := (some 33), op := (Op.binOp BinOp.geq 3 (Operand.tmp 32) (Operand.const (Value.int IntKind.i64 0)) 3), type := 4, pos := "ref.go:93", after := #[{ on := 19, ground := Ground.data }, { on := 9, ground := Ground.guard }], guard := (some (9, true)) }) (v := undef) rfl (by kernel_rfl) (by kernel_rfl) (by kernel_rfl) (fun _ _ _ h => h) (Or.inr ⟨rfl, rfl⟩) hHeld78 ?rest94
          try simp only [Act.put, List.setIfInBounds_toArray, List.set_cons_zero, List.set_cons_succ]
          refine wpAnyH_take (i := 21) (oi := { dst := (some 34), op := (Op.pick (Operand.tmp 22) (Operand.tmp 33) (Operand.const (Value.bool false))), type := 4, pos := "ref.go:93", after := #[{ on := 9, ground := Ground.data }, { on := 20, ground := Ground.data }, { on := 6, ground := Ground.guard }], guard := (some (6, false)) }) (v := undef) rfl (by kernel_rfl) (by kernel_rfl) (by kernel_rfl) (fun _ _ _ h => h) (Or.inr ⟨rfl, rfl⟩) hHeld78 ?rest95
          try simp only [Act.put, List.setIfInBounds_toArray, List.set_cons_zero, List.set_cons_succ]
          refine wpAnyH_take (i := 22) (oi := { dst := (some 35), op := (Op.pick (Operand.tmp 19) (Operand.const (Value.bool true)) (Operand.tmp 34)), type := 4, pos := "ref.go:93", after := #[{ on := 6, ground := Ground.data }, { on := 21, ground := Ground.data }], guard := none }) (v := ?v96) rfl (by kernel_rfl) (by kernel_rfl) (by kernel_rfl) (fun _ _ _ h => h) (Or.inl ⟨rfl, ?hy96⟩) hHeld78 ?rest96
          case hy96 => (intro w hSw; (try dsimp only at hSw); go_simp <;> with_reducible rfl)
          try simp only [Act.put, List.setIfInBounds_toArray, List.set_cons_zero, List.set_cons_succ]
          refine wpAnyH_done (by kernel_rfl) ?_ _
          all_goals
            go_wp2_with fail
            go_ret
            exact ⟨ret_bool HX.out.symm, hE.trans (by repeat (first | with_reducible exact Ext.refl _ | with_reducible assumption | with_reducible refine Ext.drew ?_ | with_reducible refine Ext.drewN ?_ _ | with_reducible refine Ext.alloc ?_ _))⟩
      · have HF := Lib.hid (HY.out (fun j hj => hn.out j (by omega)))
        go_wp2
        go_ret
        exact ⟨ret_bool HF.out.symm, hE⟩
  · have HF := Lib.hid (valid_long h40)
    have h41 : 40 < s.length := by omega
    go_enter Tryz.func19, Tryz.ntmps19
    go_wp2_with fail
    go_ret
    exact ⟨ret_bool HF.out.symm, Ext.refl _⟩

end Go.Proofs.YtanclhcoiagcfaaGreatDoor
