/- THE WALKS over cmp.Or of texts and schema.Valid. -/
import Derived.Test.YtanclhcoiagcfaaGreatDoorSchN
namespace Go.Proofs.YtanclhcoiagcfaaGreatDoor
open Go.RowKit

/-- the first text that is not empty -/
def orS (a b : ByteArray) : ByteArray := if a.size = 0 then b else a

def firstS : List ByteArray → ByteArray
  | [] => ByteArray.empty
  | a :: r => if a.size = 0 then firstS r else a
theorem firstS_two (a b : ByteArray) : firstS [a, b] = orS a b := by
  unfold orS firstS
  split
  · unfold firstS
    split
    · rename_i h; exact (ba_ext (size_zero h)).symm
    · rfl
  · rfl
theorem firstS_drop (l : List ByteArray) (k : Nat) (h : k < l.length) : firstS (l.drop k) = if l[k].size = 0 then firstS (l.drop (k + 1)) else l[k] := by
  rw [List.drop_eq_getElem_cons h]; rfl

set_option maxHeartbeats 800000 in
theorem c_or_list (g : Nat) (l : List ByteArray) (w : World) (hl : l.length ≤ 1000) (hc : ∀ j (h : j < l.length), w.cell? ⟨g, j, none⟩ = some (.string l[j])) :
    Calls Tryz.prog 29 #[.slice (some ⟨g, 0, none⟩) l.length l.length] w fun e w' => e = .returned (.string (firstS l)) ∧ w' = w := by
  have HC := Lib.hid hc
  clear hc
  go_enter Tryz.func29, Tryz.ntmps29
  go_wp2
  go_loop [8] (fun u => ∃ k : Nat, u = .int .i64 k ∧ k ≤ l.length ∧ Hid (firstS l = firstS (l.drop k))) (fun u => l.length - (intOf u).toNat)
  case atStart => exact ⟨0, rfl, Nat.zero_le _, Lib.hid rfl⟩
  case round =>
    obtain ⟨k, rfl, hk, hA⟩ := hrel
    by_cases hlt : k < l.length
    · have cell := HC.out k hlt
      have HD := Lib.hid (firstS_drop l k hlt)
      generalize l[k] = x at cell HD
      by_cases hx : x.size = 0
      · have HS := Lib.hid (show firstS l = firstS (l.drop (k + 1)) by rw [hA.out, HD.out, if_pos hx])
        have hx' : (x.toList == ([] : List UInt8)) = true := by rw [size_beq, decide_eq_true hx]
        have hx2 : x.toList = [] := by simpa using hx'
        clear hx HD
        go_wp2
        go_round
        case rel => exact ⟨k + 1, by go_num, by omega, HS⟩
        case measure => simp [intOf]; omega
      · have HS := Lib.hid (show firstS l = x by rw [hA.out, HD.out, if_neg hx])
        have hx' : (x.toList == ([] : List UInt8)) = false := by rw [size_beq, decide_eq_false hx]
        have hx2 : x.toList.isEmpty = false := by rw [isEmpty_eq, decide_eq_false hx]
        clear hx HD
        go_wp2
        go_ret
        exact ⟨ret_text HS.out.symm, rfl⟩
    · have hk' : k = l.length := by omega
      have HS := Lib.hid (show firstS l = ByteArray.empty by rw [hA.out, hk', List.drop_length]; rfl)
      go_wp2
      go_ret
      exact ⟨ret_text HS.out.symm, rfl⟩

theorem c_or_str (g : Nat) (a b : ByteArray) (w : World) (h0 : w.cell? ⟨g, 0, none⟩ = some (.string a)) (h1 : w.cell? ⟨g, 1, none⟩ = some (.string b)) :
    Calls Tryz.prog 29 #[.slice (some ⟨g, 0, none⟩) 2 2] w fun e w' => e = .returned (.string (orS a b)) ∧ w' = w := by
  rw [← firstS_two]
  exact c_or_list g [a, b] w (by simp) (fun j h => by
    have hj : j = 0 ∨ j = 1 := by simp at h; omega
    rcases hj with rfl | rfl
    · exact h0
    · exact h1)

set_option maxRecDepth 100000 in
set_option maxHeartbeats 1600000 in
theorem s_Valid (s : List RuleP) (A : Option Addr) (c : Nat) (w : World) (hs : Rules w A s) (hl : s.length ≤ 1000) :
    Calls Tryz.prog 18 #[.slice A s.length c] w fun e w' => e = .returned (.bool (validB s)) ∧ Ext w w' := by
  have hs1 := Lib.hid hs
  have HY := Lib.hid (fun h => valid_yes (s := s) h)
  have HNO := Lib.hid (fun k (hk : k < s.length) => valid_no hk)
  clear hs
  go_enter Tryz.func18, Tryz.ntmps18
  go_wp2_with fail
  go_loopw [7] (fun u W => ∃ k : Nat, u = .int .i64 k ∧ k ≤ s.length ∧ Hid (∀ j, j < k → stepB s j = true) ∧ Ext w W) (fun u _ => s.length - (intOf u).toNat)
  case atStart => exact ⟨0, rfl, Nat.zero_le _, Lib.hid (fun j hj => absurd hj (Nat.not_lt_zero _)), Ext.refl _⟩
  case round =>
    obtain ⟨k, rfl, hk, hn, hE⟩ := hrel
    by_cases hlt : k < s.length
    · obtain ⟨b, off, rfl, hc⟩ := hs1.out (by omega)
      have hd := (hc k hlt).ext hE
      have hd0 : 0 < k → CellsR wr b (off + (k - 1) * 6) s[k - 1]! := fun _ => (hc (k - 1) (by omega)).ext hE
      have HT := Lib.hid (HNO.out k hlt)
      have HC := Lib.hid (step_chk (s := s) (k := k))
      have HS := Lib.hid (step_more hn.out)
      have HL := Lib.hid (fun (h : chkR s[k]! = 0) (h0 : 0 < k) => step_low h h0)
      have HZ := Lib.hid (fun (h : chkR s[k]! = 0) (h0 : k = 0) => (by subst h0; exact step_zero h : stepB s k = true))
      clear hc HNO
      generalize s[k]! = x at hd HC HL HZ
      generalize s[k - 1]! = y at hd0 HL
      have HD0 := Lib.hid hd0
      clear hd0
      obtain ⟨c0, c1, c2, c3, c4, c5⟩ := hd
      obtain ⟨g, w2, hg, hw2, hb, hx, -⟩ := box_rule wr x 23
      have HW2 := Lib.hid hw2
      have HG := Lib.hid hg
      clear hw2 hg
      go_wp2_with fail
      rw [← HW2.out, ← HG.out]
      clear c0 c1 c2 c3 c4 c5 HW2 HG
      by_cases hck : chkR x = 0
      · by_cases hk0 : k = 0
        · have HX := Lib.hid (HS.out (HZ.out hck hk0))
          have MK := Lib.hid (fun V (e : Ext w2 V) => mk_one hb e)
          have HO := Lib.hid hck
          have p3 : ¬ 0 < k := by omega
          clear HT HC HL HZ HD0 hb hck hk0
          refine wp_region_held_drew (S := (fun V => V.cell? ⟨g, 0, none⟩ = some (.int .i64 x.kind) ∧ V.cell? ⟨g, 1, none⟩ = some (.int .i64 x.n) ∧ V.cell? ⟨g, 2, none⟩ = some (.string x.name) ∧ V.cell? ⟨g, 3, none⟩ = some (.string x.key) ∧ V.cell? ⟨g, 4, none⟩ = some (.string x.frm) ∧ V.cell? ⟨g, 5, none⟩ = some (.string x.tov) ∧ Ext w2 V)) (by kernel_rfl) ?hs1 (fun hHeld => ?go1)
          case hs1 => (exact MK.out _ (by repeat (first | with_reducible exact Ext.refl _ | with_reducible assumption | with_reducible refine Ext.drew ?_ | with_reducible refine Ext.drewN ?_ _ | with_reducible refine Ext.alloc ?_ _)))
          refine wpAnyH_take (i := 0) (oi := { dst := (some 12), op := (Op.load 23 (Operand.tmp 4)), type := 23, pos := "schema.go:59", after := #[], guard := none }) (v := ?v2) rfl (by kernel_rfl) (by kernel_rfl) (by kernel_rfl) (fun _ _ _ h => h) (Or.inl ⟨rfl, ?hy2⟩) hHeld ?rest2
          case hy2 => (intro w hSw; (try dsimp only at hSw); go_simp <;> with_reducible rfl)
          try simp only [Act.put, List.setIfInBounds_toArray, List.set_cons_zero, List.set_cons_succ]
          refine wpAnyH_ready (rs := [1]) (by kernel_rfl) (by simp) ?_
          refine AllReadyH.cons (o := { dst := (some 13), op := (Op.call { callee := (Callee.value (Operand.func 6)), args := #[(Operand.tmp 12)], argTypes := #[23] }), type := 24, pos := "schema.go:59", after := #[{ on := 0, ground := Ground.data }], guard := none }) rfl (fun K hK => ?step3x0) ?more3x0
          case more3x0 => exact AllReadyH.nil
          go_simp
          (go_at_call 6; refine (s_Check x _).mono ?_; rintro e w' ⟨rfl, hb⟩; replace hb : Ext w2 w' := Ext.trans (by repeat (first | with_reducible exact Ext.refl _ | with_reducible assumption | with_reducible refine Ext.drew ?_ | with_reducible refine Ext.drewN ?_ _ | with_reducible refine Ext.alloc ?_ _)) hb; rw [HO.out])
          refine hK.out _ _ ?hS3x0 (fun hHeld3 => ?rest3x0)
          case hS3x0 => ((try dsimp only); (exact MK.out _ (by repeat (first | with_reducible exact Ext.refl _ | with_reducible assumption | with_reducible refine Ext.drew ?_ | with_reducible refine Ext.drewN ?_ _ | with_reducible refine Ext.alloc ?_ _))))
          clear hK K
          clear hHeld
          try simp only [Act.put, List.setIfInBounds_toArray, List.set_cons_zero, List.set_cons_succ]
          refine wpAnyH_take (i := 2) (oi := { dst := (some 14), op := (Op.binOp BinOp.neq 24 (Operand.tmp 13) (Operand.const (Value.int IntKind.i64 0)) 24), type := 4, pos := "schema.go:59", after := #[{ on := 1, ground := Ground.data }], guard := none }) (v := ?v4) rfl (by kernel_rfl) (by kernel_rfl) (by kernel_rfl) (fun _ _ _ h => h) (Or.inl ⟨rfl, ?hy4⟩) hHeld3 ?rest4
          case hy4 => (intro w hSw; (try dsimp only at hSw); go_simp <;> with_reducible rfl)
          try simp only [Act.put, List.setIfInBounds_toArray, List.set_cons_zero, List.set_cons_succ]
          refine wpAnyH_take (i := 3) (oi := { dst := (some 15), op := (Op.move (Operand.tmp 14)), type := 4, pos := "schema.go:59", after := #[{ on := 2, ground := Ground.data }, { on := 1, ground := Ground.chain }], guard := none }) (v := ?v5) rfl (by kernel_rfl) (by kernel_rfl) (by kernel_rfl) (fun _ _ _ h => h) (Or.inl ⟨rfl, ?hy5⟩) hHeld3 ?rest5
          case hy5 => (intro w hSw; (try dsimp only at hSw); go_simp <;> with_reducible rfl)
          try simp only [Act.put, List.setIfInBounds_toArray, List.set_cons_zero, List.set_cons_succ]
          refine wpAnyH_take (i := 4) (oi := { dst := (some 16), op := (Op.move (Operand.tmp 3)), type := 3, pos := "schema.go:59", after := #[{ on := 3, ground := Ground.guard }], guard := (some (3, false)) }) (v := ?v6) rfl (by kernel_rfl) (by kernel_rfl) (by kernel_rfl) (fun _ _ _ h => h) (Or.inl ⟨rfl, ?hy6⟩) hHeld3 ?rest6
          case hy6 => (intro w hSw; (try dsimp only at hSw); go_simp <;> with_reducible rfl)
          try simp only [Act.put, List.setIfInBounds_toArray, List.set_cons_zero, List.set_cons_succ]
          refine wpAnyH_take (i := 5) (oi := { dst := (some 17), op := (Op.binOp BinOp.gtr 3 (Operand.tmp 16) (Operand.const (Value.int IntKind.i64 0)) 3), type := 4, pos := "schema.go:59", after := #[{ on := 4, ground := Ground.data }, { on := 3, ground := Ground.guard }], guard := (some (3, false)) }) (v := ?v7) rfl (by kernel_rfl) (by kernel_rfl) (by kernel_rfl) (fun _ _ _ h => h) (Or.inl ⟨rfl, ?hy7⟩) hHeld3 ?rest7
          case hy7 => (intro w hSw; (try dsimp only at hSw); go_simp <;> with_reducible rfl)
          try simp only [Act.put, List.setIfInBounds_toArray, List.set_cons_zero, List.set_cons_succ]
          refine wpAnyH_take (i := 6) (oi := { dst := (some 18), op := (Op.move (Operand.tmp 17)), type := 4, pos := "schema.go:59", after := #[{ on := 5, ground := Ground.data }, { on := 3, ground := Ground.chain }, { on := 3, ground := Ground.guard }], guard := (some (3, false)) }) (v := ?v8) rfl (by kernel_rfl) (by kernel_rfl) (by kernel_rfl) (fun _ _ _ h => h) (Or.inl ⟨rfl, ?hy8⟩) hHeld3 ?rest8
          case hy8 => (intro w hSw; (try dsimp only at hSw); go_simp <;> with_reducible rfl)
          try simp only [Act.put, List.setIfInBounds_toArray, List.set_cons_zero, List.set_cons_succ]
          refine wpAnyH_take (i := 7) (oi := { dst := (some 19), op := (Op.move (Operand.tmp 0)), type := 30, pos := "schema.go:59", after := #[{ on := 6, ground := Ground.guard }], guard := (some (6, true)) }) (v := undef) rfl (by kernel_rfl) (by kernel_rfl) (by kernel_rfl) (fun _ _ _ h => h) (Or.inr ⟨rfl, rfl⟩) hHeld3 ?rest9
          try simp only [Act.put, List.setIfInBounds_toArray, List.set_cons_zero, List.set_cons_succ]
          refine wpAnyH_take (i := 8) (oi := { dst := (some 20), op := (Op.move (Operand.tmp 3)), type := 3, pos := "schema.go:59", after := #[{ on := 6, ground := Ground.guard }], guard := (some (6, true)) }) (v := undef) rfl (by kernel_rfl) (by kernel_rfl) (by kernel_rfl) (fun _ _ _ h => h) (Or.inr ⟨rfl, rfl⟩) hHeld3 ?rest10
          try simp only [Act.put, List.setIfInBounds_toArray, List.set_cons_zero, List.set_cons_succ]
          refine wpAnyH_take (i := 9) (oi := { dst := (some 21), op := (Op.binOp BinOp.sub 3 (Operand.tmp 20) (Operand.const (Value.int IntKind.i64 1)) 3), type := 3, pos := "schema.go:59", after := #[{ on := 8, ground := Ground.data }, { on := 6, ground := Ground.guard }], guard := (some (6, true)) }) (v := undef) rfl (by kernel_rfl) (by kernel_rfl) (by kernel_rfl) (fun _ _ _ h => h) (Or.inr ⟨rfl, rfl⟩) hHeld3 ?rest11
          try simp only [Act.put, List.setIfInBounds_toArray, List.set_cons_zero, List.set_cons_succ]
          refine wpAnyH_take (i := 10) (oi := { dst := (some 22), op := (Op.indexAddr 30 (Operand.tmp 19) (Operand.tmp 21)), type := 0, pos := "schema.go:59", after := #[{ on := 7, ground := Ground.data }, { on := 9, ground := Ground.data }, { on := 6, ground := Ground.guard }], guard := (some (6, true)) }) (v := undef) rfl (by kernel_rfl) (by kernel_rfl) (by kernel_rfl) (fun _ _ _ h => h) (Or.inr ⟨rfl, rfl⟩) hHeld3 ?rest12
          try simp only [Act.put, List.setIfInBounds_toArray, List.set_cons_zero, List.set_cons_succ]
          refine wpAnyH_take (i := 11) (oi := { dst := (some 23), op := (Op.load 23 (Operand.tmp 22)), type := 23, pos := "schema.go:59", after := #[{ on := 10, ground := Ground.data }, { on := 6, ground := Ground.guard }], guard := (some (6, true)) }) (v := undef) rfl (by kernel_rfl) (by kernel_rfl) (by kernel_rfl) (fun _ _ _ h => h) (Or.inr ⟨rfl, rfl⟩) hHeld3 ?rest13
          try simp only [Act.put, List.setIfInBounds_toArray, List.set_cons_zero, List.set_cons_succ]
          refine wpAnyH_take (i := 12) (oi := { dst := (some 24), op := (Op.load 23 (Operand.tmp 4)), type := 23, pos := "schema.go:59", after := #[{ on := 6, ground := Ground.guard }], guard := (some (6, true)) }) (v := undef) rfl (by kernel_rfl) (by kernel_rfl) (by kernel_rfl) (fun _ _ _ h => h) (Or.inr ⟨rfl, rfl⟩) hHeld3 ?rest14
          try simp only [Act.put, List.setIfInBounds_toArray, List.set_cons_zero, List.set_cons_succ]
          refine wpAnyH_take (i := 13) (oi := { dst := (some 25), op := (Op.call { callee := (Callee.value (Operand.func 35)), args := #[(Operand.tmp 23), (Operand.tmp 24)], argTypes := #[23, 23] }), type := 3, pos := "schema.go:59", after := #[{ on := 11, ground := Ground.data }, { on := 12, ground := Ground.data }, { on := 6, ground := Ground.chain }, { on := 6, ground := Ground.guard }], guard := (some (6, true)) }) (v := undef) rfl (by kernel_rfl) (by kernel_rfl) (by kernel_rfl) (fun _ _ _ h => h) (Or.inr ⟨rfl, rfl⟩) hHeld3 ?rest15
          try simp only [Act.put, List.setIfInBounds_toArray, List.set_cons_zero, List.set_cons_succ]
          refine wpAnyH_take (i := 14) (oi := { dst := (some 26), op := (Op.binOp BinOp.geq 3 (Operand.tmp 25) (Operand.const (Value.int IntKind.i64 0)) 3), type := 4, pos := "schema.go:59", after := #[{ on := 13, ground := Ground.data }, { on := 6, ground := Ground.guard }], guard := (some (6, true)) }) (v := undef) rfl (by kernel_rfl) (by kernel_rfl) (by kernel_rfl) (fun _ _ _ h => h) (Or.inr ⟨rfl, rfl⟩) hHeld3 ?rest16
          try simp only [Act.put, List.setIfInBounds_toArray, List.set_cons_zero, List.set_cons_succ]
          refine wpAnyH_take (i := 15) (oi := { dst := (some 27), op := (Op.pick (Operand.tmp 18) (Operand.tmp 26) (Operand.const (Value.bool false))), type := 4, pos := "schema.go:59", after := #[{ on := 6, ground := Ground.data }, { on := 14, ground := Ground.data }, { on := 3, ground := Ground.guard }], guard := (some (3, false)) }) (v := ?v17) rfl (by kernel_rfl) (by kernel_rfl) (by kernel_rfl) (fun _ _ _ h => h) (Or.inl ⟨rfl, ?hy17⟩) hHeld3 ?rest17
          case hy17 => (intro w hSw; (try dsimp only at hSw); go_simp <;> with_reducible rfl)
          try simp only [Act.put, List.setIfInBounds_toArray, List.set_cons_zero, List.set_cons_succ]
          refine wpAnyH_take (i := 16) (oi := { dst := (some 28), op := (Op.pick (Operand.tmp 15) (Operand.const (Value.bool true)) (Operand.tmp 27)), type := 4, pos := "schema.go:59", after := #[{ on := 3, ground := Ground.data }, { on := 15, ground := Ground.data }], guard := none }) (v := ?v18) rfl (by kernel_rfl) (by kernel_rfl) (by kernel_rfl) (fun _ _ _ h => h) (Or.inl ⟨rfl, ?hy18⟩) hHeld3 ?rest18
          case hy18 => (intro w hSw; (try dsimp only at hSw); go_simp <;> with_reducible rfl)
          try simp only [Act.put, List.setIfInBounds_toArray, List.set_cons_zero, List.set_cons_succ]
          refine wpAnyH_done (by kernel_rfl) ?_ _
          clear hHeld3
          go_wp2_with fail
          go_roundw
          case rel => exact ⟨k + 1, by go_num, by omega, HX, hE.trans (hx.trans (by repeat (first | with_reducible exact Ext.refl _ | with_reducible assumption | with_reducible refine Ext.drew ?_ | with_reducible refine Ext.drewN ?_ _ | with_reducible refine Ext.alloc ?_ _)))⟩
          case measure => simp [intOf]; omega
        · have hd0 := (HD0.out (by omega)).ext hx
          have HL2 := Lib.hid (HL.out hck (by omega))
          have MK := Lib.hid (fun V (e : Ext w2 V) => mk_two hd0 hb e)
          have HO := Lib.hid hck
          have p1 : (1 : Int) ≤ (k : Int) := by omega
          have p2 : ((k : Int) - 1).toNat = k - 1 := by omega
          have p5 : IntKind.i64.wrap ((k : Int) - 1) = (k : Int) - 1 := IntWalk.i64_in _ (by omega)
          have p6 : ((k : Int) - 1) < (s.length : Int) := by omega
          have p3 : 0 < k := by omega
          clear HC HL HZ HD0 hd0 hb hck
          by_cases ho : ordR y x < 0
          · have HX := Lib.hid (HS.out (by rw [HL2.out]; exact decide_eq_true ho))
            have ho' : decide (ordR y x < 0) = true := decide_eq_true ho
            clear HL2 HS HT
            refine wp_region_held_drew (S := (fun V => V.cell? ⟨b, off + (k - 1) * 6, none⟩ = some (.int .i64 y.kind) ∧ V.cell? ⟨b, off + (k - 1) * 6 + 1, none⟩ = some (.int .i64 y.n) ∧ V.cell? ⟨b, off + (k - 1) * 6 + 2, none⟩ = some (.string y.name) ∧ V.cell? ⟨b, off + (k - 1) * 6 + 3, none⟩ = some (.string y.key) ∧ V.cell? ⟨b, off + (k - 1) * 6 + 4, none⟩ = some (.string y.frm) ∧ V.cell? ⟨b, off + (k - 1) * 6 + 5, none⟩ = some (.string y.tov) ∧ V.cell? ⟨g, 0, none⟩ = some (.int .i64 x.kind) ∧ V.cell? ⟨g, 1, none⟩ = some (.int .i64 x.n) ∧ V.cell? ⟨g, 2, none⟩ = some (.string x.name) ∧ V.cell? ⟨g, 3, none⟩ = some (.string x.key) ∧ V.cell? ⟨g, 4, none⟩ = some (.string x.frm) ∧ V.cell? ⟨g, 5, none⟩ = some (.string x.tov) ∧ Ext w2 V)) (by kernel_rfl) ?hs19 (fun hHeld => ?go19)
            case hs19 => (exact MK.out _ (by repeat (first | with_reducible exact Ext.refl _ | with_reducible assumption | with_reducible refine Ext.drew ?_ | with_reducible refine Ext.drewN ?_ _ | with_reducible refine Ext.alloc ?_ _)))
            refine wpAnyH_take (i := 0) (oi := { dst := (some 12), op := (Op.load 23 (Operand.tmp 4)), type := 23, pos := "schema.go:59", after := #[], guard := none }) (v := ?v20) rfl (by kernel_rfl) (by kernel_rfl) (by kernel_rfl) (fun _ _ _ h => h) (Or.inl ⟨rfl, ?hy20⟩) hHeld ?rest20
            case hy20 => (intro w hSw; (try dsimp only at hSw); go_simp <;> with_reducible rfl)
            try simp only [Act.put, List.setIfInBounds_toArray, List.set_cons_zero, List.set_cons_succ]
            refine wpAnyH_ready (rs := [1]) (by kernel_rfl) (by simp) ?_
            refine AllReadyH.cons (o := { dst := (some 13), op := (Op.call { callee := (Callee.value (Operand.func 6)), args := #[(Operand.tmp 12)], argTypes := #[23] }), type := 24, pos := "schema.go:59", after := #[{ on := 0, ground := Ground.data }], guard := none }) rfl (fun K hK => ?step21x0) ?more21x0
            case more21x0 => exact AllReadyH.nil
            go_simp
            (go_at_call 6; refine (s_Check x _).mono ?_; rintro e w' ⟨rfl, hb⟩; replace hb : Ext w2 w' := Ext.trans (by repeat (first | with_reducible exact Ext.refl _ | with_reducible assumption | with_reducible refine Ext.drew ?_ | with_reducible refine Ext.drewN ?_ _ | with_reducible refine Ext.alloc ?_ _)) hb; rw [HO.out])
            refine hK.out _ _ ?hS21x0 (fun hHeld21 => ?rest21x0)
            case hS21x0 => ((try dsimp only); (exact MK.out _ (by repeat (first | with_reducible exact Ext.refl _ | with_reducible assumption | with_reducible refine Ext.drew ?_ | with_reducible refine Ext.drewN ?_ _ | with_reducible refine Ext.alloc ?_ _))))
            clear hK K
            clear hHeld
            try simp only [Act.put, List.setIfInBounds_toArray, List.set_cons_zero, List.set_cons_succ]
            refine wpAnyH_take (i := 2) (oi := { dst := (some 14), op := (Op.binOp BinOp.neq 24 (Operand.tmp 13) (Operand.const (Value.int IntKind.i64 0)) 24), type := 4, pos := "schema.go:59", after := #[{ on := 1, ground := Ground.data }], guard := none }) (v := ?v22) rfl (by kernel_rfl) (by kernel_rfl) (by kernel_rfl) (fun _ _ _ h => h) (Or.inl ⟨rfl, ?hy22⟩) hHeld21 ?rest22
            case hy22 => (intro w hSw; (try dsimp only at hSw); go_simp <;> with_reducible rfl)
            try simp only [Act.put, List.setIfInBounds_toArray, List.set_cons_zero, List.set_cons_succ]
            refine wpAnyH_take (i := 3) (oi := { dst := (some 15), op := (Op.move (Operand.tmp 14)), type := 4, pos := "schema.go:59", after := #[{ on := 2, ground := Ground.data }, { on := 1, ground := Ground.chain }], guard := none }) (v := ?v23) rfl (by kernel_rfl) (by kernel_rfl) (by kernel_rfl) (fun _ _ _ h => h) (Or.inl ⟨rfl, ?hy23⟩) hHeld21 ?rest23
            case hy23 => (intro w hSw; (try dsimp only at hSw); go_simp <;> with_reducible rfl)
            try simp only [Act.put, List.setIfInBounds_toArray, List.set_cons_zero, List.set_cons_succ]
            refine wpAnyH_take (i := 4) (oi := { dst := (some 16), op := (Op.move (Operand.tmp 3)), type := 3, pos := "schema.go:59", after := #[{ on := 3, ground := Ground.guard }], guard := (some (3, false)) }) (v := ?v24) rfl (by kernel_rfl) (by kernel_rfl) (by kernel_rfl) (fun _ _ _ h => h) (Or.inl ⟨rfl, ?hy24⟩) hHeld21 ?rest24
            case hy24 => (intro w hSw; (try dsimp only at hSw); go_simp <;> with_reducible rfl)
            try simp only [Act.put, List.setIfInBounds_toArray, List.set_cons_zero, List.set_cons_succ]
            refine wpAnyH_take (i := 5) (oi := { dst := (some 17), op := (Op.binOp BinOp.gtr 3 (Operand.tmp 16) (Operand.const (Value.int IntKind.i64 0)) 3), type := 4, pos := "schema.go:59", after := #[{ on := 4, ground := Ground.data }, { on := 3, ground := Ground.guard }], guard := (some (3, false)) }) (v := ?v25) rfl (by kernel_rfl) (by kernel_rfl) (by kernel_rfl) (fun _ _ _ h => h) (Or.inl ⟨rfl, ?hy25⟩) hHeld21 ?rest25
            case hy25 => (intro w hSw; (try dsimp only at hSw); go_simp <;> with_reducible rfl)
            try simp only [Act.put, List.setIfInBounds_toArray, List.set_cons_zero, List.set_cons_succ]
            refine wpAnyH_take (i := 6) (oi := { dst := (some 18), op := (Op.move (Operand.tmp 17)), type := 4, pos := "schema.go:59", after := #[{ on := 5, ground := Ground.data }, { on := 3, ground := Ground.chain }, { on := 3, ground := Ground.guard }], guard := (some (3, false)) }) (v := ?v26) rfl (by kernel_rfl) (by kernel_rfl) (by kernel_rfl) (fun _ _ _ h => h) (Or.inl ⟨rfl, ?hy26⟩) hHeld21 ?rest26
            case hy26 => (intro w hSw; (try dsimp only at hSw); go_simp <;> with_reducible rfl)
            try simp only [Act.put, List.setIfInBounds_toArray, List.set_cons_zero, List.set_cons_succ]
            refine wpAnyH_take (i := 7) (oi := { dst := (some 19), op := (Op.move (Operand.tmp 0)), type := 30, pos := "schema.go:59", after := #[{ on := 6, ground := Ground.guard }], guard := (some (6, true)) }) (v := ?v27) rfl (by kernel_rfl) (by kernel_rfl) (by kernel_rfl) (fun _ _ _ h => h) (Or.inl ⟨rfl, ?hy27⟩) hHeld21 ?rest27
            case hy27 => (intro w hSw; (try dsimp only at hSw); go_simp <;> with_reducible rfl)
            try simp only [Act.put, List.setIfInBounds_toArray, List.set_cons_zero, List.set_cons_succ]
            refine wpAnyH_take (i := 8) (oi := { dst := (some 20), op := (Op.move (Operand.tmp 3)), type := 3, pos := "schema.go:59", after := #[{ on := 6, ground := Ground.guard }], guard := (some (6, true)) }) (v := ?v28) rfl (by kernel_rfl) (by kernel_rfl) (by kernel_rfl) (fun _ _ _ h => h) (Or.inl ⟨rfl, ?hy28⟩) hHeld21 ?rest28
            case hy28 => (intro w hSw; (try dsimp only at hSw); go_simp <;> with_reducible rfl)
            try simp only [Act.put, List.setIfInBounds_toArray, List.set_cons_zero, List.set_cons_succ]
            refine wpAnyH_take (i := 9) (oi := { dst := (some 21), op := (Op.binOp BinOp.sub 3 (Operand.tmp 20) (Operand.const (Value.int IntKind.i64 1)) 3), type := 3, pos := "schema.go:59", after := #[{ on := 8, ground := Ground.data }, { on := 6, ground := Ground.guard }], guard := (some (6, true)) }) (v := ?v29) rfl (by kernel_rfl) (by kernel_rfl) (by kernel_rfl) (fun _ _ _ h => h) (Or.inl ⟨rfl, ?hy29⟩) hHeld21 ?rest29
            case hy29 => (intro w hSw; (try dsimp only at hSw); go_simp <;> with_reducible rfl)
            try simp only [Act.put, List.setIfInBounds_toArray, List.set_cons_zero, List.set_cons_succ]
            refine wpAnyH_take (i := 10) (oi := { dst := (some 22), op := (Op.indexAddr 30 (Operand.tmp 19) (Operand.tmp 21)), type := 0, pos := "schema.go:59", after := #[{ on := 7, ground := Ground.data }, { on := 9, ground := Ground.data }, { on := 6, ground := Ground.guard }], guard := (some (6, true)) }) (v := ?v30) rfl (by kernel_rfl) (by kernel_rfl) (by kernel_rfl) (fun _ _ _ h => h) (Or.inl ⟨rfl, ?hy30⟩) hHeld21 ?rest30
            case hy30 => (intro w hSw; (try dsimp only at hSw); go_simp <;> with_reducible rfl)
            try simp only [Act.put, List.setIfInBounds_toArray, List.set_cons_zero, List.set_cons_succ]
            refine wpAnyH_take (i := 11) (oi := { dst := (some 23), op := (Op.load 23 (Operand.tmp 22)), type := 23, pos := "schema.go:59", after := #[{ on := 10, ground := Ground.data }, { on := 6, ground := Ground.guard }], guard := (some (6, true)) }) (v := ?v31) rfl (by kernel_rfl) (by kernel_rfl) (by kernel_rfl) (fun _ _ _ h => h) (Or.inl ⟨rfl, ?hy31⟩) hHeld21 ?rest31
            case hy31 => (intro w hSw; (try dsimp only at hSw); go_simp <;> with_reducible rfl)
            try simp only [Act.put, List.setIfInBounds_toArray, List.set_cons_zero, List.set_cons_succ]
            refine wpAnyH_take (i := 12) (oi := { dst := (some 24), op := (Op.load 23 (Operand.tmp 4)), type := 23, pos := "schema.go:59", after := #[{ on := 6, ground := Ground.guard }], guard := (some (6, true)) }) (v := ?v32) rfl (by kernel_rfl) (by kernel_rfl) (by kernel_rfl) (fun _ _ _ h => h) (Or.inl ⟨rfl, ?hy32⟩) hHeld21 ?rest32
            case hy32 => (intro w hSw; (try dsimp only at hSw); go_simp <;> with_reducible rfl)
            try simp only [Act.put, List.setIfInBounds_toArray, List.set_cons_zero, List.set_cons_succ]
            refine wpAnyH_ready (rs := [13]) (by kernel_rfl) (by simp) ?_
            refine AllReadyH.cons (o := { dst := (some 25), op := (Op.call { callee := (Callee.value (Operand.func 35)), args := #[(Operand.tmp 23), (Operand.tmp 24)], argTypes := #[23, 23] }), type := 3, pos := "schema.go:59", after := #[{ on := 11, ground := Ground.data }, { on := 12, ground := Ground.data }, { on := 6, ground := Ground.chain }, { on := 6, ground := Ground.guard }], guard := (some (6, true)) }) rfl (fun K hK => ?step33x0) ?more33x0
            case more33x0 => exact AllReadyH.nil
            go_simp
            (go_at_call 35; refine (s_Order y x _).mono ?_; rintro e w' ⟨rfl, hb⟩; replace hb : Ext w2 w' := Ext.trans (by repeat (first | with_reducible exact Ext.refl _ | with_reducible assumption | with_reducible refine Ext.drew ?_ | with_reducible refine Ext.drewN ?_ _ | with_reducible refine Ext.alloc ?_ _)) hb)
            refine hK.out _ _ ?hS33x0 (fun hHeld33 => ?rest33x0)
            case hS33x0 => ((try dsimp only); (exact MK.out _ (by repeat (first | with_reducible exact Ext.refl _ | with_reducible assumption | with_reducible refine Ext.drew ?_ | with_reducible refine Ext.drewN ?_ _ | with_reducible refine Ext.alloc ?_ _))))
            clear hK K
            clear hHeld21
            try simp only [Act.put, List.setIfInBounds_toArray, List.set_cons_zero, List.set_cons_succ]
            refine wpAnyH_take (i := 14) (oi := { dst := (some 26), op := (Op.binOp BinOp.geq 3 (Operand.tmp 25) (Operand.const (Value.int IntKind.i64 0)) 3), type := 4, pos := "schema.go:59", after := #[{ on := 13, ground := Ground.data }, { on := 6, ground := Ground.guard }], guard := (some (6, true)) }) (v := ?v34) rfl (by kernel_rfl) (by kernel_rfl) (by kernel_rfl) (fun _ _ _ h => h) (Or.inl ⟨rfl, ?hy34⟩) hHeld33 ?rest34
            case hy34 => (intro w hSw; (try dsimp only at hSw); go_simp <;> with_reducible rfl)
            try simp only [Act.put, List.setIfInBounds_toArray, List.set_cons_zero, List.set_cons_succ]
            refine wpAnyH_take (i := 15) (oi := { dst := (some 27), op := (Op.pick (Operand.tmp 18) (Operand.tmp 26) (Operand.const (Value.bool false))), type := 4, pos := "schema.go:59", after := #[{ on := 6, ground := Ground.data }, { on := 14, ground := Ground.data }, { on := 3, ground := Ground.guard }], guard := (some (3, false)) }) (v := ?v35) rfl (by kernel_rfl) (by kernel_rfl) (by kernel_rfl) (fun _ _ _ h => h) (Or.inl ⟨rfl, ?hy35⟩) hHeld33 ?rest35
            case hy35 => (intro w hSw; (try dsimp only at hSw); go_simp <;> with_reducible rfl)
            try simp only [Act.put, List.setIfInBounds_toArray, List.set_cons_zero, List.set_cons_succ]
            refine wpAnyH_take (i := 16) (oi := { dst := (some 28), op := (Op.pick (Operand.tmp 15) (Operand.const (Value.bool true)) (Operand.tmp 27)), type := 4, pos := "schema.go:59", after := #[{ on := 3, ground := Ground.data }, { on := 15, ground := Ground.data }], guard := none }) (v := ?v36) rfl (by kernel_rfl) (by kernel_rfl) (by kernel_rfl) (fun _ _ _ h => h) (Or.inl ⟨rfl, ?hy36⟩) hHeld33 ?rest36
            case hy36 => (intro w hSw; (try dsimp only at hSw); go_simp <;> with_reducible rfl)
            try simp only [Act.put, List.setIfInBounds_toArray, List.set_cons_zero, List.set_cons_succ]
            refine wpAnyH_done (by kernel_rfl) ?_ _
            clear hHeld33
            go_wp2_with fail
            go_roundw
            case rel => exact ⟨k + 1, by go_num, by omega, HX, hE.trans (hx.trans (by repeat (first | with_reducible exact Ext.refl _ | with_reducible assumption | with_reducible refine Ext.drew ?_ | with_reducible refine Ext.drewN ?_ _ | with_reducible refine Ext.alloc ?_ _)))⟩
            case measure => simp [intOf]; omega
          · have HX := Lib.hid (HT.out (by rw [HL2.out]; exact decide_eq_false ho))
            have ho' : decide (ordR y x < 0) = false := decide_eq_false ho
            clear HL2 HS HT
            refine wp_region_held_drew (S := (fun V => V.cell? ⟨b, off + (k - 1) * 6, none⟩ = some (.int .i64 y.kind) ∧ V.cell? ⟨b, off + (k - 1) * 6 + 1, none⟩ = some (.int .i64 y.n) ∧ V.cell? ⟨b, off + (k - 1) * 6 + 2, none⟩ = some (.string y.name) ∧ V.cell? ⟨b, off + (k - 1) * 6 + 3, none⟩ = some (.string y.key) ∧ V.cell? ⟨b, off + (k - 1) * 6 + 4, none⟩ = some (.string y.frm) ∧ V.cell? ⟨b, off + (k - 1) * 6 + 5, none⟩ = some (.string y.tov) ∧ V.cell? ⟨g, 0, none⟩ = some (.int .i64 x.kind) ∧ V.cell? ⟨g, 1, none⟩ = some (.int .i64 x.n) ∧ V.cell? ⟨g, 2, none⟩ = some (.string x.name) ∧ V.cell? ⟨g, 3, none⟩ = some (.string x.key) ∧ V.cell? ⟨g, 4, none⟩ = some (.string x.frm) ∧ V.cell? ⟨g, 5, none⟩ = some (.string x.tov) ∧ Ext w2 V)) (by kernel_rfl) ?hs37 (fun hHeld => ?go37)
            case hs37 => (exact MK.out _ (by repeat (first | with_reducible exact Ext.refl _ | with_reducible assumption | with_reducible refine Ext.drew ?_ | with_reducible refine Ext.drewN ?_ _ | with_reducible refine Ext.alloc ?_ _)))
            refine wpAnyH_take (i := 0) (oi := { dst := (some 12), op := (Op.load 23 (Operand.tmp 4)), type := 23, pos := "schema.go:59", after := #[], guard := none }) (v := ?v38) rfl (by kernel_rfl) (by kernel_rfl) (by kernel_rfl) (fun _ _ _ h => h) (Or.inl ⟨rfl, ?hy38⟩) hHeld ?rest38
            case hy38 => (intro w hSw; (try dsimp only at hSw); go_simp <;> with_reducible rfl)
            try simp only [Act.put, List.setIfInBounds_toArray, List.set_cons_zero, List.set_cons_succ]
            refine wpAnyH_ready (rs := [1]) (by kernel_rfl) (by simp) ?_
            refine AllReadyH.cons (o := { dst := (some 13), op := (Op.call { callee := (Callee.value (Operand.func 6)), args := #[(Operand.tmp 12)], argTypes := #[23] }), type := 24, pos := "schema.go:59", after := #[{ on := 0, ground := Ground.data }], guard := none }) rfl (fun K hK => ?step39x0) ?more39x0
            case more39x0 => exact AllReadyH.nil
            go_simp
            (go_at_call 6; refine (s_Check x _).mono ?_; rintro e w' ⟨rfl, hb⟩; replace hb : Ext w2 w' := Ext.trans (by repeat (first | with_reducible exact Ext.refl _ | with_reducible assumption | with_reducible refine Ext.drew ?_ | with_reducible refine Ext.drewN ?_ _ | with_reducible refine Ext.alloc ?_ _)) hb; rw [HO.out])
            refine hK.out _ _ ?hS39x0 (fun hHeld39 => ?rest39x0)
            case hS39x0 => ((try dsimp only); (exact MK.out _ (by repeat (first | with_reducible exact Ext.refl _ | with_reducible assumption | with_reducible refine Ext.drew ?_ | with_reducible refine Ext.drewN ?_ _ | with_reducible refine Ext.alloc ?_ _))))
            clear hK K
            clear hHeld
            try simp only [Act.put, List.setIfInBounds_toArray, List.set_cons_zero, List.set_cons_succ]
            refine wpAnyH_take (i := 2) (oi := { dst := (some 14), op := (Op.binOp BinOp.neq 24 (Operand.tmp 13) (Operand.const (Value.int IntKind.i64 0)) 24), type := 4, pos := "schema.go:59", after := #[{ on := 1, ground := Ground.data }], guard := none }) (v := ?v40) rfl (by kernel_rfl) (by kernel_rfl) (by kernel_rfl) (fun _ _ _ h => h) (Or.inl ⟨rfl, ?hy40⟩) hHeld39 ?rest40
            case hy40 => (intro w hSw; (try dsimp only at hSw); go_simp <;> with_reducible rfl)
            try simp only [Act.put, List.setIfInBounds_toArray, List.set_cons_zero, List.set_cons_succ]
            refine wpAnyH_take (i := 3) (oi := { dst := (some 15), op := (Op.move (Operand.tmp 14)), type := 4, pos := "schema.go:59", after := #[{ on := 2, ground := Ground.data }, { on := 1, ground := Ground.chain }], guard := none }) (v := ?v41) rfl (by kernel_rfl) (by kernel_rfl) (by kernel_rfl) (fun _ _ _ h => h) (Or.inl ⟨rfl, ?hy41⟩) hHeld39 ?rest41
            case hy41 => (intro w hSw; (try dsimp only at hSw); go_simp <;> with_reducible rfl)
            try simp only [Act.put, List.setIfInBounds_toArray, List.set_cons_zero, List.set_cons_succ]
            refine wpAnyH_take (i := 4) (oi := { dst := (some 16), op := (Op.move (Operand.tmp 3)), type := 3, pos := "schema.go:59", after := #[{ on := 3, ground := Ground.guard }], guard := (some (3, false)) }) (v := ?v42) rfl (by kernel_rfl) (by kernel_rfl) (by kernel_rfl) (fun _ _ _ h => h) (Or.inl ⟨rfl, ?hy42⟩) hHeld39 ?rest42
            case hy42 => (intro w hSw; (try dsimp only at hSw); go_simp <;> with_reducible rfl)
            try simp only [Act.put, List.setIfInBounds_toArray, List.set_cons_zero, List.set_cons_succ]
            refine wpAnyH_take (i := 5) (oi := { dst := (some 17), op := (Op.binOp BinOp.gtr 3 (Operand.tmp 16) (Operand.const (Value.int IntKind.i64 0)) 3), type := 4, pos := "schema.go:59", after := #[{ on := 4, ground := Ground.data }, { on := 3, ground := Ground.guard }], guard := (some (3, false)) }) (v := ?v43) rfl (by kernel_rfl) (by kernel_rfl) (by kernel_rfl) (fun _ _ _ h => h) (Or.inl ⟨rfl, ?hy43⟩) hHeld39 ?rest43
            case hy43 => (intro w hSw; (try dsimp only at hSw); go_simp <;> with_reducible rfl)
            try simp only [Act.put, List.setIfInBounds_toArray, List.set_cons_zero, List.set_cons_succ]
            refine wpAnyH_take (i := 6) (oi := { dst := (some 18), op := (Op.move (Operand.tmp 17)), type := 4, pos := "schema.go:59", after := #[{ on := 5, ground := Ground.data }, { on := 3, ground := Ground.chain }, { on := 3, ground := Ground.guard }], guard := (some (3, false)) }) (v := ?v44) rfl (by kernel_rfl) (by kernel_rfl) (by kernel_rfl) (fun _ _ _ h => h) (Or.inl ⟨rfl, ?hy44⟩) hHeld39 ?rest44
            case hy44 => (intro w hSw; (try dsimp only at hSw); go_simp <;> with_reducible rfl)
            try simp only [Act.put, List.setIfInBounds_toArray, List.set_cons_zero, List.set_cons_succ]
            refine wpAnyH_take (i := 7) (oi := { dst := (some 19), op := (Op.move (Operand.tmp 0)), type := 30, pos := "schema.go:59", after := #[{ on := 6, ground := Ground.guard }], guard := (some (6, true)) }) (v := ?v45) rfl (by kernel_rfl) (by kernel_rfl) (by kernel_rfl) (fun _ _ _ h => h) (Or.inl ⟨rfl, ?hy45⟩) hHeld39 ?rest45
            case hy45 => (intro w hSw; (try dsimp only at hSw); go_simp <;> with_reducible rfl)
            try simp only [Act.put, List.setIfInBounds_toArray, List.set_cons_zero, List.set_cons_succ]
            refine wpAnyH_take (i := 8) (oi := { dst := (some 20), op := (Op.move (Operand.tmp 3)), type := 3, pos := "schema.go:59", after := #[{ on := 6, ground := Ground.guard }], guard := (some (6, true)) }) (v := ?v46) rfl (by kernel_rfl) (by kernel_rfl) (by kernel_rfl) (fun _ _ _ h => h) (Or.inl ⟨rfl, ?hy46⟩) hHeld39 ?rest46
            case hy46 => (intro w hSw; (try dsimp only at hSw); go_simp <;> with_reducible rfl)
            try simp only [Act.put, List.setIfInBounds_toArray, List.set_cons_zero, List.set_cons_succ]
            refine wpAnyH_take (i := 9) (oi := { dst := (some 21), op := (Op.binOp BinOp.sub 3 (Operand.tmp 20) (Operand.const (Value.int IntKind.i64 1)) 3), type := 3, pos := "schema.go:59", after := #[{ on := 8, ground := Ground.data }, { on := 6, ground := Ground.guard }], guard := (some (6, true)) }) (v := ?v47) rfl (by kernel_rfl) (by kernel_rfl) (by kernel_rfl) (fun _ _ _ h => h) (Or.inl ⟨rfl, ?hy47⟩) hHeld39 ?rest47
            case hy47 => (intro w hSw; (try dsimp only at hSw); go_simp <;> with_reducible rfl)
            try simp only [Act.put, List.setIfInBounds_toArray, List.set_cons_zero, List.set_cons_succ]
            refine wpAnyH_take (i := 10) (oi := { dst := (some 22), op := (Op.indexAddr 30 (Operand.tmp 19) (Operand.tmp 21)), type := 0, pos := "schema.go:59", after := #[{ on := 7, ground := Ground.data }, { on := 9, ground := Ground.data }, { on := 6, ground := Ground.guard }], guard := (some (6, true)) }) (v := ?v48) rfl (by kernel_rfl) (by kernel_rfl) (by kernel_rfl) (fun _ _ _ h => h) (Or.inl ⟨rfl, ?hy48⟩) hHeld39 ?rest48
            case hy48 => (intro w hSw; (try dsimp only at hSw); go_simp <;> with_reducible rfl)
            try simp only [Act.put, List.setIfInBounds_toArray, List.set_cons_zero, List.set_cons_succ]
            refine wpAnyH_take (i := 11) (oi := { dst := (some 23), op := (Op.load 23 (Operand.tmp 22)), type := 23, pos := "schema.go:59", after := #[{ on := 10, ground := Ground.data }, { on := 6, ground := Ground.guard }], guard := (some (6, true)) }) (v := ?v49) rfl (by kernel_rfl) (by kernel_rfl) (by kernel_rfl) (fun _ _ _ h => h) (Or.inl ⟨rfl, ?hy49⟩) hHeld39 ?rest49
            case hy49 => (intro w hSw; (try dsimp only at hSw); go_simp <;> with_reducible rfl)
            try simp only [Act.put, List.setIfInBounds_toArray, List.set_cons_zero, List.set_cons_succ]
            refine wpAnyH_take (i := 12) (oi := { dst := (some 24), op := (Op.load 23 (Operand.tmp 4)), type := 23, pos := "schema.go:59", after := #[{ on := 6, ground := Ground.guard }], guard := (some (6, true)) }) (v := ?v50) rfl (by kernel_rfl) (by kernel_rfl) (by kernel_rfl) (fun _ _ _ h => h) (Or.inl ⟨rfl, ?hy50⟩) hHeld39 ?rest50
            case hy50 => (intro w hSw; (try dsimp only at hSw); go_simp <;> with_reducible rfl)
            try simp only [Act.put, List.setIfInBounds_toArray, List.set_cons_zero, List.set_cons_succ]
            refine wpAnyH_ready (rs := [13]) (by kernel_rfl) (by simp) ?_
            refine AllReadyH.cons (o := { dst := (some 25), op := (Op.call { callee := (Callee.value (Operand.func 35)), args := #[(Operand.tmp 23), (Operand.tmp 24)], argTypes := #[23, 23] }), type := 3, pos := "schema.go:59", after := #[{ on := 11, ground := Ground.data }, { on := 12, ground := Ground.data }, { on := 6, ground := Ground.chain }, { on := 6, ground := Ground.guard }], guard := (some (6, true)) }) rfl (fun K hK => ?step51x0) ?more51x0
            case more51x0 => exact AllReadyH.nil
            go_simp
            (go_at_call 35; refine (s_Order y x _).mono ?_; rintro e w' ⟨rfl, hb⟩; replace hb : Ext w2 w' := Ext.trans (by repeat (first | with_reducible exact Ext.refl _ | with_reducible assumption | with_reducible refine Ext.drew ?_ | with_reducible refine Ext.drewN ?_ _ | with_reducible refine Ext.alloc ?_ _)) hb)
            refine hK.out _ _ ?hS51x0 (fun hHeld51 => ?rest51x0)
            case hS51x0 => ((try dsimp only); (exact MK.out _ (by repeat (first | with_reducible exact Ext.refl _ | with_reducible assumption | with_reducible refine Ext.drew ?_ | with_reducible refine Ext.drewN ?_ _ | with_reducible refine Ext.alloc ?_ _))))
            clear hK K
            clear hHeld39
            try simp only [Act.put, List.setIfInBounds_toArray, List.set_cons_zero, List.set_cons_succ]
            refine wpAnyH_take (i := 14) (oi := { dst := (some 26), op := (Op.binOp BinOp.geq 3 (Operand.tmp 25) (Operand.const (Value.int IntKind.i64 0)) 3), type := 4, pos := "schema.go:59", after := #[{ on := 13, ground := Ground.data }, { on := 6, ground := Ground.guard }], guard := (some (6, true)) }) (v := ?v52) rfl (by kernel_rfl) (by kernel_rfl) (by kernel_rfl) (fun _ _ _ h => h) (Or.inl ⟨rfl, ?hy52⟩) hHeld51 ?rest52
            case hy52 => (intro w hSw; (try dsimp only at hSw); go_simp <;> with_reducible rfl)
            try simp only [Act.put, List.setIfInBounds_toArray, List.set_cons_zero, List.set_cons_succ]
            refine wpAnyH_take (i := 15) (oi := { dst := (some 27), op := (Op.pick (Operand.tmp 18) (Operand.tmp 26) (Operand.const (Value.bool false))), type := 4, pos := "schema.go:59", after := #[{ on := 6, ground := Ground.data }, { on := 14, ground := Ground.data }, { on := 3, ground := Ground.guard }], guard := (some (3, false)) }) (v := ?v53) rfl (by kernel_rfl) (by kernel_rfl) (by kernel_rfl) (fun _ _ _ h => h) (Or.inl ⟨rfl, ?hy53⟩) hHeld51 ?rest53
            case hy53 => (intro w hSw; (try dsimp only at hSw); go_simp <;> with_reducible rfl)
            try simp only [Act.put, List.setIfInBounds_toArray, List.set_cons_zero, List.set_cons_succ]
            refine wpAnyH_take (i := 16) (oi := { dst := (some 28), op := (Op.pick (Operand.tmp 15) (Operand.const (Value.bool true)) (Operand.tmp 27)), type := 4, pos := "schema.go:59", after := #[{ on := 3, ground := Ground.data }, { on := 15, ground := Ground.data }], guard := none }) (v := ?v54) rfl (by kernel_rfl) (by kernel_rfl) (by kernel_rfl) (fun _ _ _ h => h) (Or.inl ⟨rfl, ?hy54⟩) hHeld51 ?rest54
            case hy54 => (intro w hSw; (try dsimp only at hSw); go_simp <;> with_reducible rfl)
            try simp only [Act.put, List.setIfInBounds_toArray, List.set_cons_zero, List.set_cons_succ]
            refine wpAnyH_done (by kernel_rfl) ?_ _
            clear hHeld51
            go_wp2_with fail
            go_ret
            exact ⟨ret_bool HX.out.symm, hE.trans (hx.trans (by repeat (first | with_reducible exact Ext.refl _ | with_reducible assumption | with_reducible refine Ext.drew ?_ | with_reducible refine Ext.drewN ?_ _ | with_reducible refine Ext.alloc ?_ _)))⟩
      · have HX := Lib.hid (HT.out (HC.out hck))
        have MK := Lib.hid (fun V (e : Ext w2 V) => mk_one hb e)
        have hck' : (chkR x != 0) = true := by simpa using hck
        clear HT HC HL HZ HS HD0 hb hck
        refine wp_region_held_drew (S := (fun V => V.cell? ⟨g, 0, none⟩ = some (.int .i64 x.kind) ∧ V.cell? ⟨g, 1, none⟩ = some (.int .i64 x.n) ∧ V.cell? ⟨g, 2, none⟩ = some (.string x.name) ∧ V.cell? ⟨g, 3, none⟩ = some (.string x.key) ∧ V.cell? ⟨g, 4, none⟩ = some (.string x.frm) ∧ V.cell? ⟨g, 5, none⟩ = some (.string x.tov) ∧ Ext w2 V)) (by kernel_rfl) ?hs55 (fun hHeld => ?go55)
        case hs55 => (exact MK.out _ (by repeat (first | with_reducible exact Ext.refl _ | with_reducible assumption | with_reducible refine Ext.drew ?_ | with_reducible refine Ext.drewN ?_ _ | with_reducible refine Ext.alloc ?_ _)))
        refine wpAnyH_take (i := 0) (oi := { dst := (some 12), op := (Op.load 23 (Operand.tmp 4)), type := 23, pos := "schema.go:59", after := #[], guard := none }) (v := ?v56) rfl (by kernel_rfl) (by kernel_rfl) (by kernel_rfl) (fun _ _ _ h => h) (Or.inl ⟨rfl, ?hy56⟩) hHeld ?rest56
        case hy56 => (intro w hSw; (try dsimp only at hSw); go_simp <;> with_reducible rfl)
        try simp only [Act.put, List.setIfInBounds_toArray, List.set_cons_zero, List.set_cons_succ]
        refine wpAnyH_ready (rs := [1]) (by kernel_rfl) (by simp) ?_
        refine AllReadyH.cons (o := { dst := (some 13), op := (Op.call { callee := (Callee.value (Operand.func 6)), args := #[(Operand.tmp 12)], argTypes := #[23] }), type := 24, pos := "schema.go:59", after := #[{ on := 0, ground := Ground.data }], guard := none }) rfl (fun K hK => ?step57x0) ?more57x0
        case more57x0 => exact AllReadyH.nil
        go_simp
        (go_at_call 6; refine (s_Check x _).mono ?_; rintro e w' ⟨rfl, hb⟩; replace hb : Ext w2 w' := Ext.trans (by repeat (first | with_reducible exact Ext.refl _ | with_reducible assumption | with_reducible refine Ext.drew ?_ | with_reducible refine Ext.drewN ?_ _ | with_reducible refine Ext.alloc ?_ _)) hb)
        refine hK.out _ _ ?hS57x0 (fun hHeld57 => ?rest57x0)
        case hS57x0 => ((try dsimp only); (exact MK.out _ (by repeat (first | with_reducible exact Ext.refl _ | with_reducible assumption | with_reducible refine Ext.drew ?_ | with_reducible refine Ext.drewN ?_ _ | with_reducible refine Ext.alloc ?_ _))))
        clear hK K
        clear hHeld
        try simp only [Act.put, List.setIfInBounds_toArray, List.set_cons_zero, List.set_cons_succ]
        refine wpAnyH_take (i := 2) (oi := { dst := (some 14), op := (Op.binOp BinOp.neq 24 (Operand.tmp 13) (Operand.const (Value.int IntKind.i64 0)) 24), type := 4, pos := "schema.go:59", after := #[{ on := 1, ground := Ground.data }], guard := none }) (v := ?v58) rfl (by kernel_rfl) (by kernel_rfl) (by kernel_rfl) (fun _ _ _ h => h) (Or.inl ⟨rfl, ?hy58⟩) hHeld57 ?rest58
        case hy58 => (intro w hSw; (try dsimp only at hSw); go_simp <;> with_reducible rfl)
        try simp only [Act.put, List.setIfInBounds_toArray, List.set_cons_zero, List.set_cons_succ]
        refine wpAnyH_take (i := 3) (oi := { dst := (some 15), op := (Op.move (Operand.tmp 14)), type := 4, pos := "schema.go:59", after := #[{ on := 2, ground := Ground.data }, { on := 1, ground := Ground.chain }], guard := none }) (v := ?v59) rfl (by kernel_rfl) (by kernel_rfl) (by kernel_rfl) (fun _ _ _ h => h) (Or.inl ⟨rfl, ?hy59⟩) hHeld57 ?rest59
        case hy59 => (intro w hSw; (try dsimp only at hSw); go_simp <;> with_reducible rfl)
        try simp only [Act.put, List.setIfInBounds_toArray, List.set_cons_zero, List.set_cons_succ]
        refine wpAnyH_take (i := 4) (oi := { dst := (some 16), op := (Op.move (Operand.tmp 3)), type := 3, pos := "schema.go:59", after := #[{ on := 3, ground := Ground.guard }], guard := (some (3, false)) }) (v := undef) rfl (by kernel_rfl) (by kernel_rfl) (by kernel_rfl) (fun _ _ _ h => h) (Or.inr ⟨rfl, rfl⟩) hHeld57 ?rest60
        try simp only [Act.put, List.setIfInBounds_toArray, List.set_cons_zero, List.set_cons_succ]
        refine wpAnyH_take (i := 5) (oi := { dst := (some 17), op := (Op.binOp BinOp.gtr 3 (Operand.tmp 16) (Operand.const (Value.int IntKind.i64 0)) 3), type := 4, pos := "schema.go:59", after := #[{ on := 4, ground := Ground.data }, { on := 3, ground := Ground.guard }], guard := (some (3, false)) }) (v := undef) rfl (by kernel_rfl) (by kernel_rfl) (by kernel_rfl) (fun _ _ _ h => h) (Or.inr ⟨rfl, rfl⟩) hHeld57 ?rest61
        try simp only [Act.put, List.setIfInBounds_toArray, List.set_cons_zero, List.set_cons_succ]
        refine wpAnyH_take (i := 6) (oi := { dst := (some 18), op := (Op.move (Operand.tmp 17)), type := 4, pos := "schema.go:59", after := #[{ on := 5, ground := Ground.data }, { on := 3, ground := Ground.chain }, { on := 3, ground := Ground.guard }], guard := (some (3, false)) }) (v := undef) rfl (by kernel_rfl) (by kernel_rfl) (by kernel_rfl) (fun _ _ _ h => h) (Or.inr ⟨rfl, rfl⟩) hHeld57 ?rest62
        try simp only [Act.put, List.setIfInBounds_toArray, List.set_cons_zero, List.set_cons_succ]
        refine wpAnyH_take (i := 7) (oi := { dst := (some 19), op := (Op.move (Operand.tmp 0)), type := 30, pos := "schema.go:59", after := #[{ on := 6, ground := Ground.guard }], guard := (some (6, true)) }) (v := undef) rfl (by kernel_rfl) (by kernel_rfl) (by kernel_rfl) (fun _ _ _ h => h) (Or.inr ⟨rfl, rfl⟩) hHeld57 ?rest63
        try simp only [Act.put, List.setIfInBounds_toArray, List.set_cons_zero, List.set_cons_succ]
        refine wpAnyH_take (i := 8) (oi := { dst := (some 20), op := (Op.move (Operand.tmp 3)), type := 3, pos := "schema.go:59", after := #[{ on := 6, ground := Ground.guard }], guard := (some (6, true)) }) (v := undef) rfl (by kernel_rfl) (by kernel_rfl) (by kernel_rfl) (fun _ _ _ h => h) (Or.inr ⟨rfl, rfl⟩) hHeld57 ?rest64
        try simp only [Act.put, List.setIfInBounds_toArray, List.set_cons_zero, List.set_cons_succ]
        refine wpAnyH_take (i := 9) (oi := { dst := (some 21), op := (Op.binOp BinOp.sub 3 (Operand.tmp 20) (Operand.const (Value.int IntKind.i64 1)) 3), type := 3, pos := "schema.go:59", after := #[{ on := 8, ground := Ground.data }, { on := 6, ground := Ground.guard }], guard := (some (6, true)) }) (v := undef) rfl (by kernel_rfl) (by kernel_rfl) (by kernel_rfl) (fun _ _ _ h => h) (Or.inr ⟨rfl, rfl⟩) hHeld57 ?rest65
        try simp only [Act.put, List.setIfInBounds_toArray, List.set_cons_zero, List.set_cons_succ]
        refine wpAnyH_take (i := 10) (oi := { dst := (some 22), op := (Op.indexAddr 30 (Operand.tmp 19) (Operand.tmp 21)), type := 0, pos := "schema.go:59", after := #[{ on := 7, ground := Ground.data }, { on := 9, ground := Ground.data }, { on := 6, ground := Ground.guard }], guard := (some (6, true)) }) (v := undef) rfl (by kernel_rfl) (by kernel_rfl) (by kernel_rfl) (fun _ _ _ h => h) (Or.inr ⟨rfl, rfl⟩) hHeld57 ?rest66
        try simp only [Act.put, List.setIfInBounds_toArray, List.set_cons_zero, List.set_cons_succ]
        refine wpAnyH_take (i := 11) (oi := { dst := (some 23), op := (Op.load 23 (Operand.tmp 22)), type := 23, pos := "schema.go:59", after := #[{ on := 10, ground := Ground.data }, { on := 6, ground := Ground.guard }], guard := (some (6, true)) }) (v := undef) rfl (by kernel_rfl) (by kernel_rfl) (by kernel_rfl) (fun _ _ _ h => h) (Or.inr ⟨rfl, rfl⟩) hHeld57 ?rest67
        try simp only [Act.put, List.setIfInBounds_toArray, List.set_cons_zero, List.set_cons_succ]
        refine wpAnyH_take (i := 12) (oi := { dst := (some 24), op := (Op.load 23 (Operand.tmp 4)), type := 23, pos := "schema.go:59", after := #[{ on := 6, ground := Ground.guard }], guard := (some (6, true)) }) (v := undef) rfl (by kernel_rfl) (by kernel_rfl) (by kernel_rfl) (fun _ _ _ h => h) (Or.inr ⟨rfl, rfl⟩) hHeld57 ?rest68
        try simp only [Act.put, List.setIfInBounds_toArray, List.set_cons_zero, List.set_cons_succ]
        refine wpAnyH_take (i := 13) (oi := { dst := (some 25), op := (Op.call { callee := (Callee.value (Operand.func 35)), args := #[(Operand.tmp 23), (Operand.tmp 24)], argTypes := #[23, 23] }), type := 3, pos := "schema.go:59", after := #[{ on := 11, ground := Ground.data }, { on := 12, ground := Ground.data }, { on := 6, ground := Ground.chain }, { on := 6, ground := Ground.guard }], guard := (some (6, true)) }) (v := undef) rfl (by kernel_rfl) (by kernel_rfl) (by kernel_rfl) (fun _ _ _ h => h) (Or.inr ⟨rfl, rfl⟩) hHeld57 ?rest69
        try simp only [Act.put, List.setIfInBounds_toArray, List.set_cons_zero, List.set_cons_succ]
        refine wpAnyH_take (i := 14) (oi := { dst := (some 26), op := (Op.binOp BinOp.geq 3 (Operand.tmp 25) (Operand.const (Value.int IntKind.i64 0)) 3), type := 4, pos := "schema.go:59", after := #[{ on := 13, ground := Ground.data }, { on := 6, ground := Ground.guard }], guard := (some (6, true)) }) (v := undef) rfl (by kernel_rfl) (by kernel_rfl) (by kernel_rfl) (fun _ _ _ h => h) (Or.inr ⟨rfl, rfl⟩) hHeld57 ?rest70
        try simp only [Act.put, List.setIfInBounds_toArray, List.set_cons_zero, List.set_cons_succ]
        refine wpAnyH_take (i := 15) (oi := { dst := (some 27), op := (Op.pick (Operand.tmp 18) (Operand.tmp 26) (Operand.const (Value.bool false))), type := 4, pos := "schema.go:59", after := #[{ on := 6, ground := Ground.data }, { on := 14, ground := Ground.data }, { on := 3, ground := Ground.guard }], guard := (some (3, false)) }) (v := undef) rfl (by kernel_rfl) (by kernel_rfl) (by kernel_rfl) (fun _ _ _ h => h) (Or.inr ⟨rfl, rfl⟩) hHeld57 ?rest71
        try simp only [Act.put, List.setIfInBounds_toArray, List.set_cons_zero, List.set_cons_succ]
        refine wpAnyH_take (i := 16) (oi := { dst := (some 28), op := (Op.pick (Operand.tmp 15) (Operand.const (Value.bool true)) (Operand.tmp 27)), type := 4, pos := "schema.go:59", after := #[{ on := 3, ground := Ground.data }, { on := 15, ground := Ground.data }], guard := none }) (v := ?v72) rfl (by kernel_rfl) (by kernel_rfl) (by kernel_rfl) (fun _ _ _ h => h) (Or.inl ⟨rfl, ?hy72⟩) hHeld57 ?rest72
        case hy72 => (intro w hSw; (try dsimp only at hSw); go_simp <;> with_reducible rfl)
        try simp only [Act.put, List.setIfInBounds_toArray, List.set_cons_zero, List.set_cons_succ]
        refine wpAnyH_done (by kernel_rfl) ?_ _
        clear hHeld57
        go_wp2_with fail
        go_ret
        exact ⟨ret_bool HX.out.symm, hE.trans (hx.trans (by repeat (first | with_reducible exact Ext.refl _ | with_reducible assumption | with_reducible refine Ext.drew ?_ | with_reducible refine Ext.drewN ?_ _ | with_reducible refine Ext.alloc ?_ _)))⟩
    · have HF := Lib.hid (HY.out (fun j hj => hn.out j (by omega)))
      go_wp2
      all_goals
        go_ret
        exact ⟨ret_bool (by rw [HF.out, decide_eq_decide]; omega), hE⟩

end Go.Proofs.YtanclhcoiagcfaaGreatDoor
