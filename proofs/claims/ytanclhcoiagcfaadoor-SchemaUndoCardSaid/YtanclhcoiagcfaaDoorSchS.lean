/- THE WALKS over schema.Add and schema.Drop. -/
import Derived.Test.YtanclhcoiagcfaaDoorSchR
namespace Go.Proofs.YtanclhcoiagcfaaDoor
open Go.RowKit

set_option maxRecDepth 100000 in
set_option maxHeartbeats 3200000 in
theorem s_Add (s : List RuleP) (A : Option Addr) (c : Nat) (r : RuleP) (w : World) (hs : Rules w A s) (hA : A = none → s.length = 0) (hl : s.length ≤ 1000) :
    Calls Tryd.prog 8 #[.slice A s.length c, r.val] w (Handed w (addR s r)) := by
  obtain ⟨g, w1, hg, hw1, hb, hx, -⟩ := box_rule w r 23
  have hs1 := hs.ext hx
  have HA := Lib.hid hA
  clear hs hA
  show Calls Tryd.prog _ #[.slice A s.length c, .agg #[.int .i64 r.kind, .int .i64 r.n, .string r.name, .string r.key, .string r.frm, .string r.tov]] w _
  go_enter Tryd.func8, Tryd.ntmps8
  go_wp2_with fail
  rw [← hw1, ← hg]
  clear hw1 hg
  refine (s_Valid s A c w1 hs1 hl).mono ?_
  rintro e w2 ⟨rfl, hE2⟩
  replace hx := hx.trans hE2
  replace hb := hb.ext hE2
  replace hs1 := hs1.ext hE2
  clear hE2
  obtain ⟨c0, c1, c2, c3, c4, c5⟩ := id hb
  by_cases hv : validB s = true
  · have HV := Lib.hid hv
    have hv' : (!validB s) = false := by rw [hv]; rfl
    clear hv
    go_wp2_with fail
    refine (s_Check r _).mono ?_
    rintro e w3 ⟨rfl, hE3⟩
    replace hx := hx.trans hE3
    replace hb := hb.ext hE3
    replace hs1 := hs1.ext hE3
    clear c0 c1 c2 c3 c4 c5 hE3 hv'
    obtain ⟨c0, c1, c2, c3, c4, c5⟩ := id hb
    by_cases hc : chkR r = 0
    · have HC := Lib.hid hc
      have hc' : (chkR r != 0) = false := by rw [hc]; rfl
      clear hc
      go_wp2_with fail
      refine (s_BSF s A c r _ hs1 (validB_iff.1 HV.out).2.2 hl).mono ?_
      rintro e w4 ⟨rfl, hE4⟩
      replace hx := hx.trans hE4
      replace hb := hb.ext hE4
      replace hs1 := hs1.ext hE4
      clear c0 c1 c2 c3 c4 c5 hE4 hc'
      have HS := Lib.hid hs1
      clear hs1
      obtain ⟨c0, c1, c2, c3, c4, c5⟩ := id hb
      have hlo := low_le s r
      by_cases hm : r ∈ s
      · have HM := Lib.hid hm
        rw [decide_eq_true hm]
        clear hm
        have HF := Lib.hid (show addR s r = ([], 7) by unfold addR; rw [HV.out, if_neg (by simp), if_neg (by rw [HC.out]; simp), if_pos HM.out])
        go_wp2_with fail
        go_ret2
        exact Handed.none_ HF.out hx
      · have HM := Lib.hid hm
        rw [decide_eq_false hm]
        clear hm
        by_cases h40 : s.length = 40
        · have HF := Lib.hid (show addR s r = ([], 20) by unfold addR; rw [HV.out, if_neg (by simp), if_neg (by rw [HC.out]; simp), if_neg HM.out, if_pos h40])
          have h40' : ((s.length : Int) == 40) = true := by rw [h40]; rfl
          clear h40
          go_wp2_with fail
          go_ret2
          exact Handed.none_ HF.out hx
        · have HF := Lib.hid (show addR s r = (insR s r, 0) by unfold addR; rw [HV.out, if_neg (by simp), if_neg (by rw [HC.out]; simp), if_neg HM.out, if_neg h40])
          have h40' : ((s.length : Int) == 40) = false := by simp; omega
          have MK := Lib.hid (fun V (e : Ext w4 V) => mk_one hb e)
          clear h40 hb c0 c1 c2 c3 c4 c5
          go_wp2_with fail
          refine wp_region_held_drew (S := (fun V => V.cell? ⟨g, 0, none⟩ = some (.int .i64 r.kind) ∧ V.cell? ⟨g, 1, none⟩ = some (.int .i64 r.n) ∧ V.cell? ⟨g, 2, none⟩ = some (.string r.name) ∧ V.cell? ⟨g, 3, none⟩ = some (.string r.key) ∧ V.cell? ⟨g, 4, none⟩ = some (.string r.frm) ∧ V.cell? ⟨g, 5, none⟩ = some (.string r.tov) ∧ Ext w4 V)) (by kernel_rfl) ?hs1 (fun hHeld => ?go1)
          case hs1 => (exact MK.out _ (by repeat (first | with_reducible exact Ext.refl _ | with_reducible assumption | with_reducible refine Ext.drew ?_ | with_reducible refine Ext.drewN ?_ _ | with_reducible refine Ext.alloc ?_ _)))
          refine wpAnyH_take (i := 0) (oi := { dst := (some 27), op := (Op.move (Operand.tmp 0)), type := 27, pos := "schema.go:81", after := #[], guard := none }) (v := ?v2) rfl (by kernel_rfl) (by kernel_rfl) (by kernel_rfl) (fun _ _ _ h => h) (Or.inl ⟨rfl, ?hy2⟩) hHeld ?rest2
          case hy2 => (intro w hSw; (try dsimp only at hSw); go_simp <;> with_reducible rfl)
          (try simp only [Act.put]); (try simp only [List.setIfInBounds_toArray]); (try simp only [List.set_cons_succ]); (try simp only [List.set_cons_zero])
          refine wpAnyH_take (i := 2) (oi := { dst := (some 29), op := (Op.move (Operand.tmp 7)), type := 3, pos := "schema.go:81", after := #[], guard := none }) (v := ?v3) rfl (by kernel_rfl) (by kernel_rfl) (by kernel_rfl) (fun _ _ _ h => h) (Or.inl ⟨rfl, ?hy3⟩) hHeld ?rest3
          case hy3 => (intro w hSw; (try dsimp only at hSw); go_simp <;> with_reducible rfl)
          (try simp only [Act.put]); (try simp only [List.setIfInBounds_toArray]); (try simp only [List.set_cons_succ]); (try simp only [List.set_cons_zero])
          refine wpAnyH_take (i := 3) (oi := { dst := (some 30), op := (Op.load 23 (Operand.tmp 3)), type := 23, pos := "schema.go:81", after := #[], guard := none }) (v := ?v4) rfl (by kernel_rfl) (by kernel_rfl) (by kernel_rfl) (fun _ _ _ h => h) (Or.inl ⟨rfl, ?hy4⟩) hHeld ?rest4
          case hy4 => (intro w hSw; (try dsimp only at hSw); go_simp <;> with_reducible rfl)
          (try simp only [Act.put]); (try simp only [List.setIfInBounds_toArray]); (try simp only [List.set_cons_succ]); (try simp only [List.set_cons_zero])
          refine wpAnyH_ready (rs := [1, 4]) (by kernel_rfl) (by simp) ?_
          refine AllReadyH.cons (o := { dst := (some 28), op := (Op.call { callee := (Callee.value (Operand.func 21)), args := #[(Operand.tmp 27)], argTypes := #[27] }), type := 27, pos := "schema.go:81", after := #[{ on := 0, ground := Ground.data }], guard := none }) rfl (fun K hK => ?step5x0) ?more5x0
          case more5x0 =>
            refine AllReadyH.cons (o := { dst := (some 31), op := (Op.buildSlice 27 1 #[(0, (Operand.tmp 30))]), type := 27, pos := "schema.go:81", after := #[{ on := 3, ground := Ground.data }], guard := none }) rfl (fun K hK => ?step5x1) ?more5x1
            case more5x1 => exact AllReadyH.nil
            go_simp
            refine hK.out _ _ ?hS5x1 (fun hHeld5 => ?rest5x1)
            case hS5x1 => first | (exact MK.out _ (by repeat (first | with_reducible exact Ext.refl _ | with_reducible assumption | with_reducible refine Ext.drew ?_ | with_reducible refine Ext.drewN ?_ _ | with_reducible refine Ext.alloc ?_ _))) | ((try dsimp only); (exact MK.out _ (by repeat (first | with_reducible exact Ext.refl _ | with_reducible assumption | with_reducible refine Ext.drew ?_ | with_reducible refine Ext.drewN ?_ _ | with_reducible refine Ext.alloc ?_ _))))
            clear hK K
            clear hHeld
            (try simp only [Act.put]); (try simp only [List.setIfInBounds_toArray]); (try simp only [List.set_cons_succ]); (try simp only [List.set_cons_zero])
            refine wpAnyH_ready (rs := [1]) (by kernel_rfl) (by simp) ?_
            refine AllReadyH.cons (o := { dst := (some 28), op := (Op.call { callee := (Callee.value (Operand.func 21)), args := #[(Operand.tmp 27)], argTypes := #[27] }), type := 27, pos := "schema.go:81", after := #[{ on := 0, ground := Ground.data }], guard := none }) rfl (fun K hK => ?step6x0) ?more6x0
            case more6x0 => exact AllReadyH.nil
            go_simp
            (go_at_call 21; refine (s_Clone s A c _ (HS.out.ext (by repeat (first | with_reducible exact Ext.refl _ | with_reducible assumption | with_reducible refine Ext.drew ?_ | with_reducible refine Ext.drewN ?_ _ | with_reducible refine Ext.alloc ?_ _))) HA.out hl).mono ?_; rintro e w' ⟨v, rfl, hown, hb2⟩; have hE' : Ext w4 w' := Ext.trans (by repeat (first | with_reducible exact Ext.refl _ | with_reducible assumption | with_reducible refine Ext.drew ?_ | with_reducible refine Ext.drewN ?_ _ | with_reducible refine Ext.alloc ?_ _)) hb2)
            refine hK.out _ _ ?hS6x0 (fun hHeld6 => ?rest6x0)
            case hS6x0 => first | (exact MK.out _ (by repeat (first | with_reducible exact Ext.refl _ | with_reducible assumption | with_reducible refine Ext.drew ?_ | with_reducible refine Ext.drewN ?_ _ | with_reducible refine Ext.alloc ?_ _))) | ((try dsimp only); (exact MK.out _ (by repeat (first | with_reducible exact Ext.refl _ | with_reducible assumption | with_reducible refine Ext.drew ?_ | with_reducible refine Ext.drewN ?_ _ | with_reducible refine Ext.alloc ?_ _))))
            clear hK K
            clear hHeld5
            (try simp only [Act.put]); (try simp only [List.setIfInBounds_toArray]); (try simp only [List.set_cons_succ]); (try simp only [List.set_cons_zero])
            refine wpAnyH_ready (rs := [5]) (by kernel_rfl) (by simp) ?_
            refine AllReadyH.cons (o := { dst := (some 32), op := (Op.call { callee := (Callee.value (Operand.func 20)), args := #[(Operand.tmp 28), (Operand.tmp 29), (Operand.tmp 31)], argTypes := #[27, 3, 27] }), type := 27, pos := "schema.go:81", after := #[{ on := 1, ground := Ground.data }, { on := 2, ground := Ground.data }, { on := 4, ground := Ground.data }, { on := 1, ground := Ground.chain }], guard := none }) rfl (fun K hK => ?step7x0) ?more7x0
            case more7x0 => exact AllReadyH.nil
            go_simp
            (go_at_call 20; have hv9 : Blk w' w4.heap.size 23 r.cells := Blk.ext (w := (w4.alloc (.cells #[.int .i64 r.kind, .int .i64 r.n, .string r.name, .string r.key, .string r.frm, .string r.tov] 23)).drew) (heap_alloc_new w4 _) hb2; have ho9 : w'.ownsRow w4.heap.size 23 6 v s.length (flatR s) := own_mono hown (Ext.le (a := w4) (by repeat (first | with_reducible exact Ext.refl _ | with_reducible assumption | with_reducible refine Ext.drew ?_ | with_reducible refine Ext.drewN ?_ _ | with_reducible refine Ext.alloc ?_ _))); have hn9 : v.ownBlock ≠ some w4.heap.size := fun e => (by have h : (w4.alloc (.cells #[.int .i64 r.kind, .int .i64 r.n, .string r.name, .string r.key, .string r.frm, .string r.tov] 23)).heap.size ≤ w4.heap.size := (World.ownsRow.lt hown _ e).1; have h2 : (w4.alloc (.cells #[.int .i64 r.kind, .int .i64 r.n, .string r.name, .string r.key, .string r.frm, .string r.tov] 23)).heap.size = w4.heap.size + 1 := (by simp); omega); refine (s_Insert w4 _ s r v _ (lowN s r) ho9 hE' hv9 hn9 hlo hl).mono ?_; rintro e w'' ⟨v2, rfl, hown2, hb3⟩)
            refine hK.out _ _ ?hS7x0 (fun hHeld7 => ?rest7x0)
            case hS7x0 => first | (exact MK.out _ (by repeat (first | with_reducible exact Ext.refl _ | with_reducible assumption | with_reducible refine Ext.drew ?_ | with_reducible refine Ext.drewN ?_ _ | with_reducible refine Ext.alloc ?_ _))) | ((try dsimp only); (exact MK.out _ (by repeat (first | with_reducible exact Ext.refl _ | with_reducible assumption | with_reducible refine Ext.drew ?_ | with_reducible refine Ext.drewN ?_ _ | with_reducible refine Ext.alloc ?_ _))))
            clear hK K
            clear hHeld6
            (try simp only [Act.put]); (try simp only [List.setIfInBounds_toArray]); (try simp only [List.set_cons_succ]); (try simp only [List.set_cons_zero])
            refine wpAnyH_take (i := 6) (oi := { dst := (some 4), op := (Op.assign (Operand.tmp 32)), type := 27, pos := "schema.go:81", after := #[{ on := 5, ground := Ground.data }, { on := 5, ground := Ground.chain }, { on := 0, ground := Ground.phase }, { on := 1, ground := Ground.phase }, { on := 2, ground := Ground.phase }, { on := 3, ground := Ground.phase }, { on := 4, ground := Ground.phase }, { on := 5, ground := Ground.phase }], guard := none }) (v := ?v8) rfl (by kernel_rfl) (by kernel_rfl) (by kernel_rfl) (fun _ _ _ h => h) (Or.inl ⟨rfl, ?hy8⟩) hHeld7 ?rest8
            case hy8 => (intro w hSw; (try dsimp only at hSw); go_simp <;> with_reducible rfl)
            (try simp only [Act.put]); (try simp only [List.setIfInBounds_toArray]); (try simp only [List.set_cons_succ]); (try simp only [List.set_cons_zero])
            refine wpAnyH_take (i := 7) (oi := { dst := (some 5), op := (Op.assign (Operand.const (Value.int IntKind.i64 0))), type := 28, pos := "schema.go:81", after := #[{ on := 6, ground := Ground.chain }, { on := 0, ground := Ground.phase }, { on := 1, ground := Ground.phase }, { on := 2, ground := Ground.phase }, { on := 3, ground := Ground.phase }, { on := 4, ground := Ground.phase }, { on := 5, ground := Ground.phase }, { on := 6, ground := Ground.phase }], guard := none }) (v := ?v9) rfl (by kernel_rfl) (by kernel_rfl) (by kernel_rfl) (fun _ _ _ h => h) (Or.inl ⟨rfl, ?hy9⟩) hHeld7 ?rest9
            case hy9 => (intro w hSw; (try dsimp only at hSw); go_simp <;> with_reducible rfl)
            (try simp only [Act.put]); (try simp only [List.setIfInBounds_toArray]); (try simp only [List.set_cons_succ]); (try simp only [List.set_cons_zero])
            refine wpAnyH_done (by kernel_rfl) ?_ _
            clear hHeld7
            go_wp2_with fail
            go_ret2
            exact Handed.some_ HF.out hown2 (by rw [insR_len]) (hx.trans hb3)
          go_simp
          (go_at_call 21; refine (s_Clone s A c _ (HS.out.ext (by repeat (first | with_reducible exact Ext.refl _ | with_reducible assumption | with_reducible refine Ext.drew ?_ | with_reducible refine Ext.drewN ?_ _ | with_reducible refine Ext.alloc ?_ _))) HA.out hl).mono ?_; rintro e w' ⟨v, rfl, hown, hb2⟩; have hE' : Ext w4 w' := Ext.trans (by repeat (first | with_reducible exact Ext.refl _ | with_reducible assumption | with_reducible refine Ext.drew ?_ | with_reducible refine Ext.drewN ?_ _ | with_reducible refine Ext.alloc ?_ _)) hb2)
          refine hK.out _ _ ?hS5x0 (fun hHeld5 => ?rest5x0)
          case hS5x0 => first | (exact MK.out _ (by repeat (first | with_reducible exact Ext.refl _ | with_reducible assumption | with_reducible refine Ext.drew ?_ | with_reducible refine Ext.drewN ?_ _ | with_reducible refine Ext.alloc ?_ _))) | ((try dsimp only); (exact MK.out _ (by repeat (first | with_reducible exact Ext.refl _ | with_reducible assumption | with_reducible refine Ext.drew ?_ | with_reducible refine Ext.drewN ?_ _ | with_reducible refine Ext.alloc ?_ _))))
          clear hK K
          clear hHeld
          (try simp only [Act.put]); (try simp only [List.setIfInBounds_toArray]); (try simp only [List.set_cons_succ]); (try simp only [List.set_cons_zero])
          refine wpAnyH_ready (rs := [4]) (by kernel_rfl) (by simp) ?_
          refine AllReadyH.cons (o := { dst := (some 31), op := (Op.buildSlice 27 1 #[(0, (Operand.tmp 30))]), type := 27, pos := "schema.go:81", after := #[{ on := 3, ground := Ground.data }], guard := none }) rfl (fun K hK => ?step10x0) ?more10x0
          case more10x0 => exact AllReadyH.nil
          go_simp
          refine hK.out _ _ ?hS10x0 (fun hHeld10 => ?rest10x0)
          case hS10x0 => first | (exact MK.out _ (by repeat (first | with_reducible exact Ext.refl _ | with_reducible assumption | with_reducible refine Ext.drew ?_ | with_reducible refine Ext.drewN ?_ _ | with_reducible refine Ext.alloc ?_ _))) | ((try dsimp only); (exact MK.out _ (by repeat (first | with_reducible exact Ext.refl _ | with_reducible assumption | with_reducible refine Ext.drew ?_ | with_reducible refine Ext.drewN ?_ _ | with_reducible refine Ext.alloc ?_ _))))
          clear hK K
          clear hHeld5
          (try simp only [Act.put]); (try simp only [List.setIfInBounds_toArray]); (try simp only [List.set_cons_succ]); (try simp only [List.set_cons_zero])
          refine wpAnyH_ready (rs := [5]) (by kernel_rfl) (by simp) ?_
          refine AllReadyH.cons (o := { dst := (some 32), op := (Op.call { callee := (Callee.value (Operand.func 20)), args := #[(Operand.tmp 28), (Operand.tmp 29), (Operand.tmp 31)], argTypes := #[27, 3, 27] }), type := 27, pos := "schema.go:81", after := #[{ on := 1, ground := Ground.data }, { on := 2, ground := Ground.data }, { on := 4, ground := Ground.data }, { on := 1, ground := Ground.chain }], guard := none }) rfl (fun K hK => ?step11x0) ?more11x0
          case more11x0 => exact AllReadyH.nil
          go_simp
          (go_at_call 20; have hv9 : Blk (w'.alloc (.cells #[.int .i64 r.kind, .int .i64 r.n, .string r.name, .string r.key, .string r.frm, .string r.tov] 23)) w'.heap.size 23 r.cells := heap_alloc_new w' _; have ho9 : (w'.alloc (.cells #[.int .i64 r.kind, .int .i64 r.n, .string r.name, .string r.key, .string r.frm, .string r.tov] 23)).ownsRow w4.heap.size 23 6 v s.length (flatR s) := own_ext (own_mono hown (Ext.le (a := w4) (by repeat (first | with_reducible exact Ext.refl _ | with_reducible assumption | with_reducible refine Ext.drew ?_ | with_reducible refine Ext.drewN ?_ _ | with_reducible refine Ext.alloc ?_ _)))) ((Ext.refl w').alloc _); have hn9 : v.ownBlock ≠ some w'.heap.size := fun e => Nat.lt_irrefl _ (World.ownsRow.lt hown _ e).2; refine (s_Insert w4 _ s r v _ (lowN s r) ho9 (hE'.alloc _) hv9 hn9 hlo hl).mono ?_; rintro e w'' ⟨v2, rfl, hown2, hb3⟩)
          refine hK.out _ _ ?hS11x0 (fun hHeld11 => ?rest11x0)
          case hS11x0 => first | (exact MK.out _ (by repeat (first | with_reducible exact Ext.refl _ | with_reducible assumption | with_reducible refine Ext.drew ?_ | with_reducible refine Ext.drewN ?_ _ | with_reducible refine Ext.alloc ?_ _))) | ((try dsimp only); (exact MK.out _ (by repeat (first | with_reducible exact Ext.refl _ | with_reducible assumption | with_reducible refine Ext.drew ?_ | with_reducible refine Ext.drewN ?_ _ | with_reducible refine Ext.alloc ?_ _))))
          clear hK K
          clear hHeld10
          (try simp only [Act.put]); (try simp only [List.setIfInBounds_toArray]); (try simp only [List.set_cons_succ]); (try simp only [List.set_cons_zero])
          refine wpAnyH_take (i := 6) (oi := { dst := (some 4), op := (Op.assign (Operand.tmp 32)), type := 27, pos := "schema.go:81", after := #[{ on := 5, ground := Ground.data }, { on := 5, ground := Ground.chain }, { on := 0, ground := Ground.phase }, { on := 1, ground := Ground.phase }, { on := 2, ground := Ground.phase }, { on := 3, ground := Ground.phase }, { on := 4, ground := Ground.phase }, { on := 5, ground := Ground.phase }], guard := none }) (v := ?v12) rfl (by kernel_rfl) (by kernel_rfl) (by kernel_rfl) (fun _ _ _ h => h) (Or.inl ⟨rfl, ?hy12⟩) hHeld11 ?rest12
          case hy12 => (intro w hSw; (try dsimp only at hSw); go_simp <;> with_reducible rfl)
          (try simp only [Act.put]); (try simp only [List.setIfInBounds_toArray]); (try simp only [List.set_cons_succ]); (try simp only [List.set_cons_zero])
          refine wpAnyH_take (i := 7) (oi := { dst := (some 5), op := (Op.assign (Operand.const (Value.int IntKind.i64 0))), type := 28, pos := "schema.go:81", after := #[{ on := 6, ground := Ground.chain }, { on := 0, ground := Ground.phase }, { on := 1, ground := Ground.phase }, { on := 2, ground := Ground.phase }, { on := 3, ground := Ground.phase }, { on := 4, ground := Ground.phase }, { on := 5, ground := Ground.phase }, { on := 6, ground := Ground.phase }], guard := none }) (v := ?v13) rfl (by kernel_rfl) (by kernel_rfl) (by kernel_rfl) (fun _ _ _ h => h) (Or.inl ⟨rfl, ?hy13⟩) hHeld11 ?rest13
          case hy13 => (intro w hSw; (try dsimp only at hSw); go_simp <;> with_reducible rfl)
          (try simp only [Act.put]); (try simp only [List.setIfInBounds_toArray]); (try simp only [List.set_cons_succ]); (try simp only [List.set_cons_zero])
          refine wpAnyH_done (by kernel_rfl) ?_ _
          clear hHeld11
          go_wp2_with fail
          go_ret2
          exact Handed.some_ HF.out hown2 (by rw [insR_len]) (hx.trans hb3)
    · have HF := Lib.hid (show addR s r = ([], chkR r) by unfold addR; rw [HV.out, if_neg (by simp), if_pos hc])
      have hc' : (chkR r != 0) = true := by simpa using hc
      clear hc
      go_wp2_with fail
      go_ret2
      exact Handed.none_ HF.out hx
  · have HF := Lib.hid (show addR s r = ([], 19) by unfold addR; rw [if_pos (by simpa using hv)])
    have hv' : (!validB s) = true := by simpa using hv
    clear hv
    go_wp2_with fail
    go_ret2
    exact Handed.none_ HF.out hx

set_option maxRecDepth 100000 in
set_option maxHeartbeats 3200000 in
theorem s_Drop (s : List RuleP) (A : Option Addr) (c : Nat) (r : RuleP) (w : World) (hs : Rules w A s) (hA : A = none → s.length = 0) (hl : s.length ≤ 1000) :
    Calls Tryd.prog 9 #[.slice A s.length c, r.val] w (Handed w (dropR s r)) := by
  obtain ⟨g, w1, hg, hw1, hb, hx, -⟩ := box_rule w r 23
  have hs1 := hs.ext hx
  have HA := Lib.hid hA
  clear hs hA
  show Calls Tryd.prog _ #[.slice A s.length c, .agg #[.int .i64 r.kind, .int .i64 r.n, .string r.name, .string r.key, .string r.frm, .string r.tov]] w _
  go_enter Tryd.func9, Tryd.ntmps9
  go_wp2_with fail
  rw [← hw1, ← hg]
  clear hw1 hg
  refine (s_Valid s A c w1 hs1 hl).mono ?_
  rintro e w2 ⟨rfl, hE2⟩
  replace hx := hx.trans hE2
  replace hb := hb.ext hE2
  replace hs1 := hs1.ext hE2
  clear hE2
  obtain ⟨c0, c1, c2, c3, c4, c5⟩ := id hb
  by_cases hv : validB s = true
  · have HV := Lib.hid hv
    have hv' : (!validB s) = false := by rw [hv]; rfl
    clear hv
    go_wp2_with fail
    refine (s_Check r _).mono ?_
    rintro e w3 ⟨rfl, hE3⟩
    replace hx := hx.trans hE3
    replace hb := hb.ext hE3
    replace hs1 := hs1.ext hE3
    clear c0 c1 c2 c3 c4 c5 hE3 hv'
    obtain ⟨c0, c1, c2, c3, c4, c5⟩ := id hb
    by_cases hc : chkR r = 0
    · have HC := Lib.hid hc
      have hc' : (chkR r != 0) = false := by rw [hc]; rfl
      clear hc
      go_wp2_with fail
      refine (s_BSF s A c r _ hs1 (validB_iff.1 HV.out).2.2 hl).mono ?_
      rintro e w4 ⟨rfl, hE4⟩
      replace hx := hx.trans hE4
      replace hb := hb.ext hE4
      replace hs1 := hs1.ext hE4
      clear c0 c1 c2 c3 c4 c5 hE4 hc'
      have HS := Lib.hid hs1
      clear hs1
      obtain ⟨c0, c1, c2, c3, c4, c5⟩ := id hb
      have hlo := low_le s r
      by_cases hm : r ∈ s
      · have HM := Lib.hid hm
        rw [decide_eq_true hm]
        clear hm
        have HF := Lib.hid (show dropR s r = (delR s r, 0) from drop_eq HV.out HC.out HM.out)
        have hlt : lowN s r < s.length := ((low_found (validB_iff.1 HV.out).2.2 r).1 HM.out).1
        go_wp2_with fail
        refine (s_Clone s A c _ HS.out HA.out hl).mono ?_
        rintro e w5 ⟨v, rfl, hown, hb2⟩
        have hE' : Ext w4 w5 := hb2
        clear c0 c1 c2 c3 c4 c5
        go_wp2_with fail
        refine (s_Delete w4 _ s v (lowN s r) hown hE' hlt hl).mono ?_
        rintro e w6 ⟨v2, rfl, hown2, hb3⟩
        have HL := Lib.hid (show s.length - 1 = (delR s r).length by have := delR_len (validB_iff.1 HV.out).2.2 HM.out; omega)
        go_wp2_with fail
        go_ret2
        exact Handed.some_ HF.out hown2 HL.out (hx.trans hb3)
      · have HM := Lib.hid hm
        rw [decide_eq_false hm]
        clear hm
        have HF := Lib.hid (show dropR s r = ([], 23) by unfold dropR; rw [HV.out, if_neg (by simp), if_neg (by rw [HC.out]; simp), if_neg HM.out])
        go_wp2_with fail
        go_ret2
        exact Handed.none_ HF.out hx
    · have HF := Lib.hid (show dropR s r = ([], chkR r) by unfold dropR; rw [HV.out, if_neg (by simp), if_pos hc])
      have hc' : (chkR r != 0) = true := by simpa using hc
      clear hc
      go_wp2_with fail
      go_ret2
      exact Handed.none_ HF.out hx
  · have HF := Lib.hid (show dropR s r = ([], 19) by unfold dropR; rw [if_pos (by simpa using hv)])
    have hv' : (!validB s) = true := by simpa using hv
    clear hv
    go_wp2_with fail
    go_ret2
    exact Handed.none_ HF.out hx

end Go.Proofs.YtanclhcoiagcfaaDoor
