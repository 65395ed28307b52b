/- PARTS OF THE WALKS, joined: RkB, RkC. -/
import Derived.Test.YtlkpmbkmmfoakaaGreatDoorV10
import Derived.Test.YtlkpmbkmmfoakaaGreatDoorV06
/- THE WALKS over the checks of shares, degrees, shares of nodes, Start. -/
namespace Go.Proofs.YtlkpmbkmmfoakaaGreatDoor
open Go.RowKit
theorem box_share (w : World) (x : Sh) (t : TypeId) : ∃ (q : Nat) (w1 : World), q = w.heap.size ∧ w1 = w.alloc (.cells #[.int .i64 x.id, .int .i64 x.n, .int .i64 x.d] t) ∧ w1.cell? ⟨q, 0, none⟩ = some (.int .i64 x.id) ∧ w1.cell? ⟨q, 1, none⟩ = some (.int .i64 x.n) ∧ w1.cell? ⟨q, 2, none⟩ = some (.int .i64 x.d) ∧ Ext w w1 :=
  ⟨_, _, rfl, rfl, by go_simp, by go_simp, by go_simp, (Ext.refl _).alloc _⟩
set_option maxRecDepth 100000 in
set_option maxHeartbeats 1600000 in
theorem rk_fits (g : GraphG) (l : List Sh) (ok ok' : Nat → Prop) (A B S : Option Addr) (c d e : Nat) (w : World) (hg : Nodes w ok A g.nodes) (hl : Shares w ok' S l) :
    Calls Tryz.prog 19 #[.agg #[.slice A g.nodes.length c, .slice B g.edges.length d, .int .i64 g.nn, .int .i64 g.ne], .slice S l.length e] w fun e w' => e = .returned (.bool (fitsB g l)) ∧ Ext w w' := by
  have hm := hl.len
  have hmn := hg.len
  obtain ⟨q, w1, hq, hw1, g0, g1, g2, g3, hx1⟩ := box_graph w A B c d g 25
  have HW1 := Lib.hid hw1
  have HG := Lib.hid hq
  have HN := Lib.hid (hg.ext hx1)
  have HL := Lib.hid (hl.ext hx1)
  have HNO := Lib.hid (fitsB_no (g := g) (l := l))
  have HYE := Lib.hid (fitsB_iff (g := g) (l := l)).2
  generalize fitsB g l = R at *
  clear hw1 hq hg hl
  by_cases hlen : l.length = g.nodes.length
  · have HLEN := Lib.hid hlen
    have hln1 : l.length ≤ g.nodes.length := by omega
    have hne : ((l.length : Int) != (g.nodes.length : Int)) = false := by simp [hlen]
    clear hlen
    go_enter Tryz.func19, Tryz.ntmps19
    go_upto_region 1 with (fail)
    rw [← HW1.out, ← HG.out]
    clear HW1 HG
    go_wp2_with fail
    clear hne
    go_loopw [15] (fun u W => ∃ k : Nat, u = .int .i64 k ∧ k ≤ l.length ∧ Hid (∀ t < k, l[t]!.id = g.nodes[t]!.id ∧ validB l[t]!.n l[t]!.d = true) ∧ Ext w1 W) (fun u _ => l.length - (intOf u).toNat)
    case atStart => exact ⟨0, rfl, Nat.zero_le _, Lib.hid (fun t ht => absurd ht (by omega)), Ext.refl _⟩
    case round =>
      obtain ⟨k, rfl, hk, hgd, hE⟩ := hrel
      by_cases hlt : k < l.length
      · obtain ⟨bs, os, rfl, hcs⟩ := HL.out.at_ hlt
        obtain ⟨bn, on, rfl, hcn⟩ := HN.out.at_ (i := k) (by omega)
        obtain ⟨-, a0, a1, a2⟩ := hcs k hlt
        obtain ⟨-, b0, -⟩ := hcn k (by omega)
        replace a0 := hE.cell a0
        replace a1 := hE.cell a1
        replace a2 := hE.cell a2
        replace b0 := hE.cell b0
        have G0 := hE.cell g0
        have HS := Lib.hid (fun (h : l[k]!.id = g.nodes[k]!.id ∧ validB l[k]!.n l[k]!.d = true) t (ht : t < k + 1) => (if e : t = k then (by rw [e]; exact h) else hgd.out t (by omega) : l[t]!.id = g.nodes[t]!.id ∧ validB l[t]!.n l[t]!.d = true))
        have HX := Lib.hid (fun (h : ¬ (l[k]!.id = g.nodes[k]!.id ∧ validB l[k]!.n l[k]!.d = true)) => HNO.out (fun hh => h (hh.2 k hlt)))
        have q1 : (k : Int) < (g.nodes.length : Int) := by omega
        have q2 : k < g.nodes.length := by omega
        obtain ⟨q2x, w2, hq2, hw2, n0, n1, n2, hx2⟩ := box_share wr l[k]! 46
        have HW2 := Lib.hid hw2
        have HQ2 := Lib.hid hq2
        have B0 := hx2.cell b0
        have GG0 := hx2.cell G0
        have HC := Lib.hid (fun W => frac_Valid l[k]!.n l[k]!.d W)
        have hE2 := hE.trans hx2
        clear hcs hcn hgd hw2 hq2 HYE HNO
        generalize l[k]! = x at *
        generalize g.nodes[k]!.id = y at *
        generalize validB x.n x.d = v at *
        by_cases he : x.id = y
        · have he2 : (x.id != y) = false := by rw [he]; exact bne_self_eq_false' (a := y)
          cases v
          · have HT := Lib.hid (HX.out (fun h => by cases h.2))
            clear HS HX he
            go_upto_region 6 with (fail)
            rw [← HW2.out, ← HQ2.out]
            clear HW2 HQ2 G0 b0
            have MKR1 := Lib.hid (fun V (e : Ext w2 V) => (⟨e.cell n0, e.cell n1, e.cell n2, e.cell GG0, e.cell B0, e⟩ : V.cell? ⟨q2x, 0, none⟩ = some (.int .i64 x.id) ∧ V.cell? ⟨q2x, 1, none⟩ = some (.int .i64 x.n) ∧ V.cell? ⟨q2x, 2, none⟩ = some (.int .i64 x.d) ∧ V.cell? ⟨q, 0, none⟩ = some (.slice (some ⟨bn, on, none⟩) g.nodes.length c) ∧ V.cell? ⟨bn, on + k * 3, none⟩ = some (.int .i64 y) ∧ Ext w2 V))
            refine wp_region_held_drew (S := (fun V => V.cell? ⟨q2x, 0, none⟩ = some (.int .i64 x.id) ∧ V.cell? ⟨q2x, 1, none⟩ = some (.int .i64 x.n) ∧ V.cell? ⟨q2x, 2, none⟩ = some (.int .i64 x.d) ∧ V.cell? ⟨q, 0, none⟩ = some (.slice (some ⟨bn, on, none⟩) g.nodes.length c) ∧ V.cell? ⟨bn, on + k * 3, none⟩ = some (.int .i64 y) ∧ Ext w2 V)) (by kernel_rfl) ?hs1 (fun hHeld => ?go1)
            case hs1 => (exact MKR1.out _ (by with_reducible repeat (first | exact Ext.refl _ | assumption | refine Ext.drew ?_ | refine Ext.drewN ?_ _ | refine Ext.alloc ?_ _)))
            refine wpAnyH_take (i := 0) (oi := ⟨(some 20), (.fieldAddr 46 (.tmp 6) 0), 0, "rank.go:60", #[], none⟩) (v := ?v2) rfl (by kernel_rfl) (by kernel_rfl) (by kernel_rfl) (fun _ _ _ h => h) (Or.inl ⟨rfl, ?hy2⟩) hHeld ?rest2
            case hy2 => (intro w _; go_simp <;> rfl)
            (try simp only [PU])
            refine wpAnyH_take (i := 1) (oi := ⟨(some 21), (.load 3 (.tmp 20)), 3, "rank.go:60", #[⟨0, .data⟩], none⟩) (v := ?v3) rfl (by kernel_rfl) (by kernel_rfl) (by kernel_rfl) (fun _ _ _ h => h) (Or.inl ⟨rfl, ?hy3⟩) hHeld ?rest3
            case hy3 => (intro w hSw; (try dsimp only at hSw); go_simp <;> first | with_reducible rfl | rw [if_neg (by omega)] | rw [if_pos (by omega)])
            (try simp only [PU])
            refine wpAnyH_take (i := 2) (oi := ⟨(some 22), (.fieldAddr 25 (.tmp 2) 0), 0, "rank.go:60", #[], none⟩) (v := ?v4) rfl (by kernel_rfl) (by kernel_rfl) (by kernel_rfl) (fun _ _ _ h => h) (Or.inl ⟨rfl, ?hy4⟩) hHeld ?rest4
            case hy4 => (intro w _; go_simp <;> rfl)
            (try simp only [PU])
            refine wpAnyH_take (i := 3) (oi := ⟨(some 23), (.load 22 (.tmp 22)), 22, "rank.go:60", #[⟨2, .data⟩], none⟩) (v := ?v5) rfl (by kernel_rfl) (by kernel_rfl) (by kernel_rfl) (fun _ _ _ h => h) (Or.inl ⟨rfl, ?hy5⟩) hHeld ?rest5
            case hy5 => (intro w hSw; (try dsimp only at hSw); go_simp <;> first | with_reducible rfl | rw [if_neg (by omega)] | rw [if_pos (by omega)])
            (try simp only [PU])
            refine wpAnyH_take (i := 4) (oi := ⟨(some 24), (.move (.tmp 5)), 3, "rank.go:60", #[], none⟩) (v := ?v6) rfl (by kernel_rfl) (by kernel_rfl) (by kernel_rfl) (fun _ _ _ h => h) (Or.inl ⟨rfl, ?hy6⟩) hHeld ?rest6
            case hy6 => (intro w _; go_simp <;> rfl)
            (try simp only [PU])
            refine wpAnyH_take (i := 5) (oi := ⟨(some 25), (.indexAddr 22 (.tmp 23) (.tmp 24)), 0, "rank.go:60", #[⟨3, .data⟩, ⟨4, .data⟩], none⟩) (v := ?v7) rfl (by kernel_rfl) (by kernel_rfl) (by kernel_rfl) (fun _ _ _ h => h) (Or.inl ⟨rfl, ?hy7⟩) hHeld ?rest7
            case hy7 => (intro w _; go_simp <;> first | with_reducible rfl | rw [if_neg (by omega)] | rw [if_pos (by omega)])
            (try simp only [PU])
            refine wpAnyH_take (i := 6) (oi := ⟨(some 26), (.fieldAddr 58 (.tmp 25) 0), 0, "rank.go:60", #[⟨5, .data⟩], none⟩) (v := ?v8) rfl (by kernel_rfl) (by kernel_rfl) (by kernel_rfl) (fun _ _ _ h => h) (Or.inl ⟨rfl, ?hy8⟩) hHeld ?rest8
            case hy8 => (intro w _; go_simp <;> rfl)
            (try simp only [PU])
            refine wpAnyH_take (i := 7) (oi := ⟨(some 27), (.load 3 (.tmp 26)), 3, "rank.go:60", #[⟨6, .data⟩], none⟩) (v := ?v9) rfl (by kernel_rfl) (by kernel_rfl) (by kernel_rfl) (fun _ _ _ h => h) (Or.inl ⟨rfl, ?hy9⟩) hHeld ?rest9
            case hy9 => (intro w hSw; (try dsimp only at hSw); go_simp <;> first | with_reducible rfl | rw [if_neg (by omega)] | rw [if_pos (by omega)])
            (try simp only [PU])
            refine wpAnyH_take (i := 8) (oi := ⟨(some 28), (.binOp .neq 3 (.tmp 21) (.tmp 27) 3), 4, "rank.go:60", #[⟨1, .data⟩, ⟨7, .data⟩], none⟩) (v := ?v10) rfl (by kernel_rfl) (by kernel_rfl) (by kernel_rfl) (fun _ _ _ h => h) (Or.inl ⟨rfl, ?hy10⟩) hHeld ?rest10
            case hy10 => (intro w _; go_simp <;> first | with_reducible rfl | rw [if_neg (by omega)] | rw [if_pos (by omega)])
            (try simp only [PU])
            refine wpAnyH_take (i := 9) (oi := ⟨(some 29), (.move (.tmp 28)), 4, "rank.go:60", #[⟨8, .data⟩], none⟩) (v := ?v11) rfl (by kernel_rfl) (by kernel_rfl) (by kernel_rfl) (fun _ _ _ h => h) (Or.inl ⟨rfl, ?hy11⟩) hHeld ?rest11
            case hy11 => (intro w _; go_simp <;> rfl)
            (try simp only [PU])
            refine wpAnyH_take (i := 10) (oi := ⟨(some 30), (.fieldAddr 46 (.tmp 6) 1), 0, "rank.go:60", #[⟨9, .guard⟩], (some (9, false))⟩) (v := ?v12) rfl (by kernel_rfl) (by kernel_rfl) (by kernel_rfl) (fun _ _ _ h => h) (Or.inl ⟨rfl, ?hy12⟩) hHeld ?rest12
            case hy12 => (intro w _; go_simp <;> rfl)
            (try simp only [PU])
            refine wpAnyH_take (i := 11) (oi := ⟨(some 31), (.load 28 (.tmp 30)), 28, "rank.go:60", #[⟨10, .data⟩, ⟨9, .guard⟩], (some (9, false))⟩) (v := ?v13) rfl (by kernel_rfl) (by kernel_rfl) (by kernel_rfl) (fun _ _ _ h => h) (Or.inl ⟨rfl, ?hy13⟩) hHeld ?rest13
            case hy13 => (intro w hSw; (try dsimp only at hSw); go_simp <;> first | with_reducible rfl | rw [if_neg (by omega)] | rw [if_pos (by omega)])
            (try simp only [PU])
            refine wpAnyH_ready (rs := [12]) (by kernel_rfl) (by simp) ?_
            refine AllReadyH.cons (o := ⟨(some 32), (.call { callee := (.value (.func 42)), args := #[(.tmp 31)], argTypes := #[28] }), 4, "rank.go:60", #[⟨11, .data⟩, ⟨9, .chain⟩, ⟨9, .guard⟩], (some (9, false))⟩) rfl (fun K hK => ?step14x0) ?more14x0
            case more14x0 => exact AllReadyH.nil
            go_simp
            (refine (HC.out _).mono ?_; rintro e w3 ⟨rfl, hb3⟩; replace hb3 : Ext w2 w3 := Ext.trans (by with_reducible repeat (first | exact Ext.refl _ | assumption | refine Ext.drew ?_ | refine Ext.drewN ?_ _ | refine Ext.alloc ?_ _)) (of_below hb3))
            refine hK.out _ _ ?hS14x0 (fun hHeld14 => ?rest14x0)
            case hS14x0 => first | (exact MKR1.out _ (by with_reducible repeat (first | exact Ext.refl _ | assumption | refine Ext.drew ?_ | refine Ext.drewN ?_ _ | refine Ext.alloc ?_ _))) | ((try dsimp only); (exact MKR1.out _ (by with_reducible repeat (first | exact Ext.refl _ | assumption | refine Ext.drew ?_ | refine Ext.drewN ?_ _ | refine Ext.alloc ?_ _))))
            clear hK K
            clear hHeld
            (try simp only [PU])
            refine wpAnyH_take (i := 13) (oi := ⟨(some 33), (.unOp .not 4 (.tmp 32)), 4, "rank.go:60", #[⟨12, .data⟩, ⟨9, .guard⟩], (some (9, false))⟩) (v := ?v15) rfl (by kernel_rfl) (by kernel_rfl) (by kernel_rfl) (fun _ _ _ h => h) (Or.inl ⟨rfl, ?hy15⟩) hHeld14 ?rest15
            case hy15 => (intro w _; go_simp <;> first | with_reducible rfl | rw [if_neg (by omega)] | rw [if_pos (by omega)])
            (try simp only [PU])
            refine wpAnyH_take (i := 14) (oi := ⟨(some 34), (.pick (.tmp 29) (.const (.bool true)) (.tmp 33)), 4, "rank.go:60", #[⟨9, .data⟩, ⟨13, .data⟩], none⟩) (v := ?v16) rfl (by kernel_rfl) (by kernel_rfl) (by kernel_rfl) (fun _ _ _ h => h) (Or.inl ⟨rfl, ?hy16⟩) hHeld14 ?rest16
            case hy16 => (intro w _; go_simp <;> rfl)
            (try simp only [PU])
            refine wpAnyH_done (by kernel_rfl) ?_ _
            clear hHeld14
            clear MKR1
            go_wp2_with fail
            go_ret
            exact ⟨ret_bool HT.out.symm, hx1.trans (hE2.trans (by with_reducible repeat (first | exact Ext.refl _ | assumption | refine Ext.drew ?_ | refine Ext.drewN ?_ _ | refine Ext.alloc ?_ _)))⟩
          · have HT := Lib.hid (HS.out ⟨he, rfl⟩)
            clear HS HX he
            go_upto_region 6 with (fail)
            rw [← HW2.out, ← HQ2.out]
            clear HW2 HQ2 G0 b0
            have MKR2 := Lib.hid (fun V (e : Ext w2 V) => (⟨e.cell n0, e.cell n1, e.cell n2, e.cell GG0, e.cell B0, e⟩ : V.cell? ⟨q2x, 0, none⟩ = some (.int .i64 x.id) ∧ V.cell? ⟨q2x, 1, none⟩ = some (.int .i64 x.n) ∧ V.cell? ⟨q2x, 2, none⟩ = some (.int .i64 x.d) ∧ V.cell? ⟨q, 0, none⟩ = some (.slice (some ⟨bn, on, none⟩) g.nodes.length c) ∧ V.cell? ⟨bn, on + k * 3, none⟩ = some (.int .i64 y) ∧ Ext w2 V))
            refine wp_region_held_drew (S := (fun V => V.cell? ⟨q2x, 0, none⟩ = some (.int .i64 x.id) ∧ V.cell? ⟨q2x, 1, none⟩ = some (.int .i64 x.n) ∧ V.cell? ⟨q2x, 2, none⟩ = some (.int .i64 x.d) ∧ V.cell? ⟨q, 0, none⟩ = some (.slice (some ⟨bn, on, none⟩) g.nodes.length c) ∧ V.cell? ⟨bn, on + k * 3, none⟩ = some (.int .i64 y) ∧ Ext w2 V)) (by kernel_rfl) ?hs17 (fun hHeld => ?go17)
            case hs17 => (exact MKR2.out _ (by with_reducible repeat (first | exact Ext.refl _ | assumption | refine Ext.drew ?_ | refine Ext.drewN ?_ _ | refine Ext.alloc ?_ _)))
            refine wpAnyH_take (i := 0) (oi := ⟨(some 20), (.fieldAddr 46 (.tmp 6) 0), 0, "rank.go:60", #[], none⟩) (v := ?v18) rfl (by kernel_rfl) (by kernel_rfl) (by kernel_rfl) (fun _ _ _ h => h) (Or.inl ⟨rfl, ?hy18⟩) hHeld ?rest18
            case hy18 => (intro w _; go_simp <;> rfl)
            (try simp only [PU])
            refine wpAnyH_take (i := 1) (oi := ⟨(some 21), (.load 3 (.tmp 20)), 3, "rank.go:60", #[⟨0, .data⟩], none⟩) (v := ?v19) rfl (by kernel_rfl) (by kernel_rfl) (by kernel_rfl) (fun _ _ _ h => h) (Or.inl ⟨rfl, ?hy19⟩) hHeld ?rest19
            case hy19 => (intro w hSw; (try dsimp only at hSw); go_simp <;> first | with_reducible rfl | rw [if_neg (by omega)] | rw [if_pos (by omega)])
            (try simp only [PU])
            refine wpAnyH_take (i := 2) (oi := ⟨(some 22), (.fieldAddr 25 (.tmp 2) 0), 0, "rank.go:60", #[], none⟩) (v := ?v20) rfl (by kernel_rfl) (by kernel_rfl) (by kernel_rfl) (fun _ _ _ h => h) (Or.inl ⟨rfl, ?hy20⟩) hHeld ?rest20
            case hy20 => (intro w _; go_simp <;> rfl)
            (try simp only [PU])
            refine wpAnyH_take (i := 3) (oi := ⟨(some 23), (.load 22 (.tmp 22)), 22, "rank.go:60", #[⟨2, .data⟩], none⟩) (v := ?v21) rfl (by kernel_rfl) (by kernel_rfl) (by kernel_rfl) (fun _ _ _ h => h) (Or.inl ⟨rfl, ?hy21⟩) hHeld ?rest21
            case hy21 => (intro w hSw; (try dsimp only at hSw); go_simp <;> first | with_reducible rfl | rw [if_neg (by omega)] | rw [if_pos (by omega)])
            (try simp only [PU])
            refine wpAnyH_take (i := 4) (oi := ⟨(some 24), (.move (.tmp 5)), 3, "rank.go:60", #[], none⟩) (v := ?v22) rfl (by kernel_rfl) (by kernel_rfl) (by kernel_rfl) (fun _ _ _ h => h) (Or.inl ⟨rfl, ?hy22⟩) hHeld ?rest22
            case hy22 => (intro w _; go_simp <;> rfl)
            (try simp only [PU])
            refine wpAnyH_take (i := 5) (oi := ⟨(some 25), (.indexAddr 22 (.tmp 23) (.tmp 24)), 0, "rank.go:60", #[⟨3, .data⟩, ⟨4, .data⟩], none⟩) (v := ?v23) rfl (by kernel_rfl) (by kernel_rfl) (by kernel_rfl) (fun _ _ _ h => h) (Or.inl ⟨rfl, ?hy23⟩) hHeld ?rest23
            case hy23 => (intro w _; go_simp <;> first | with_reducible rfl | rw [if_neg (by omega)] | rw [if_pos (by omega)])
            (try simp only [PU])
            refine wpAnyH_take (i := 6) (oi := ⟨(some 26), (.fieldAddr 58 (.tmp 25) 0), 0, "rank.go:60", #[⟨5, .data⟩], none⟩) (v := ?v24) rfl (by kernel_rfl) (by kernel_rfl) (by kernel_rfl) (fun _ _ _ h => h) (Or.inl ⟨rfl, ?hy24⟩) hHeld ?rest24
            case hy24 => (intro w _; go_simp <;> rfl)
            (try simp only [PU])
            refine wpAnyH_take (i := 7) (oi := ⟨(some 27), (.load 3 (.tmp 26)), 3, "rank.go:60", #[⟨6, .data⟩], none⟩) (v := ?v25) rfl (by kernel_rfl) (by kernel_rfl) (by kernel_rfl) (fun _ _ _ h => h) (Or.inl ⟨rfl, ?hy25⟩) hHeld ?rest25
            case hy25 => (intro w hSw; (try dsimp only at hSw); go_simp <;> first | with_reducible rfl | rw [if_neg (by omega)] | rw [if_pos (by omega)])
            (try simp only [PU])
            refine wpAnyH_take (i := 8) (oi := ⟨(some 28), (.binOp .neq 3 (.tmp 21) (.tmp 27) 3), 4, "rank.go:60", #[⟨1, .data⟩, ⟨7, .data⟩], none⟩) (v := ?v26) rfl (by kernel_rfl) (by kernel_rfl) (by kernel_rfl) (fun _ _ _ h => h) (Or.inl ⟨rfl, ?hy26⟩) hHeld ?rest26
            case hy26 => (intro w _; go_simp <;> first | with_reducible rfl | rw [if_neg (by omega)] | rw [if_pos (by omega)])
            (try simp only [PU])
            refine wpAnyH_take (i := 9) (oi := ⟨(some 29), (.move (.tmp 28)), 4, "rank.go:60", #[⟨8, .data⟩], none⟩) (v := ?v27) rfl (by kernel_rfl) (by kernel_rfl) (by kernel_rfl) (fun _ _ _ h => h) (Or.inl ⟨rfl, ?hy27⟩) hHeld ?rest27
            case hy27 => (intro w _; go_simp <;> rfl)
            (try simp only [PU])
            refine wpAnyH_take (i := 10) (oi := ⟨(some 30), (.fieldAddr 46 (.tmp 6) 1), 0, "rank.go:60", #[⟨9, .guard⟩], (some (9, false))⟩) (v := ?v28) rfl (by kernel_rfl) (by kernel_rfl) (by kernel_rfl) (fun _ _ _ h => h) (Or.inl ⟨rfl, ?hy28⟩) hHeld ?rest28
            case hy28 => (intro w _; go_simp <;> rfl)
            (try simp only [PU])
            refine wpAnyH_take (i := 11) (oi := ⟨(some 31), (.load 28 (.tmp 30)), 28, "rank.go:60", #[⟨10, .data⟩, ⟨9, .guard⟩], (some (9, false))⟩) (v := ?v29) rfl (by kernel_rfl) (by kernel_rfl) (by kernel_rfl) (fun _ _ _ h => h) (Or.inl ⟨rfl, ?hy29⟩) hHeld ?rest29
            case hy29 => (intro w hSw; (try dsimp only at hSw); go_simp <;> first | with_reducible rfl | rw [if_neg (by omega)] | rw [if_pos (by omega)])
            (try simp only [PU])
            refine wpAnyH_ready (rs := [12]) (by kernel_rfl) (by simp) ?_
            refine AllReadyH.cons (o := ⟨(some 32), (.call { callee := (.value (.func 42)), args := #[(.tmp 31)], argTypes := #[28] }), 4, "rank.go:60", #[⟨11, .data⟩, ⟨9, .chain⟩, ⟨9, .guard⟩], (some (9, false))⟩) rfl (fun K hK => ?step30x0) ?more30x0
            case more30x0 => exact AllReadyH.nil
            go_simp
            (refine (HC.out _).mono ?_; rintro e w3 ⟨rfl, hb3⟩; replace hb3 : Ext w2 w3 := Ext.trans (by with_reducible repeat (first | exact Ext.refl _ | assumption | refine Ext.drew ?_ | refine Ext.drewN ?_ _ | refine Ext.alloc ?_ _)) (of_below hb3))
            refine hK.out _ _ ?hS30x0 (fun hHeld30 => ?rest30x0)
            case hS30x0 => first | (exact MKR2.out _ (by with_reducible repeat (first | exact Ext.refl _ | assumption | refine Ext.drew ?_ | refine Ext.drewN ?_ _ | refine Ext.alloc ?_ _))) | ((try dsimp only); (exact MKR2.out _ (by with_reducible repeat (first | exact Ext.refl _ | assumption | refine Ext.drew ?_ | refine Ext.drewN ?_ _ | refine Ext.alloc ?_ _))))
            clear hK K
            clear hHeld
            (try simp only [PU])
            refine wpAnyH_take (i := 13) (oi := ⟨(some 33), (.unOp .not 4 (.tmp 32)), 4, "rank.go:60", #[⟨12, .data⟩, ⟨9, .guard⟩], (some (9, false))⟩) (v := ?v31) rfl (by kernel_rfl) (by kernel_rfl) (by kernel_rfl) (fun _ _ _ h => h) (Or.inl ⟨rfl, ?hy31⟩) hHeld30 ?rest31
            case hy31 => (intro w _; go_simp <;> first | with_reducible rfl | rw [if_neg (by omega)] | rw [if_pos (by omega)])
            (try simp only [PU])
            refine wpAnyH_take (i := 14) (oi := ⟨(some 34), (.pick (.tmp 29) (.const (.bool true)) (.tmp 33)), 4, "rank.go:60", #[⟨9, .data⟩, ⟨13, .data⟩], none⟩) (v := ?v32) rfl (by kernel_rfl) (by kernel_rfl) (by kernel_rfl) (fun _ _ _ h => h) (Or.inl ⟨rfl, ?hy32⟩) hHeld30 ?rest32
            case hy32 => (intro w _; go_simp <;> rfl)
            (try simp only [PU])
            refine wpAnyH_done (by kernel_rfl) ?_ _
            clear hHeld30
            clear MKR2
            go_wp2_with fail
            go_roundw
            case rel => exact ⟨k + 1, by go_num, by omega, HT, hE2.trans (by with_reducible repeat (first | exact Ext.refl _ | assumption | refine Ext.drew ?_ | refine Ext.drewN ?_ _ | refine Ext.alloc ?_ _))⟩
            case measure => simp [intOf]; omega
        · have he2 : (x.id != y) = true := bne_iff_ne.2 he
          have HT := Lib.hid (HX.out (fun h => he h.1))
          clear HS HX he
          go_upto_region 6 with (fail)
          rw [← HW2.out, ← HQ2.out]
          clear HW2 HQ2 G0 b0
          have MKR3 := Lib.hid (fun V (e : Ext w2 V) => (⟨e.cell n0, e.cell GG0, e.cell B0, e⟩ : V.cell? ⟨q2x, 0, none⟩ = some (.int .i64 x.id) ∧ V.cell? ⟨q, 0, none⟩ = some (.slice (some ⟨bn, on, none⟩) g.nodes.length c) ∧ V.cell? ⟨bn, on + k * 3, none⟩ = some (.int .i64 y) ∧ Ext w2 V))
          refine wp_region_held_drew (S := (fun V => V.cell? ⟨q2x, 0, none⟩ = some (.int .i64 x.id) ∧ V.cell? ⟨q, 0, none⟩ = some (.slice (some ⟨bn, on, none⟩) g.nodes.length c) ∧ V.cell? ⟨bn, on + k * 3, none⟩ = some (.int .i64 y) ∧ Ext w2 V)) (by kernel_rfl) ?hs33 (fun hHeld => ?go33)
          case hs33 => (exact MKR3.out _ (by with_reducible repeat (first | exact Ext.refl _ | assumption | refine Ext.drew ?_ | refine Ext.drewN ?_ _ | refine Ext.alloc ?_ _)))
          refine wpAnyH_take (i := 0) (oi := ⟨(some 20), (.fieldAddr 46 (.tmp 6) 0), 0, "rank.go:60", #[], none⟩) (v := ?v34) rfl (by kernel_rfl) (by kernel_rfl) (by kernel_rfl) (fun _ _ _ h => h) (Or.inl ⟨rfl, ?hy34⟩) hHeld ?rest34
          case hy34 => (intro w _; go_simp <;> rfl)
          (try simp only [PU])
          refine wpAnyH_take (i := 1) (oi := ⟨(some 21), (.load 3 (.tmp 20)), 3, "rank.go:60", #[⟨0, .data⟩], none⟩) (v := ?v35) rfl (by kernel_rfl) (by kernel_rfl) (by kernel_rfl) (fun _ _ _ h => h) (Or.inl ⟨rfl, ?hy35⟩) hHeld ?rest35
          case hy35 => (intro w hSw; (try dsimp only at hSw); go_simp <;> first | with_reducible rfl | rw [if_neg (by omega)] | rw [if_pos (by omega)])
          (try simp only [PU])
          refine wpAnyH_take (i := 2) (oi := ⟨(some 22), (.fieldAddr 25 (.tmp 2) 0), 0, "rank.go:60", #[], none⟩) (v := ?v36) rfl (by kernel_rfl) (by kernel_rfl) (by kernel_rfl) (fun _ _ _ h => h) (Or.inl ⟨rfl, ?hy36⟩) hHeld ?rest36
          case hy36 => (intro w _; go_simp <;> rfl)
          (try simp only [PU])
          refine wpAnyH_take (i := 3) (oi := ⟨(some 23), (.load 22 (.tmp 22)), 22, "rank.go:60", #[⟨2, .data⟩], none⟩) (v := ?v37) rfl (by kernel_rfl) (by kernel_rfl) (by kernel_rfl) (fun _ _ _ h => h) (Or.inl ⟨rfl, ?hy37⟩) hHeld ?rest37
          case hy37 => (intro w hSw; (try dsimp only at hSw); go_simp <;> first | with_reducible rfl | rw [if_neg (by omega)] | rw [if_pos (by omega)])
          (try simp only [PU])
          refine wpAnyH_take (i := 4) (oi := ⟨(some 24), (.move (.tmp 5)), 3, "rank.go:60", #[], none⟩) (v := ?v38) rfl (by kernel_rfl) (by kernel_rfl) (by kernel_rfl) (fun _ _ _ h => h) (Or.inl ⟨rfl, ?hy38⟩) hHeld ?rest38
          case hy38 => (intro w _; go_simp <;> rfl)
          (try simp only [PU])
          refine wpAnyH_take (i := 5) (oi := ⟨(some 25), (.indexAddr 22 (.tmp 23) (.tmp 24)), 0, "rank.go:60", #[⟨3, .data⟩, ⟨4, .data⟩], none⟩) (v := ?v39) rfl (by kernel_rfl) (by kernel_rfl) (by kernel_rfl) (fun _ _ _ h => h) (Or.inl ⟨rfl, ?hy39⟩) hHeld ?rest39
          case hy39 => (intro w _; go_simp <;> first | with_reducible rfl | rw [if_neg (by omega)] | rw [if_pos (by omega)])
          (try simp only [PU])
          refine wpAnyH_take (i := 6) (oi := ⟨(some 26), (.fieldAddr 58 (.tmp 25) 0), 0, "rank.go:60", #[⟨5, .data⟩], none⟩) (v := ?v40) rfl (by kernel_rfl) (by kernel_rfl) (by kernel_rfl) (fun _ _ _ h => h) (Or.inl ⟨rfl, ?hy40⟩) hHeld ?rest40
          case hy40 => (intro w _; go_simp <;> rfl)
          (try simp only [PU])
          refine wpAnyH_take (i := 7) (oi := ⟨(some 27), (.load 3 (.tmp 26)), 3, "rank.go:60", #[⟨6, .data⟩], none⟩) (v := ?v41) rfl (by kernel_rfl) (by kernel_rfl) (by kernel_rfl) (fun _ _ _ h => h) (Or.inl ⟨rfl, ?hy41⟩) hHeld ?rest41
          case hy41 => (intro w hSw; (try dsimp only at hSw); go_simp <;> first | with_reducible rfl | rw [if_neg (by omega)] | rw [if_pos (by omega)])
          (try simp only [PU])
          refine wpAnyH_take (i := 8) (oi := ⟨(some 28), (.binOp .neq 3 (.tmp 21) (.tmp 27) 3), 4, "rank.go:60", #[⟨1, .data⟩, ⟨7, .data⟩], none⟩) (v := ?v42) rfl (by kernel_rfl) (by kernel_rfl) (by kernel_rfl) (fun _ _ _ h => h) (Or.inl ⟨rfl, ?hy42⟩) hHeld ?rest42
          case hy42 => (intro w _; go_simp <;> first | with_reducible rfl | rw [if_neg (by omega)] | rw [if_pos (by omega)])
          (try simp only [PU])
          refine wpAnyH_take (i := 9) (oi := ⟨(some 29), (.move (.tmp 28)), 4, "rank.go:60", #[⟨8, .data⟩], none⟩) (v := ?v43) rfl (by kernel_rfl) (by kernel_rfl) (by kernel_rfl) (fun _ _ _ h => h) (Or.inl ⟨rfl, ?hy43⟩) hHeld ?rest43
          case hy43 => (intro w _; go_simp <;> rfl)
          (try simp only [PU])
          refine wpAnyH_take (i := 10) (oi := ⟨(some 30), (.fieldAddr 46 (.tmp 6) 1), 0, "rank.go:60", #[⟨9, .guard⟩], (some (9, false))⟩) (v := undef) rfl (by kernel_rfl) (by kernel_rfl) (by kernel_rfl) (fun _ _ _ h => h) (Or.inr ⟨rfl, rfl⟩) hHeld ?rest44
          (try simp only [PU])
          refine wpAnyH_take (i := 11) (oi := ⟨(some 31), (.load 28 (.tmp 30)), 28, "rank.go:60", #[⟨10, .data⟩, ⟨9, .guard⟩], (some (9, false))⟩) (v := undef) rfl (by kernel_rfl) (by kernel_rfl) (by kernel_rfl) (fun _ _ _ h => h) (Or.inr ⟨rfl, rfl⟩) hHeld ?rest45
          (try simp only [PU])
          refine wpAnyH_take (i := 12) (oi := ⟨(some 32), (.call { callee := (.value (.func 42)), args := #[(.tmp 31)], argTypes := #[28] }), 4, "rank.go:60", #[⟨11, .data⟩, ⟨9, .chain⟩, ⟨9, .guard⟩], (some (9, false))⟩) (v := undef) rfl (by kernel_rfl) (by kernel_rfl) (by kernel_rfl) (fun _ _ _ h => h) (Or.inr ⟨rfl, rfl⟩) hHeld ?rest46
          (try simp only [PU])
          refine wpAnyH_take (i := 13) (oi := ⟨(some 33), (.unOp .not 4 (.tmp 32)), 4, "rank.go:60", #[⟨12, .data⟩, ⟨9, .guard⟩], (some (9, false))⟩) (v := undef) rfl (by kernel_rfl) (by kernel_rfl) (by kernel_rfl) (fun _ _ _ h => h) (Or.inr ⟨rfl, rfl⟩) hHeld ?rest47
          (try simp only [PU])
          refine wpAnyH_take (i := 14) (oi := ⟨(some 34), (.pick (.tmp 29) (.const (.bool true)) (.tmp 33)), 4, "rank.go:60", #[⟨9, .data⟩, ⟨13, .data⟩], none⟩) (v := ?v48) rfl (by kernel_rfl) (by kernel_rfl) (by kernel_rfl) (fun _ _ _ h => h) (Or.inl ⟨rfl, ?hy48⟩) hHeld ?rest48
          case hy48 => (intro w _; go_simp <;> rfl)
          (try simp only [PU])
          refine wpAnyH_done (by kernel_rfl) ?_ _
          clear hHeld
          clear MKR3
          go_wp2_with fail
          go_ret
          exact ⟨ret_bool HT.out.symm, hx1.trans (hE2.trans (by with_reducible repeat (first | exact Ext.refl _ | assumption | refine Ext.drew ?_ | refine Ext.drewN ?_ _ | refine Ext.alloc ?_ _)))⟩
      · have HT := Lib.hid (HYE.out ⟨HLEN.out, fun t ht => hgd.out t (by omega)⟩)
        clear HYE HNO hgd
        go_wp2_with fail
        go_ret
        exact ⟨ret_bool HT.out.symm, hx1.trans hE⟩
  · have HT := Lib.hid (HNO.out (fun h => hlen h.1))
    have hne : ((l.length : Int) != (g.nodes.length : Int)) = true := by rw [bne_iff_ne]; omega
    clear HYE HNO hlen
    go_enter Tryz.func19, Tryz.ntmps19
    go_upto_region 1 with (fail)
    rw [← HW1.out, ← HG.out]
    clear HW1 HG
    go_wp2_with fail
    go_ret
    exact ⟨ret_bool HT.out.symm, hx1⟩
set_option maxRecDepth 100000 in
set_option maxHeartbeats 1600000 in
theorem r51_shares (g : GraphG) (l : List Sh) (ok ok' : Nat → Prop) (A B S : Option Addr) (c d e : Nat) (w : World) (hg : Nodes w ok A g.nodes) (hl : Shares w ok' S l) :
    Calls Tryz.prog 23 #[.agg #[.slice A g.nodes.length c, .slice B g.edges.length d, .int .i64 g.nn, .int .i64 g.ne], .slice S l.length e] w fun e w' => e = .returned (.bool (fitsB g l)) ∧ Ext w w' := by
  have hm := hl.len
  have hmn := hg.len
  obtain ⟨q, w1, hq, hw1, g0, g1, g2, g3, hx1⟩ := box_graph w A B c d g 25
  have HW1 := Lib.hid hw1
  have HG := Lib.hid hq
  have HN := Lib.hid (hg.ext hx1)
  have HL := Lib.hid (hl.ext hx1)
  have HNO := Lib.hid (fitsB_no (g := g) (l := l))
  have HYE := Lib.hid (fitsB_iff (g := g) (l := l)).2
  generalize fitsB g l = R at *
  clear hw1 hq hg hl
  by_cases hlen : l.length = g.nodes.length
  · have HLEN := Lib.hid hlen
    have hln1 : l.length ≤ g.nodes.length := by omega
    have hne : ((l.length : Int) != (g.nodes.length : Int)) = false := by simp [hlen]
    clear hlen
    go_enter Tryz.func23, Tryz.ntmps23
    go_upto_region 1 with (fail)
    rw [← HW1.out, ← HG.out]
    clear HW1 HG
    go_wp2_with fail
    clear hne
    go_loopw [5] (fun u W => ∃ k : Nat, u = .int .i64 k ∧ k ≤ l.length ∧ Hid (∀ t < k, l[t]!.id = g.nodes[t]!.id ∧ validB l[t]!.n l[t]!.d = true) ∧ Ext w1 W) (fun u _ => l.length - (intOf u).toNat)
    case atStart => exact ⟨0, rfl, Nat.zero_le _, Lib.hid (fun t ht => absurd ht (by omega)), Ext.refl _⟩
    case round =>
      obtain ⟨k, rfl, hk, hgd, hE⟩ := hrel
      by_cases hlt : k < l.length
      · obtain ⟨bs, os, rfl, hcs⟩ := HL.out.at_ hlt
        obtain ⟨bn, on, rfl, hcn⟩ := HN.out.at_ (i := k) (by omega)
        obtain ⟨-, a0, a1, a2⟩ := hcs k hlt
        obtain ⟨-, b0, -⟩ := hcn k (by omega)
        replace a0 := hE.cell a0
        replace a1 := hE.cell a1
        replace a2 := hE.cell a2
        replace b0 := hE.cell b0
        have G0 := hE.cell g0
        have HS := Lib.hid (fun (h : l[k]!.id = g.nodes[k]!.id ∧ validB l[k]!.n l[k]!.d = true) t (ht : t < k + 1) => (if e : t = k then (by rw [e]; exact h) else hgd.out t (by omega) : l[t]!.id = g.nodes[t]!.id ∧ validB l[t]!.n l[t]!.d = true))
        have HX := Lib.hid (fun (h : ¬ (l[k]!.id = g.nodes[k]!.id ∧ validB l[k]!.n l[k]!.d = true)) => HNO.out (fun hh => h (hh.2 k hlt)))
        have q1 : (k : Int) < (g.nodes.length : Int) := by omega
        have q2 : k < g.nodes.length := by omega
        have HC := Lib.hid (fun W => r3_Valid l[k]!.n l[k]!.d W)
        clear hcs hcn hgd HYE HNO
        generalize l[k]! = x at *
        generalize g.nodes[k]!.id = y at *
        generalize validB x.n x.d = v at *
        by_cases he : x.id = y
        · have he2 : (x.id != y) = false := by rw [he]; exact bne_self_eq_false' (a := y)
          cases v
          · have HT := Lib.hid (HX.out (fun h => by cases h.2))
            clear HS HX he
            go_upto_region 6 with (fail)
            have MKR4 := Lib.hid (fun V (e : Ext wr V) => (⟨e.cell a0, e.cell a1, e.cell a2, e.cell G0, e.cell b0, e⟩ : V.cell? ⟨bs, os + k * 3, none⟩ = some (.int .i64 x.id) ∧ V.cell? ⟨bs, os + k * 3 + 1, none⟩ = some (.int .i64 x.n) ∧ V.cell? ⟨bs, os + k * 3 + 2, none⟩ = some (.int .i64 x.d) ∧ V.cell? ⟨q, 0, none⟩ = some (.slice (some ⟨bn, on, none⟩) g.nodes.length c) ∧ V.cell? ⟨bn, on + k * 3, none⟩ = some (.int .i64 y) ∧ Ext wr V))
            refine wp_region_held_drew (S := (fun V => V.cell? ⟨bs, os + k * 3, none⟩ = some (.int .i64 x.id) ∧ V.cell? ⟨bs, os + k * 3 + 1, none⟩ = some (.int .i64 x.n) ∧ V.cell? ⟨bs, os + k * 3 + 2, none⟩ = some (.int .i64 x.d) ∧ V.cell? ⟨q, 0, none⟩ = some (.slice (some ⟨bn, on, none⟩) g.nodes.length c) ∧ V.cell? ⟨bn, on + k * 3, none⟩ = some (.int .i64 y) ∧ Ext wr V)) (by kernel_rfl) ?hs49 (fun hHeld => ?go49)
            case hs49 => (exact MKR4.out _ (by with_reducible repeat (first | exact Ext.refl _ | assumption | refine Ext.drew ?_ | refine Ext.drewN ?_ _ | refine Ext.alloc ?_ _)))
            refine wpAnyH_take (i := 0) (oi := ⟨(some 18), (.move (.tmp 1)), 29, "ref.go:33", #[], none⟩) (v := ?v50) rfl (by kernel_rfl) (by kernel_rfl) (by kernel_rfl) (fun _ _ _ h => h) (Or.inl ⟨rfl, ?hy50⟩) hHeld ?rest50
            case hy50 => (intro w _; go_simp <;> rfl)
            (try simp only [PU])
            refine wpAnyH_take (i := 1) (oi := ⟨(some 19), (.move (.tmp 5)), 3, "ref.go:33", #[], none⟩) (v := ?v51) rfl (by kernel_rfl) (by kernel_rfl) (by kernel_rfl) (fun _ _ _ h => h) (Or.inl ⟨rfl, ?hy51⟩) hHeld ?rest51
            case hy51 => (intro w _; go_simp <;> rfl)
            (try simp only [PU])
            refine wpAnyH_take (i := 2) (oi := ⟨(some 20), (.indexAddr 29 (.tmp 18) (.tmp 19)), 0, "ref.go:33", #[⟨0, .data⟩, ⟨1, .data⟩], none⟩) (v := ?v52) rfl (by kernel_rfl) (by kernel_rfl) (by kernel_rfl) (fun _ _ _ h => h) (Or.inl ⟨rfl, ?hy52⟩) hHeld ?rest52
            case hy52 => (intro w _; go_simp <;> first | with_reducible rfl | rw [if_neg (by omega)] | rw [if_pos (by omega)])
            (try simp only [PU])
            refine wpAnyH_take (i := 3) (oi := ⟨(some 21), (.fieldAddr 46 (.tmp 20) 0), 0, "ref.go:33", #[⟨2, .data⟩], none⟩) (v := ?v53) rfl (by kernel_rfl) (by kernel_rfl) (by kernel_rfl) (fun _ _ _ h => h) (Or.inl ⟨rfl, ?hy53⟩) hHeld ?rest53
            case hy53 => (intro w _; go_simp <;> rfl)
            (try simp only [PU])
            refine wpAnyH_take (i := 4) (oi := ⟨(some 22), (.load 3 (.tmp 21)), 3, "ref.go:33", #[⟨3, .data⟩], none⟩) (v := ?v54) rfl (by kernel_rfl) (by kernel_rfl) (by kernel_rfl) (fun _ _ _ h => h) (Or.inl ⟨rfl, ?hy54⟩) hHeld ?rest54
            case hy54 => (intro w hSw; (try dsimp only at hSw); go_simp <;> first | with_reducible rfl | rw [if_neg (by omega)] | rw [if_pos (by omega)])
            (try simp only [PU])
            refine wpAnyH_take (i := 5) (oi := ⟨(some 23), (.fieldAddr 25 (.tmp 2) 0), 0, "ref.go:33", #[], none⟩) (v := ?v55) rfl (by kernel_rfl) (by kernel_rfl) (by kernel_rfl) (fun _ _ _ h => h) (Or.inl ⟨rfl, ?hy55⟩) hHeld ?rest55
            case hy55 => (intro w _; go_simp <;> rfl)
            (try simp only [PU])
            refine wpAnyH_take (i := 6) (oi := ⟨(some 24), (.load 22 (.tmp 23)), 22, "ref.go:33", #[⟨5, .data⟩], none⟩) (v := ?v56) rfl (by kernel_rfl) (by kernel_rfl) (by kernel_rfl) (fun _ _ _ h => h) (Or.inl ⟨rfl, ?hy56⟩) hHeld ?rest56
            case hy56 => (intro w hSw; (try dsimp only at hSw); go_simp <;> first | with_reducible rfl | rw [if_neg (by omega)] | rw [if_pos (by omega)])
            (try simp only [PU])
            refine wpAnyH_take (i := 7) (oi := ⟨(some 25), (.move (.tmp 5)), 3, "ref.go:33", #[], none⟩) (v := ?v57) rfl (by kernel_rfl) (by kernel_rfl) (by kernel_rfl) (fun _ _ _ h => h) (Or.inl ⟨rfl, ?hy57⟩) hHeld ?rest57
            case hy57 => (intro w _; go_simp <;> rfl)
            (try simp only [PU])
            refine wpAnyH_take (i := 8) (oi := ⟨(some 26), (.indexAddr 22 (.tmp 24) (.tmp 25)), 0, "ref.go:33", #[⟨6, .data⟩, ⟨7, .data⟩], none⟩) (v := ?v58) rfl (by kernel_rfl) (by kernel_rfl) (by kernel_rfl) (fun _ _ _ h => h) (Or.inl ⟨rfl, ?hy58⟩) hHeld ?rest58
            case hy58 => (intro w _; go_simp <;> first | with_reducible rfl | rw [if_neg (by omega)] | rw [if_pos (by omega)])
            (try simp only [PU])
            refine wpAnyH_take (i := 9) (oi := ⟨(some 27), (.fieldAddr 58 (.tmp 26) 0), 0, "ref.go:33", #[⟨8, .data⟩], none⟩) (v := ?v59) rfl (by kernel_rfl) (by kernel_rfl) (by kernel_rfl) (fun _ _ _ h => h) (Or.inl ⟨rfl, ?hy59⟩) hHeld ?rest59
            case hy59 => (intro w _; go_simp <;> rfl)
            (try simp only [PU])
            refine wpAnyH_take (i := 10) (oi := ⟨(some 28), (.load 3 (.tmp 27)), 3, "ref.go:33", #[⟨9, .data⟩], none⟩) (v := ?v60) rfl (by kernel_rfl) (by kernel_rfl) (by kernel_rfl) (fun _ _ _ h => h) (Or.inl ⟨rfl, ?hy60⟩) hHeld ?rest60
            case hy60 => (intro w hSw; (try dsimp only at hSw); go_simp <;> first | with_reducible rfl | rw [if_neg (by omega)] | rw [if_pos (by omega)])
            (try simp only [PU])
            refine wpAnyH_take (i := 11) (oi := ⟨(some 29), (.binOp .neq 3 (.tmp 22) (.tmp 28) 3), 4, "ref.go:33", #[⟨4, .data⟩, ⟨10, .data⟩], none⟩) (v := ?v61) rfl (by kernel_rfl) (by kernel_rfl) (by kernel_rfl) (fun _ _ _ h => h) (Or.inl ⟨rfl, ?hy61⟩) hHeld ?rest61
            case hy61 => (intro w _; go_simp <;> first | with_reducible rfl | rw [if_neg (by omega)] | rw [if_pos (by omega)])
            (try simp only [PU])
            refine wpAnyH_take (i := 12) (oi := ⟨(some 30), (.move (.tmp 29)), 4, "ref.go:33", #[⟨11, .data⟩], none⟩) (v := ?v62) rfl (by kernel_rfl) (by kernel_rfl) (by kernel_rfl) (fun _ _ _ h => h) (Or.inl ⟨rfl, ?hy62⟩) hHeld ?rest62
            case hy62 => (intro w _; go_simp <;> rfl)
            (try simp only [PU])
            refine wpAnyH_take (i := 13) (oi := ⟨(some 31), (.move (.tmp 1)), 29, "ref.go:33", #[⟨12, .guard⟩], (some (12, false))⟩) (v := ?v63) rfl (by kernel_rfl) (by kernel_rfl) (by kernel_rfl) (fun _ _ _ h => h) (Or.inl ⟨rfl, ?hy63⟩) hHeld ?rest63
            case hy63 => (intro w _; go_simp <;> rfl)
            (try simp only [PU])
            refine wpAnyH_take (i := 14) (oi := ⟨(some 32), (.move (.tmp 5)), 3, "ref.go:33", #[⟨12, .guard⟩], (some (12, false))⟩) (v := ?v64) rfl (by kernel_rfl) (by kernel_rfl) (by kernel_rfl) (fun _ _ _ h => h) (Or.inl ⟨rfl, ?hy64⟩) hHeld ?rest64
            case hy64 => (intro w _; go_simp <;> rfl)
            (try simp only [PU])
            refine wpAnyH_take (i := 15) (oi := ⟨(some 33), (.indexAddr 29 (.tmp 31) (.tmp 32)), 0, "ref.go:33", #[⟨13, .data⟩, ⟨14, .data⟩, ⟨12, .guard⟩], (some (12, false))⟩) (v := ?v65) rfl (by kernel_rfl) (by kernel_rfl) (by kernel_rfl) (fun _ _ _ h => h) (Or.inl ⟨rfl, ?hy65⟩) hHeld ?rest65
            case hy65 => (intro w _; go_simp <;> first | with_reducible rfl | rw [if_neg (by omega)] | rw [if_pos (by omega)])
            (try simp only [PU])
            refine wpAnyH_take (i := 16) (oi := ⟨(some 34), (.fieldAddr 46 (.tmp 33) 1), 0, "ref.go:33", #[⟨15, .data⟩, ⟨12, .guard⟩], (some (12, false))⟩) (v := ?v66) rfl (by kernel_rfl) (by kernel_rfl) (by kernel_rfl) (fun _ _ _ h => h) (Or.inl ⟨rfl, ?hy66⟩) hHeld ?rest66
            case hy66 => (intro w _; go_simp <;> rfl)
            (try simp only [PU])
            refine wpAnyH_take (i := 17) (oi := ⟨(some 35), (.load 28 (.tmp 34)), 28, "ref.go:33", #[⟨16, .data⟩, ⟨12, .guard⟩], (some (12, false))⟩) (v := ?v67) rfl (by kernel_rfl) (by kernel_rfl) (by kernel_rfl) (fun _ _ _ h => h) (Or.inl ⟨rfl, ?hy67⟩) hHeld ?rest67
            case hy67 => (intro w hSw; (try dsimp only at hSw); go_simp <;> first | with_reducible rfl | rw [if_neg (by omega)] | rw [if_pos (by omega)])
            (try simp only [PU])
            refine wpAnyH_ready (rs := [18]) (by kernel_rfl) (by simp) ?_
            refine AllReadyH.cons (o := ⟨(some 36), (.call { callee := (.value (.func 50)), args := #[(.tmp 35)], argTypes := #[28] }), 4, "ref.go:33", #[⟨17, .data⟩, ⟨12, .chain⟩, ⟨12, .guard⟩], (some (12, false))⟩) rfl (fun K hK => ?step68x0) ?more68x0
            case more68x0 => exact AllReadyH.nil
            go_simp
            (refine (HC.out _).mono ?_; rintro e w3 ⟨rfl, hb3⟩; replace hb3 : Ext wr w3 := Ext.trans (by with_reducible repeat (first | exact Ext.refl _ | assumption | refine Ext.drew ?_ | refine Ext.drewN ?_ _ | refine Ext.alloc ?_ _)) (of_below hb3))
            refine hK.out _ _ ?hS68x0 (fun hHeld68 => ?rest68x0)
            case hS68x0 => first | (exact MKR4.out _ (by with_reducible repeat (first | exact Ext.refl _ | assumption | refine Ext.drew ?_ | refine Ext.drewN ?_ _ | refine Ext.alloc ?_ _))) | ((try dsimp only); (exact MKR4.out _ (by with_reducible repeat (first | exact Ext.refl _ | assumption | refine Ext.drew ?_ | refine Ext.drewN ?_ _ | refine Ext.alloc ?_ _))))
            clear hK K
            clear hHeld
            (try simp only [PU])
            refine wpAnyH_take (i := 19) (oi := ⟨(some 37), (.unOp .not 4 (.tmp 36)), 4, "ref.go:33", #[⟨18, .data⟩, ⟨12, .guard⟩], (some (12, false))⟩) (v := ?v69) rfl (by kernel_rfl) (by kernel_rfl) (by kernel_rfl) (fun _ _ _ h => h) (Or.inl ⟨rfl, ?hy69⟩) hHeld68 ?rest69
            case hy69 => (intro w _; go_simp <;> first | with_reducible rfl | rw [if_neg (by omega)] | rw [if_pos (by omega)])
            (try simp only [PU])
            refine wpAnyH_take (i := 20) (oi := ⟨(some 38), (.pick (.tmp 30) (.const (.bool true)) (.tmp 37)), 4, "ref.go:33", #[⟨12, .data⟩, ⟨19, .data⟩], none⟩) (v := ?v70) rfl (by kernel_rfl) (by kernel_rfl) (by kernel_rfl) (fun _ _ _ h => h) (Or.inl ⟨rfl, ?hy70⟩) hHeld68 ?rest70
            case hy70 => (intro w _; go_simp <;> rfl)
            (try simp only [PU])
            refine wpAnyH_done (by kernel_rfl) ?_ _
            clear hHeld68
            clear MKR4
            go_wp2_with fail
            go_ret
            exact ⟨ret_bool HT.out.symm, hx1.trans (hE.trans (by with_reducible repeat (first | exact Ext.refl _ | assumption | refine Ext.drew ?_ | refine Ext.drewN ?_ _ | refine Ext.alloc ?_ _)))⟩
          · have HT := Lib.hid (HS.out ⟨he, rfl⟩)
            clear HS HX he
            go_upto_region 6 with (fail)
            have MKR5 := Lib.hid (fun V (e : Ext wr V) => (⟨e.cell a0, e.cell a1, e.cell a2, e.cell G0, e.cell b0, e⟩ : V.cell? ⟨bs, os + k * 3, none⟩ = some (.int .i64 x.id) ∧ V.cell? ⟨bs, os + k * 3 + 1, none⟩ = some (.int .i64 x.n) ∧ V.cell? ⟨bs, os + k * 3 + 2, none⟩ = some (.int .i64 x.d) ∧ V.cell? ⟨q, 0, none⟩ = some (.slice (some ⟨bn, on, none⟩) g.nodes.length c) ∧ V.cell? ⟨bn, on + k * 3, none⟩ = some (.int .i64 y) ∧ Ext wr V))
            refine wp_region_held_drew (S := (fun V => V.cell? ⟨bs, os + k * 3, none⟩ = some (.int .i64 x.id) ∧ V.cell? ⟨bs, os + k * 3 + 1, none⟩ = some (.int .i64 x.n) ∧ V.cell? ⟨bs, os + k * 3 + 2, none⟩ = some (.int .i64 x.d) ∧ V.cell? ⟨q, 0, none⟩ = some (.slice (some ⟨bn, on, none⟩) g.nodes.length c) ∧ V.cell? ⟨bn, on + k * 3, none⟩ = some (.int .i64 y) ∧ Ext wr V)) (by kernel_rfl) ?hs71 (fun hHeld => ?go71)
            case hs71 => (exact MKR5.out _ (by with_reducible repeat (first | exact Ext.refl _ | assumption | refine Ext.drew ?_ | refine Ext.drewN ?_ _ | refine Ext.alloc ?_ _)))
            refine wpAnyH_take (i := 0) (oi := ⟨(some 18), (.move (.tmp 1)), 29, "ref.go:33", #[], none⟩) (v := ?v72) rfl (by kernel_rfl) (by kernel_rfl) (by kernel_rfl) (fun _ _ _ h => h) (Or.inl ⟨rfl, ?hy72⟩) hHeld ?rest72
            case hy72 => (intro w _; go_simp <;> rfl)
            (try simp only [PU])
            refine wpAnyH_take (i := 1) (oi := ⟨(some 19), (.move (.tmp 5)), 3, "ref.go:33", #[], none⟩) (v := ?v73) rfl (by kernel_rfl) (by kernel_rfl) (by kernel_rfl) (fun _ _ _ h => h) (Or.inl ⟨rfl, ?hy73⟩) hHeld ?rest73
            case hy73 => (intro w _; go_simp <;> rfl)
            (try simp only [PU])
            refine wpAnyH_take (i := 2) (oi := ⟨(some 20), (.indexAddr 29 (.tmp 18) (.tmp 19)), 0, "ref.go:33", #[⟨0, .data⟩, ⟨1, .data⟩], none⟩) (v := ?v74) rfl (by kernel_rfl) (by kernel_rfl) (by kernel_rfl) (fun _ _ _ h => h) (Or.inl ⟨rfl, ?hy74⟩) hHeld ?rest74
            case hy74 => (intro w _; go_simp <;> first | with_reducible rfl | rw [if_neg (by omega)] | rw [if_pos (by omega)])
            (try simp only [PU])
            refine wpAnyH_take (i := 3) (oi := ⟨(some 21), (.fieldAddr 46 (.tmp 20) 0), 0, "ref.go:33", #[⟨2, .data⟩], none⟩) (v := ?v75) rfl (by kernel_rfl) (by kernel_rfl) (by kernel_rfl) (fun _ _ _ h => h) (Or.inl ⟨rfl, ?hy75⟩) hHeld ?rest75
            case hy75 => (intro w _; go_simp <;> rfl)
            (try simp only [PU])
            refine wpAnyH_take (i := 4) (oi := ⟨(some 22), (.load 3 (.tmp 21)), 3, "ref.go:33", #[⟨3, .data⟩], none⟩) (v := ?v76) rfl (by kernel_rfl) (by kernel_rfl) (by kernel_rfl) (fun _ _ _ h => h) (Or.inl ⟨rfl, ?hy76⟩) hHeld ?rest76
            case hy76 => (intro w hSw; (try dsimp only at hSw); go_simp <;> first | with_reducible rfl | rw [if_neg (by omega)] | rw [if_pos (by omega)])
            (try simp only [PU])
            refine wpAnyH_take (i := 5) (oi := ⟨(some 23), (.fieldAddr 25 (.tmp 2) 0), 0, "ref.go:33", #[], none⟩) (v := ?v77) rfl (by kernel_rfl) (by kernel_rfl) (by kernel_rfl) (fun _ _ _ h => h) (Or.inl ⟨rfl, ?hy77⟩) hHeld ?rest77
            case hy77 => (intro w _; go_simp <;> rfl)
            (try simp only [PU])
            refine wpAnyH_take (i := 6) (oi := ⟨(some 24), (.load 22 (.tmp 23)), 22, "ref.go:33", #[⟨5, .data⟩], none⟩) (v := ?v78) rfl (by kernel_rfl) (by kernel_rfl) (by kernel_rfl) (fun _ _ _ h => h) (Or.inl ⟨rfl, ?hy78⟩) hHeld ?rest78
            case hy78 => (intro w hSw; (try dsimp only at hSw); go_simp <;> first | with_reducible rfl | rw [if_neg (by omega)] | rw [if_pos (by omega)])
            (try simp only [PU])
            refine wpAnyH_take (i := 7) (oi := ⟨(some 25), (.move (.tmp 5)), 3, "ref.go:33", #[], none⟩) (v := ?v79) rfl (by kernel_rfl) (by kernel_rfl) (by kernel_rfl) (fun _ _ _ h => h) (Or.inl ⟨rfl, ?hy79⟩) hHeld ?rest79
            case hy79 => (intro w _; go_simp <;> rfl)
            (try simp only [PU])
            refine wpAnyH_take (i := 8) (oi := ⟨(some 26), (.indexAddr 22 (.tmp 24) (.tmp 25)), 0, "ref.go:33", #[⟨6, .data⟩, ⟨7, .data⟩], none⟩) (v := ?v80) rfl (by kernel_rfl) (by kernel_rfl) (by kernel_rfl) (fun _ _ _ h => h) (Or.inl ⟨rfl, ?hy80⟩) hHeld ?rest80
            case hy80 => (intro w _; go_simp <;> first | with_reducible rfl | rw [if_neg (by omega)] | rw [if_pos (by omega)])
            (try simp only [PU])
            refine wpAnyH_take (i := 9) (oi := ⟨(some 27), (.fieldAddr 58 (.tmp 26) 0), 0, "ref.go:33", #[⟨8, .data⟩], none⟩) (v := ?v81) rfl (by kernel_rfl) (by kernel_rfl) (by kernel_rfl) (fun _ _ _ h => h) (Or.inl ⟨rfl, ?hy81⟩) hHeld ?rest81
            case hy81 => (intro w _; go_simp <;> rfl)
            (try simp only [PU])
            refine wpAnyH_take (i := 10) (oi := ⟨(some 28), (.load 3 (.tmp 27)), 3, "ref.go:33", #[⟨9, .data⟩], none⟩) (v := ?v82) rfl (by kernel_rfl) (by kernel_rfl) (by kernel_rfl) (fun _ _ _ h => h) (Or.inl ⟨rfl, ?hy82⟩) hHeld ?rest82
            case hy82 => (intro w hSw; (try dsimp only at hSw); go_simp <;> first | with_reducible rfl | rw [if_neg (by omega)] | rw [if_pos (by omega)])
            (try simp only [PU])
            refine wpAnyH_take (i := 11) (oi := ⟨(some 29), (.binOp .neq 3 (.tmp 22) (.tmp 28) 3), 4, "ref.go:33", #[⟨4, .data⟩, ⟨10, .data⟩], none⟩) (v := ?v83) rfl (by kernel_rfl) (by kernel_rfl) (by kernel_rfl) (fun _ _ _ h => h) (Or.inl ⟨rfl, ?hy83⟩) hHeld ?rest83
            case hy83 => (intro w _; go_simp <;> first | with_reducible rfl | rw [if_neg (by omega)] | rw [if_pos (by omega)])
            (try simp only [PU])
            refine wpAnyH_take (i := 12) (oi := ⟨(some 30), (.move (.tmp 29)), 4, "ref.go:33", #[⟨11, .data⟩], none⟩) (v := ?v84) rfl (by kernel_rfl) (by kernel_rfl) (by kernel_rfl) (fun _ _ _ h => h) (Or.inl ⟨rfl, ?hy84⟩) hHeld ?rest84
            case hy84 => (intro w _; go_simp <;> rfl)
            (try simp only [PU])
            refine wpAnyH_take (i := 13) (oi := ⟨(some 31), (.move (.tmp 1)), 29, "ref.go:33", #[⟨12, .guard⟩], (some (12, false))⟩) (v := ?v85) rfl (by kernel_rfl) (by kernel_rfl) (by kernel_rfl) (fun _ _ _ h => h) (Or.inl ⟨rfl, ?hy85⟩) hHeld ?rest85
            case hy85 => (intro w _; go_simp <;> rfl)
            (try simp only [PU])
            refine wpAnyH_take (i := 14) (oi := ⟨(some 32), (.move (.tmp 5)), 3, "ref.go:33", #[⟨12, .guard⟩], (some (12, false))⟩) (v := ?v86) rfl (by kernel_rfl) (by kernel_rfl) (by kernel_rfl) (fun _ _ _ h => h) (Or.inl ⟨rfl, ?hy86⟩) hHeld ?rest86
            case hy86 => (intro w _; go_simp <;> rfl)
            (try simp only [PU])
            refine wpAnyH_take (i := 15) (oi := ⟨(some 33), (.indexAddr 29 (.tmp 31) (.tmp 32)), 0, "ref.go:33", #[⟨13, .data⟩, ⟨14, .data⟩, ⟨12, .guard⟩], (some (12, false))⟩) (v := ?v87) rfl (by kernel_rfl) (by kernel_rfl) (by kernel_rfl) (fun _ _ _ h => h) (Or.inl ⟨rfl, ?hy87⟩) hHeld ?rest87
            case hy87 => (intro w _; go_simp <;> first | with_reducible rfl | rw [if_neg (by omega)] | rw [if_pos (by omega)])
            (try simp only [PU])
            refine wpAnyH_take (i := 16) (oi := ⟨(some 34), (.fieldAddr 46 (.tmp 33) 1), 0, "ref.go:33", #[⟨15, .data⟩, ⟨12, .guard⟩], (some (12, false))⟩) (v := ?v88) rfl (by kernel_rfl) (by kernel_rfl) (by kernel_rfl) (fun _ _ _ h => h) (Or.inl ⟨rfl, ?hy88⟩) hHeld ?rest88
            case hy88 => (intro w _; go_simp <;> rfl)
            (try simp only [PU])
            refine wpAnyH_take (i := 17) (oi := ⟨(some 35), (.load 28 (.tmp 34)), 28, "ref.go:33", #[⟨16, .data⟩, ⟨12, .guard⟩], (some (12, false))⟩) (v := ?v89) rfl (by kernel_rfl) (by kernel_rfl) (by kernel_rfl) (fun _ _ _ h => h) (Or.inl ⟨rfl, ?hy89⟩) hHeld ?rest89
            case hy89 => (intro w hSw; (try dsimp only at hSw); go_simp <;> first | with_reducible rfl | rw [if_neg (by omega)] | rw [if_pos (by omega)])
            (try simp only [PU])
            refine wpAnyH_ready (rs := [18]) (by kernel_rfl) (by simp) ?_
            refine AllReadyH.cons (o := ⟨(some 36), (.call { callee := (.value (.func 50)), args := #[(.tmp 35)], argTypes := #[28] }), 4, "ref.go:33", #[⟨17, .data⟩, ⟨12, .chain⟩, ⟨12, .guard⟩], (some (12, false))⟩) rfl (fun K hK => ?step90x0) ?more90x0
            case more90x0 => exact AllReadyH.nil
            go_simp
            (refine (HC.out _).mono ?_; rintro e w3 ⟨rfl, hb3⟩; replace hb3 : Ext wr w3 := Ext.trans (by with_reducible repeat (first | exact Ext.refl _ | assumption | refine Ext.drew ?_ | refine Ext.drewN ?_ _ | refine Ext.alloc ?_ _)) (of_below hb3))
            refine hK.out _ _ ?hS90x0 (fun hHeld90 => ?rest90x0)
            case hS90x0 => first | (exact MKR5.out _ (by with_reducible repeat (first | exact Ext.refl _ | assumption | refine Ext.drew ?_ | refine Ext.drewN ?_ _ | refine Ext.alloc ?_ _))) | ((try dsimp only); (exact MKR5.out _ (by with_reducible repeat (first | exact Ext.refl _ | assumption | refine Ext.drew ?_ | refine Ext.drewN ?_ _ | refine Ext.alloc ?_ _))))
            clear hK K
            clear hHeld
            (try simp only [PU])
            refine wpAnyH_take (i := 19) (oi := ⟨(some 37), (.unOp .not 4 (.tmp 36)), 4, "ref.go:33", #[⟨18, .data⟩, ⟨12, .guard⟩], (some (12, false))⟩) (v := ?v91) rfl (by kernel_rfl) (by kernel_rfl) (by kernel_rfl) (fun _ _ _ h => h) (Or.inl ⟨rfl, ?hy91⟩) hHeld90 ?rest91
            case hy91 => (intro w _; go_simp <;> first | with_reducible rfl | rw [if_neg (by omega)] | rw [if_pos (by omega)])
            (try simp only [PU])
            refine wpAnyH_take (i := 20) (oi := ⟨(some 38), (.pick (.tmp 30) (.const (.bool true)) (.tmp 37)), 4, "ref.go:33", #[⟨12, .data⟩, ⟨19, .data⟩], none⟩) (v := ?v92) rfl (by kernel_rfl) (by kernel_rfl) (by kernel_rfl) (fun _ _ _ h => h) (Or.inl ⟨rfl, ?hy92⟩) hHeld90 ?rest92
            case hy92 => (intro w _; go_simp <;> rfl)
            (try simp only [PU])
            refine wpAnyH_done (by kernel_rfl) ?_ _
            clear hHeld90
            clear MKR5
            go_wp2_with fail
            go_roundw
            case rel => exact ⟨k + 1, by go_num, by omega, HT, hE.trans (by with_reducible repeat (first | exact Ext.refl _ | assumption | refine Ext.drew ?_ | refine Ext.drewN ?_ _ | refine Ext.alloc ?_ _))⟩
            case measure => simp [intOf]; omega
        · have he2 : (x.id != y) = true := bne_iff_ne.2 he
          have HT := Lib.hid (HX.out (fun h => he h.1))
          clear HS HX he
          go_upto_region 6 with (fail)
          have MKR6 := Lib.hid (fun V (e : Ext wr V) => (⟨e.cell a0, e.cell G0, e.cell b0, e⟩ : V.cell? ⟨bs, os + k * 3, none⟩ = some (.int .i64 x.id) ∧ V.cell? ⟨q, 0, none⟩ = some (.slice (some ⟨bn, on, none⟩) g.nodes.length c) ∧ V.cell? ⟨bn, on + k * 3, none⟩ = some (.int .i64 y) ∧ Ext wr V))
          refine wp_region_held_drew (S := (fun V => V.cell? ⟨bs, os + k * 3, none⟩ = some (.int .i64 x.id) ∧ V.cell? ⟨q, 0, none⟩ = some (.slice (some ⟨bn, on, none⟩) g.nodes.length c) ∧ V.cell? ⟨bn, on + k * 3, none⟩ = some (.int .i64 y) ∧ Ext wr V)) (by kernel_rfl) ?hs93 (fun hHeld => ?go93)
          case hs93 => (exact MKR6.out _ (by with_reducible repeat (first | exact Ext.refl _ | assumption | refine Ext.drew ?_ | refine Ext.drewN ?_ _ | refine Ext.alloc ?_ _)))
          refine wpAnyH_take (i := 0) (oi := ⟨(some 18), (.move (.tmp 1)), 29, "ref.go:33", #[], none⟩) (v := ?v94) rfl (by kernel_rfl) (by kernel_rfl) (by kernel_rfl) (fun _ _ _ h => h) (Or.inl ⟨rfl, ?hy94⟩) hHeld ?rest94
          case hy94 => (intro w _; go_simp <;> rfl)
          (try simp only [PU])
          refine wpAnyH_take (i := 1) (oi := ⟨(some 19), (.move (.tmp 5)), 3, "ref.go:33", #[], none⟩) (v := ?v95) rfl (by kernel_rfl) (by kernel_rfl) (by kernel_rfl) (fun _ _ _ h => h) (Or.inl ⟨rfl, ?hy95⟩) hHeld ?rest95
          case hy95 => (intro w _; go_simp <;> rfl)
          (try simp only [PU])
          refine wpAnyH_take (i := 2) (oi := ⟨(some 20), (.indexAddr 29 (.tmp 18) (.tmp 19)), 0, "ref.go:33", #[⟨0, .data⟩, ⟨1, .data⟩], none⟩) (v := ?v96) rfl (by kernel_rfl) (by kernel_rfl) (by kernel_rfl) (fun _ _ _ h => h) (Or.inl ⟨rfl, ?hy96⟩) hHeld ?rest96
          case hy96 => (intro w _; go_simp <;> first | with_reducible rfl | rw [if_neg (by omega)] | rw [if_pos (by omega)])
          (try simp only [PU])
          refine wpAnyH_take (i := 3) (oi := ⟨(some 21), (.fieldAddr 46 (.tmp 20) 0), 0, "ref.go:33", #[⟨2, .data⟩], none⟩) (v := ?v97) rfl (by kernel_rfl) (by kernel_rfl) (by kernel_rfl) (fun _ _ _ h => h) (Or.inl ⟨rfl, ?hy97⟩) hHeld ?rest97
          case hy97 => (intro w _; go_simp <;> rfl)
          (try simp only [PU])
          refine wpAnyH_take (i := 4) (oi := ⟨(some 22), (.load 3 (.tmp 21)), 3, "ref.go:33", #[⟨3, .data⟩], none⟩) (v := ?v98) rfl (by kernel_rfl) (by kernel_rfl) (by kernel_rfl) (fun _ _ _ h => h) (Or.inl ⟨rfl, ?hy98⟩) hHeld ?rest98
          case hy98 => (intro w hSw; (try dsimp only at hSw); go_simp <;> first | with_reducible rfl | rw [if_neg (by omega)] | rw [if_pos (by omega)])
          (try simp only [PU])
          refine wpAnyH_take (i := 5) (oi := ⟨(some 23), (.fieldAddr 25 (.tmp 2) 0), 0, "ref.go:33", #[], none⟩) (v := ?v99) rfl (by kernel_rfl) (by kernel_rfl) (by kernel_rfl) (fun _ _ _ h => h) (Or.inl ⟨rfl, ?hy99⟩) hHeld ?rest99
          case hy99 => (intro w _; go_simp <;> rfl)
          (try simp only [PU])
          refine wpAnyH_take (i := 6) (oi := ⟨(some 24), (.load 22 (.tmp 23)), 22, "ref.go:33", #[⟨5, .data⟩], none⟩) (v := ?v100) rfl (by kernel_rfl) (by kernel_rfl) (by kernel_rfl) (fun _ _ _ h => h) (Or.inl ⟨rfl, ?hy100⟩) hHeld ?rest100
          case hy100 => (intro w hSw; (try dsimp only at hSw); go_simp <;> first | with_reducible rfl | rw [if_neg (by omega)] | rw [if_pos (by omega)])
          (try simp only [PU])
          refine wpAnyH_take (i := 7) (oi := ⟨(some 25), (.move (.tmp 5)), 3, "ref.go:33", #[], none⟩) (v := ?v101) rfl (by kernel_rfl) (by kernel_rfl) (by kernel_rfl) (fun _ _ _ h => h) (Or.inl ⟨rfl, ?hy101⟩) hHeld ?rest101
          case hy101 => (intro w _; go_simp <;> rfl)
          (try simp only [PU])
          refine wpAnyH_take (i := 8) (oi := ⟨(some 26), (.indexAddr 22 (.tmp 24) (.tmp 25)), 0, "ref.go:33", #[⟨6, .data⟩, ⟨7, .data⟩], none⟩) (v := ?v102) rfl (by kernel_rfl) (by kernel_rfl) (by kernel_rfl) (fun _ _ _ h => h) (Or.inl ⟨rfl, ?hy102⟩) hHeld ?rest102
          case hy102 => (intro w _; go_simp <;> first | with_reducible rfl | rw [if_neg (by omega)] | rw [if_pos (by omega)])
          (try simp only [PU])
          refine wpAnyH_take (i := 9) (oi := ⟨(some 27), (.fieldAddr 58 (.tmp 26) 0), 0, "ref.go:33", #[⟨8, .data⟩], none⟩) (v := ?v103) rfl (by kernel_rfl) (by kernel_rfl) (by kernel_rfl) (fun _ _ _ h => h) (Or.inl ⟨rfl, ?hy103⟩) hHeld ?rest103
          case hy103 => (intro w _; go_simp <;> rfl)
          (try simp only [PU])
          refine wpAnyH_take (i := 10) (oi := ⟨(some 28), (.load 3 (.tmp 27)), 3, "ref.go:33", #[⟨9, .data⟩], none⟩) (v := ?v104) rfl (by kernel_rfl) (by kernel_rfl) (by kernel_rfl) (fun _ _ _ h => h) (Or.inl ⟨rfl, ?hy104⟩) hHeld ?rest104
          case hy104 => (intro w hSw; (try dsimp only at hSw); go_simp <;> first | with_reducible rfl | rw [if_neg (by omega)] | rw [if_pos (by omega)])
          (try simp only [PU])
          refine wpAnyH_take (i := 11) (oi := ⟨(some 29), (.binOp .neq 3 (.tmp 22) (.tmp 28) 3), 4, "ref.go:33", #[⟨4, .data⟩, ⟨10, .data⟩], none⟩) (v := ?v105) rfl (by kernel_rfl) (by kernel_rfl) (by kernel_rfl) (fun _ _ _ h => h) (Or.inl ⟨rfl, ?hy105⟩) hHeld ?rest105
          case hy105 => (intro w _; go_simp <;> first | with_reducible rfl | rw [if_neg (by omega)] | rw [if_pos (by omega)])
          (try simp only [PU])
          refine wpAnyH_take (i := 12) (oi := ⟨(some 30), (.move (.tmp 29)), 4, "ref.go:33", #[⟨11, .data⟩], none⟩) (v := ?v106) rfl (by kernel_rfl) (by kernel_rfl) (by kernel_rfl) (fun _ _ _ h => h) (Or.inl ⟨rfl, ?hy106⟩) hHeld ?rest106
          case hy106 => (intro w _; go_simp <;> rfl)
          (try simp only [PU])
          refine wpAnyH_take (i := 13) (oi := ⟨(some 31), (.move (.tmp 1)), 29, "ref.go:33", #[⟨12, .guard⟩], (some (12, false))⟩) (v := undef) rfl (by kernel_rfl) (by kernel_rfl) (by kernel_rfl) (fun _ _ _ h => h) (Or.inr ⟨rfl, rfl⟩) hHeld ?rest107
          (try simp only [PU])
          refine wpAnyH_take (i := 14) (oi := ⟨(some 32), (.move (.tmp 5)), 3, "ref.go:33", #[⟨12, .guard⟩], (some (12, false))⟩) (v := undef) rfl (by kernel_rfl) (by kernel_rfl) (by kernel_rfl) (fun _ _ _ h => h) (Or.inr ⟨rfl, rfl⟩) hHeld ?rest108
          (try simp only [PU])
          refine wpAnyH_take (i := 15) (oi := ⟨(some 33), (.indexAddr 29 (.tmp 31) (.tmp 32)), 0, "ref.go:33", #[⟨13, .data⟩, ⟨14, .data⟩, ⟨12, .guard⟩], (some (12, false))⟩) (v := undef) rfl (by kernel_rfl) (by kernel_rfl) (by kernel_rfl) (fun _ _ _ h => h) (Or.inr ⟨rfl, rfl⟩) hHeld ?rest109
          (try simp only [PU])
          refine wpAnyH_take (i := 16) (oi := ⟨(some 34), (.fieldAddr 46 (.tmp 33) 1), 0, "ref.go:33", #[⟨15, .data⟩, ⟨12, .guard⟩], (some (12, false))⟩) (v := undef) rfl (by kernel_rfl) (by kernel_rfl) (by kernel_rfl) (fun _ _ _ h => h) (Or.inr ⟨rfl, rfl⟩) hHeld ?rest110
          (try simp only [PU])
          refine wpAnyH_take (i := 17) (oi := ⟨(some 35), (.load 28 (.tmp 34)), 28, "ref.go:33", #[⟨16, .data⟩, ⟨12, .guard⟩], (some (12, false))⟩) (v := undef) rfl (by kernel_rfl) (by kernel_rfl) (by kernel_rfl) (fun _ _ _ h => h) (Or.inr ⟨rfl, rfl⟩) hHeld ?rest111
          (try simp only [PU])
          refine wpAnyH_take (i := 18) (oi := ⟨(some 36), (.call { callee := (.value (.func 50)), args := #[(.tmp 35)], argTypes := #[28] }), 4, "ref.go:33", #[⟨17, .data⟩, ⟨12, .chain⟩, ⟨12, .guard⟩], (some (12, false))⟩) (v := undef) rfl (by kernel_rfl) (by kernel_rfl) (by kernel_rfl) (fun _ _ _ h => h) (Or.inr ⟨rfl, rfl⟩) hHeld ?rest112
          (try simp only [PU])
          refine wpAnyH_take (i := 19) (oi := ⟨(some 37), (.unOp .not 4 (.tmp 36)), 4, "ref.go:33", #[⟨18, .data⟩, ⟨12, .guard⟩], (some (12, false))⟩) (v := undef) rfl (by kernel_rfl) (by kernel_rfl) (by kernel_rfl) (fun _ _ _ h => h) (Or.inr ⟨rfl, rfl⟩) hHeld ?rest113
          (try simp only [PU])
          refine wpAnyH_take (i := 20) (oi := ⟨(some 38), (.pick (.tmp 30) (.const (.bool true)) (.tmp 37)), 4, "ref.go:33", #[⟨12, .data⟩, ⟨19, .data⟩], none⟩) (v := ?v114) rfl (by kernel_rfl) (by kernel_rfl) (by kernel_rfl) (fun _ _ _ h => h) (Or.inl ⟨rfl, ?hy114⟩) hHeld ?rest114
          case hy114 => (intro w _; go_simp <;> rfl)
          (try simp only [PU])
          refine wpAnyH_done (by kernel_rfl) ?_ _
          clear hHeld
          clear MKR6
          go_wp2_with fail
          go_ret
          exact ⟨ret_bool HT.out.symm, hx1.trans (hE.trans (by with_reducible repeat (first | exact Ext.refl _ | assumption | refine Ext.drew ?_ | refine Ext.drewN ?_ _ | refine Ext.alloc ?_ _)))⟩
      · have HT := Lib.hid (HYE.out ⟨HLEN.out, fun t ht => hgd.out t (by omega)⟩)
        clear HYE HNO hgd
        go_wp2_with fail
        go_ret
        exact ⟨ret_bool HT.out.symm, hx1.trans hE⟩
  · have HT := Lib.hid (HNO.out (fun h => hlen h.1))
    have hne : ((l.length : Int) != (g.nodes.length : Int)) = true := by rw [bne_iff_ne]; omega
    clear HYE HNO hlen
    go_enter Tryz.func23, Tryz.ntmps23
    go_upto_region 1 with (fail)
    rw [← HW1.out, ← HG.out]
    clear HW1 HG
    go_wp2_with fail
    go_ret
    exact ⟨ret_bool HT.out.symm, hx1⟩
end Go.Proofs.YtlkpmbkmmfoakaaGreatDoor

/- THE WALKS over degrees, shares of nodes, Start, and the comparison of lists of shares. -/
namespace Go.Proofs.YtlkpmbkmmfoakaaGreatDoor
open Go.RowKit
/-- how many edges of the types leave a node -/
def degN (types : List ByteArray) (E : List EdgeG) (id : Int) : Nat := (E.filter (fun e => decide (e.frm = id) && typB types e.typ)).length
theorem degN_snoc (types : List ByteArray) (E : List EdgeG) (id : Int) (k : Nat) (h : k < E.length) : degN types (E.take (k + 1)) id = degN types (E.take k) id + if (decide (E[k]!.frm = id) && typB types E[k]!.typ) = true then 1 else 0 := by
  unfold degN
  rw [List.take_succ_eq_append_getElem h, List.filter_append, List.length_append, getElem!_pos E k h]
  congr 1
  rw [List.filter_cons]
  split <;> rfl
theorem degN_le (types : List ByteArray) (E : List EdgeG) (id : Int) : degN types E id ≤ E.length := List.length_filter_le _ _
def shareOf (l : List Sh) (id : Int) : Fr := match l.find? (fun s => decide (s.id = id)) with | some s => (s.n, s.d) | none => (0, 1)
theorem shareOf_at {l : List Sh} {id : Int} (k : Nat) (hk : k < l.length) (h0 : ∀ j < k, l[j]!.id ≠ id) (h : l[k]!.id = id) : shareOf l id = (l[k]!.n, l[k]!.d) := by
  unfold shareOf
  have : l.find? (fun s => decide (s.id = id)) = some l[k]! := by
    rw [getElem!_pos l k hk] at h ⊢
    rw [List.find?_eq_some_iff_getElem]
    exact ⟨decide_eq_true h, k, hk, rfl, fun j hj => by have := h0 j hj; rw [getElem!_pos l j (by omega)] at this; simpa using this⟩
  rw [this]
theorem shareOf_none {l : List Sh} {id : Int} (h : ∀ j < l.length, l[j]!.id ≠ id) : shareOf l id = (0, 1) := by
  unfold shareOf
  have : l.find? (fun s => decide (s.id = id)) = none := List.find?_eq_none.2 (fun x hx => by
    obtain ⟨j, hj, rfl⟩ := List.getElem_of_mem hx
    have := h j hj
    rw [getElem!_pos l j hj] at this
    simpa using this)
  rw [this]
def startR (g : GraphG) : List Sh := if chkG g = 0 then g.nodes.map (fun x => ⟨x.id, 1, (g.nodes.length : Int)⟩) else []
def Sh.cells (s : Sh) : List Value := [.int .i64 s.id, .int .i64 s.n, .int .i64 s.d]
theorem Sh.cells_one (s : Sh) : ∀ u ∈ s.cells, u.oneCell' = true := by
  intro u hu
  simp only [Sh.cells, List.mem_cons, List.not_mem_nil, or_false] at hu
  rcases hu with rfl | rfl | rfl <;> rfl
theorem El_share : ElT Tryz.prog 29 46 3 24 := ⟨Tryz.underlying29, ⟨.agg #[.int .i64 0, .int .i64 0, .int .i64 0], by kernel_rfl, rfl⟩, by decide⟩
theorem shares_of_own {w : World} {base e : Nat} {v : Value} {n : Nat} {l : List Sh} (h : w.ownsRow base e 3 v n (l.flatMap Sh.cells)) (hn : n = l.length) (hm : l.length ≤ 140737488355328) : ∃ A c, v = .slice A l.length c ∧ l.length ≤ c ∧ Shares w (fun b => base ≤ b) A l :=
  own_sliceR (cs := l.map Sh.cells) (by rw [← List.flatMap_def]; exact h) hn (by simp) (by simp [Sh.cells]) hm (fun g hg _ k hk h' hu => ⟨hg, by have := hu 0 (.int .i64 l[k].id) (by simp [Sh.cells]); simpa using this, by have := hu 1 (.int .i64 l[k].n) (by simp [Sh.cells]); simpa using this, by have := hu 2 (.int .i64 l[k].d) (by simp [Sh.cells]); simpa using this⟩)
set_option maxRecDepth 100000 in
set_option maxHeartbeats 1600000 in
theorem r51_degree (g : GraphG) (types : List ByteArray) (id : Int) (ok ok' : Nat → Prop) (A B T : Option Addr) (c d e : Nat) (w : World) (hg : Edges w ok B g.edges) (ht : Strs w ok' T types) :
    Calls Tryz.prog 51 #[.agg #[.slice A g.nodes.length c, .slice B g.edges.length d, .int .i64 g.nn, .int .i64 g.ne], .slice T types.length e, .int .i64 id] w fun e w' => e = .returned (.int .i64 (degN types g.edges id : Int)) ∧ Ext w w' := by
  have hm := hg.len
  obtain ⟨q, w1, hq, hw1, g0, g1, g2, g3, hx1⟩ := box_graph w A B c d g 25
  have HW1 := Lib.hid hw1
  have HG := Lib.hid hq
  have HE := Lib.hid (hg.ext hx1)
  have HSN := Lib.hid (degN_snoc types g.edges id)
  have HLE := Lib.hid (fun k => Nat.le_trans (degN_le types (g.edges.take k) id) (List.length_take_le _ _))
  have HT := Lib.hid (fun x W B' m' d' (h : Ext w1 W) => r7_HasType types x ok' T B' e m' d' W (ht.ext (hx1.trans h)))
  clear hw1 hq hg ht
  go_enter Tryz.func51, Tryz.ntmps51
  go_upto_region 1 with (fail)
  rw [← HW1.out, ← HG.out]
  clear HW1 HG
  go_wp2_with fail
  go_loopw [7, 8] (fun v u W => ∃ k : Nat, u = .int .i64 k ∧ v = .int .i64 (degN types (g.edges.take k) id : Int) ∧ k ≤ g.edges.length ∧ Ext w1 W) (fun _ u _ => g.edges.length - (intOf u).toNat)
  case atStart => exact ⟨0, rfl, rfl, Nat.zero_le _, Ext.refl _⟩
  case round =>
    obtain ⟨k, rfl, hv, hk, hE⟩ := hrel
    have HV := Lib.hid hv
    clear hv
    have G1 := hE.cell g1
    have hdl := HLE.out k
    by_cases hlt : k < g.edges.length
    · obtain ⟨b, o, rfl, hc⟩ := HE.out.at_ hlt
      obtain ⟨-, d0, d1, d2, d3, B', d', d4, -, -⟩ := hc k hlt
      replace d0 := hE.cell d0
      replace d1 := hE.cell d1
      replace d2 := hE.cell d2
      replace d3 := hE.cell d3
      replace d4 := hE.cell d4
      have HS := Lib.hid (HSN.out k hlt)
      have HC := Lib.hid (fun W h => HT.out g.edges[k]! W B' g.edges[k]!.props.length d' h)
      clear hc HSN HLE
      generalize g.edges[k]! = x at *
      generalize typB types x.typ = y at *
      obtain ⟨D, hD⟩ : ∃ D, D = degN types (g.edges.take k) id := ⟨_, rfl⟩
      obtain ⟨D2, hD2⟩ : ∃ D2, D2 = degN types (g.edges.take (k + 1)) id := ⟨_, rfl⟩
      rw [← hD] at hdl
      have HDD := Lib.hid hD2
      rw [← hD, ← hD2] at HS
      rw [← hD] at HV
      clear hD hD2
      obtain rfl := HV.out
      clear HV
      by_cases he : x.frm = id
      · have he2 : (x.frm == id) = true := beq_iff_eq.2 he
        cases y
        · have HQ := Lib.hid (show (Value.int .i64 (D : Int)) = .int .i64 (D2 : Int) by rw [HS.out]; simp)
          clear HS he
          go_wp2_with (go_at_call 54; ((with_reducible refine (HC.out _ hE).mono ?_); rintro e w8 ⟨rfl, hx8⟩))
          go_roundw
          case rel => exact ⟨k + 1, by go_num, by rw [← HDD.out]; exact HQ.out, by omega, hE.trans hx8⟩
          case measure => simp [intOf]; omega
        · have HQ := Lib.hid (show (Value.int .i64 ((D : Int) + 1)) = .int .i64 (D2 : Int) by rw [HS.out]; simp [he])
          clear HS he
          go_wp2_with (go_at_call 54; ((with_reducible refine (HC.out _ hE).mono ?_); rintro e w8 ⟨rfl, hx8⟩))
          go_roundw
          case rel => exact ⟨k + 1, by go_num, by rw [← HDD.out]; exact HQ.out, by omega, hE.trans hx8⟩
          case measure => simp [intOf]; omega
      · have he2 : (x.frm == id) = false := beq_eq_false_iff_ne.2 he
        have HQ := Lib.hid (show (Value.int .i64 (D : Int)) = .int .i64 (D2 : Int) by rw [HS.out]; simp [he])
        clear HS he
        go_wp2_with fail
        go_roundw
        case rel => exact ⟨k + 1, by go_num, by rw [← HDD.out]; exact HQ.out, by omega, hE⟩
        case measure => simp [intOf]; omega
    · have HK := Lib.hid (show (degN types (g.edges.take k) id : Int) = (degN types g.edges id : Int) by rw [List.take_of_length_le (by omega)])
      obtain rfl := HV.out
      clear HV HSN HLE
      generalize (degN types (g.edges.take k) id) = D at *
      go_wp2_with fail
      go_ret
      exact ⟨ret_int HK.out, hx1.trans hE⟩
set_option maxRecDepth 100000 in
set_option maxHeartbeats 800000 in
theorem r51_share (l : List Sh) (id : Int) (ok : Nat → Prop) (A : Option Addr) (c : Nat) (w : World) (hl : Shares w ok A l) :
    Calls Tryz.prog 55 #[.slice A l.length c, .int .i64 id] w fun e w' => e = .returned (.agg #[.int .i64 (shareOf l id).1, .int .i64 (shareOf l id).2]) ∧ Ext w w' := by
  have hm := hl.len
  obtain ⟨q, w1, hq, hw1, z0, z1, y0, y1, hx⟩ : ∃ (q : Nat) (w1 : World), q = w.heap.size ∧ w1 = w.alloc (.cells #[.int .i64 0, .int .i64 0] 28) ∧ w1.cell? ⟨q, 0, none⟩ = some (.int .i64 0) ∧ w1.cell? ⟨q, 1, none⟩ = some (.int .i64 0) ∧ w1.frozen? ⟨q, 0, none⟩ = false ∧ w1.frozen? ⟨q, 1, none⟩ = false ∧ Ext w w1 :=
    ⟨_, _, rfl, rfl, by go_simp, by go_simp, by go_simp, by go_simp, (by with_reducible repeat (first | exact Ext.refl _ | assumption | refine Ext.drew ?_ | refine Ext.drewN ?_ _ | refine Ext.alloc ?_ _))⟩
  have HW := Lib.hid hw1
  have HG := Lib.hid hq
  have HLE := Lib.hid (show w.heap.size ≤ q by omega)
  have HL := Lib.hid (hl.ext hx)
  have HY := Lib.hid (shareOf_at (l := l) (id := id))
  have HN := Lib.hid (shareOf_none (l := l) (id := id))
  generalize shareOf l id = R at *
  clear hw1 hq hl
  go_enter Tryz.func55, Tryz.ntmps55
  go_upto_region 1 with (fail)
  rw [← HW.out, ← HG.out]
  clear HW HG
  go_wp2_with fail
  go_loop [5] (fun u => ∃ k : Nat, u = .int .i64 k ∧ k ≤ l.length ∧ Hid (∀ t, t < k → l[t]!.id ≠ id)) (fun u => l.length - (intOf u).toNat)
  case atStart => exact ⟨0, rfl, Nat.zero_le _, Lib.hid (fun t ht => absurd ht (by omega))⟩
  case round =>
    obtain ⟨k, rfl, hk, hgd⟩ := hrel
    by_cases hlt : k < l.length
    · obtain ⟨b, off, rfl, hc⟩ := HL.out.at_ hlt
      obtain ⟨-, d0, d1, d2⟩ := hc k hlt
      have HS := Lib.hid (fun (h : l[k]!.id ≠ id) t (ht : t < k + 1) => (if e : t = k then (by rw [e]; exact h) else hgd.out t (by omega) : l[t]!.id ≠ id))
      have HX := Lib.hid (HY.out k hlt hgd.out)
      clear hc HY HN hgd
      generalize l[k]! = x at *
      by_cases he : x.id = id
      · have HT := Lib.hid (HX.out he)
        have he2 : (x.id == id) = true := beq_iff_eq.2 he
        clear he HX HS
        go_wp2_with fail
        refine bodyPost_ret (v := .agg #[.int .i64 x.n, .int .i64 x.d]) (by simp [results, Tryz.results55, go_sem, *]) rfl ?_
        exact ⟨by rw [HT.out], (hx.setCell HLE.out _).setCell HLE.out _⟩
      · have HT := Lib.hid (HS.out he)
        have he2 : (x.id == id) = false := beq_eq_false_iff_ne.2 he
        clear he HX HS
        go_wp2_with fail
        go_round
        case rel => exact ⟨k + 1, by go_num, by omega, HT⟩
        case measure => simp [intOf]; omega
    · have HT := Lib.hid (HN.out (fun t ht => hgd.out t (by omega)))
      clear HY HN
      go_wp2_with fail
      refine bodyPost_ret (v := .agg #[.int .i64 0, .int .i64 1]) (by simp [results, Tryz.results55, go_sem, *]) rfl ?_
      exact ⟨by rw [HT.out], (hx.setCell HLE.out _).setCell HLE.out _⟩
theorem Sh.ext' {a b : Sh} (h1 : a.id = b.id) (h2 : a.n = b.n) (h3 : a.d = b.d) : a = b := by cases a; cases b; simp_all
theorem same_shs {a b : List Sh} (hl : a.length = b.length) (h : ∀ i < a.length, a[i]! = b[i]!) : a = b := List.ext_getElem hl (fun i h1 h2 => by have := h i h1; rwa [getElem!_pos a i h1, getElem!_pos b i h2] at this)
set_option maxRecDepth 100000 in
set_option maxHeartbeats 1600000 in
theorem r51_Same (a b : List Sh) (ok ok' : Nat → Prop) (A B : Option Addr) (c d : Nat) (w : World) (ha : Shares w ok A a) (hb : Shares w ok' B b) :
    Calls Tryz.prog 9 #[.slice A a.length c, .slice B b.length d] w fun e w' => e = .returned (.bool (decide (a = b))) ∧ Ext w w' := by
  have hm := ha.len
  have hmb := hb.len
  have HA := Lib.hid ha
  have HB := Lib.hid hb
  have HNO := Lib.hid (fun (h : a ≠ b) => decide_eq_false h)
  have HYE := Lib.hid (fun (h : a = b) => decide_eq_true h)
  generalize decide (a = b) = R at *
  clear ha hb
  by_cases hlen : a.length = b.length
  · have hne : ((a.length : Int) != (b.length : Int)) = false := by simp [hlen]
    have HLEN := Lib.hid hlen
    have hl1 : a.length ≤ b.length := by omega
    clear hlen
    go_enter Tryz.func9, Tryz.ntmps9
    go_wp2_with fail
    clear hne
    go_loopw [5] (fun u W => ∃ k : Nat, u = .int .i64 k ∧ k ≤ a.length ∧ Hid (∀ t, t < k → a[t]! = b[t]!) ∧ Ext w W) (fun u _ => a.length - (intOf u).toNat)
    case atStart => exact ⟨0, rfl, Nat.zero_le _, Lib.hid (fun t ht => absurd ht (by omega)), Ext.refl _⟩
    case round =>
      obtain ⟨k, rfl, hk, hgd, hE⟩ := hrel
      by_cases hlt : k < a.length
      · obtain ⟨ba, oa, rfl, hca⟩ := HA.out.at_ hlt
        obtain ⟨bb, ob, rfl, hcb⟩ := HB.out.at_ (i := k) (by omega)
        obtain ⟨-, a0, a1, a2⟩ := hca k hlt
        obtain ⟨-, b0, b1, b2⟩ := hcb k (by omega)
        replace a0 := hE.cell a0
        replace a1 := hE.cell a1
        replace a2 := hE.cell a2
        replace b0 := hE.cell b0
        replace b1 := hE.cell b1
        replace b2 := hE.cell b2
        have q1 : (k : Int) < (b.length : Int) := by omega
        have HS := Lib.hid (fun (h : a[k]! = b[k]!) t (ht : t < k + 1) => (if e : t = k then (by rw [e]; exact h) else hgd.out t (by omega) : a[t]! = b[t]!))
        have HX := Lib.hid (fun (h : a[k]! ≠ b[k]!) => HNO.out (fun e => h (by rw [e])))
        clear hca hcb hgd HNO HYE
        generalize a[k]! = x at *
        generalize b[k]! = y at *
        have HD : ∀ u v : Sh, (u.id = v.id ∧ u.n = v.n ∧ u.d = v.d) → u = v := fun u v h => Sh.ext' h.1 h.2.1 h.2.2
        have HDD := Lib.hid HD
        clear HD
        by_cases e1 : x.id = y.id
        · by_cases e2 : x.n = y.n
          · by_cases e3 : x.d = y.d
            · have HT := Lib.hid (HS.out (HDD.out x y ⟨e1, e2, e3⟩))
              rw [← e1] at b0
              rw [← e2] at b1
              rw [← e3] at b2
              clear HS HX HDD e1 e2 e3
              go_upto_region 6 with (fail)
              have MKR1 := Lib.hid (fun V (e : Ext wr V) => (⟨e.cell a0, e.cell a1, e.cell a2, e.cell b0, e.cell b1, e.cell b2, e⟩ : V.cell? ⟨ba, oa + k * 3, none⟩ = some (.int .i64 x.id) ∧ V.cell? ⟨ba, oa + k * 3 + 1, none⟩ = some (.int .i64 x.n) ∧ V.cell? ⟨ba, oa + k * 3 + 2, none⟩ = some (.int .i64 x.d) ∧ V.cell? ⟨bb, ob + k * 3, none⟩ = some (.int .i64 x.id) ∧ V.cell? ⟨bb, ob + k * 3 + 1, none⟩ = some (.int .i64 x.n) ∧ V.cell? ⟨bb, ob + k * 3 + 2, none⟩ = some (.int .i64 x.d) ∧ Ext wr V))
              refine wp_region_held_drew (S := (fun V => V.cell? ⟨ba, oa + k * 3, none⟩ = some (.int .i64 x.id) ∧ V.cell? ⟨ba, oa + k * 3 + 1, none⟩ = some (.int .i64 x.n) ∧ V.cell? ⟨ba, oa + k * 3 + 2, none⟩ = some (.int .i64 x.d) ∧ V.cell? ⟨bb, ob + k * 3, none⟩ = some (.int .i64 x.id) ∧ V.cell? ⟨bb, ob + k * 3 + 1, none⟩ = some (.int .i64 x.n) ∧ V.cell? ⟨bb, ob + k * 3 + 2, none⟩ = some (.int .i64 x.d) ∧ Ext wr V)) (by kernel_rfl) ?hs1 (fun hHeld => ?go1)
              case hs1 => (exact MKR1.out _ (by with_reducible repeat (first | exact Ext.refl _ | assumption | refine Ext.drew ?_ | refine Ext.drewN ?_ _ | refine Ext.alloc ?_ _)))
              refine wpAnyH_take (i := 0) (oi := ⟨(some 17), (.move (.tmp 0)), 29, "ref.go:192", #[], none⟩) (v := ?v2) rfl (by kernel_rfl) (by kernel_rfl) (by kernel_rfl) (fun _ _ _ h => h) (Or.inl ⟨rfl, ?hy2⟩) hHeld ?rest2
              case hy2 => (intro w _; go_simp <;> rfl)
              (try simp only [PU])
              refine wpAnyH_take (i := 1) (oi := ⟨(some 18), (.move (.tmp 5)), 3, "ref.go:192", #[], none⟩) (v := ?v3) rfl (by kernel_rfl) (by kernel_rfl) (by kernel_rfl) (fun _ _ _ h => h) (Or.inl ⟨rfl, ?hy3⟩) hHeld ?rest3
              case hy3 => (intro w _; go_simp <;> rfl)
              (try simp only [PU])
              refine wpAnyH_take (i := 2) (oi := ⟨(some 19), (.indexAddr 29 (.tmp 17) (.tmp 18)), 0, "ref.go:192", #[⟨0, .data⟩, ⟨1, .data⟩], none⟩) (v := ?v4) rfl (by kernel_rfl) (by kernel_rfl) (by kernel_rfl) (fun _ _ _ h => h) (Or.inl ⟨rfl, ?hy4⟩) hHeld ?rest4
              case hy4 => (intro w _; go_simp <;> first | with_reducible rfl | rw [if_neg (by omega)] | rw [if_pos (by omega)])
              (try simp only [PU])
              refine wpAnyH_take (i := 3) (oi := ⟨(some 20), (.load 46 (.tmp 19)), 46, "ref.go:192", #[⟨2, .data⟩], none⟩) (v := ?v5) rfl (by kernel_rfl) (by kernel_rfl) (by kernel_rfl) (fun _ _ _ h => h) (Or.inl ⟨rfl, ?hy5⟩) hHeld ?rest5
              case hy5 => (intro w hSw; (try dsimp only at hSw); go_simp <;> first | with_reducible rfl | rw [if_neg (by omega)] | rw [if_pos (by omega)])
              (try simp only [PU])
              refine wpAnyH_take (i := 4) (oi := ⟨(some 21), (.move (.tmp 1)), 29, "ref.go:192", #[], none⟩) (v := ?v6) rfl (by kernel_rfl) (by kernel_rfl) (by kernel_rfl) (fun _ _ _ h => h) (Or.inl ⟨rfl, ?hy6⟩) hHeld ?rest6
              case hy6 => (intro w _; go_simp <;> rfl)
              (try simp only [PU])
              refine wpAnyH_take (i := 5) (oi := ⟨(some 22), (.move (.tmp 5)), 3, "ref.go:192", #[], none⟩) (v := ?v7) rfl (by kernel_rfl) (by kernel_rfl) (by kernel_rfl) (fun _ _ _ h => h) (Or.inl ⟨rfl, ?hy7⟩) hHeld ?rest7
              case hy7 => (intro w _; go_simp <;> rfl)
              (try simp only [PU])
              refine wpAnyH_take (i := 6) (oi := ⟨(some 23), (.indexAddr 29 (.tmp 21) (.tmp 22)), 0, "ref.go:192", #[⟨4, .data⟩, ⟨5, .data⟩], none⟩) (v := ?v8) rfl (by kernel_rfl) (by kernel_rfl) (by kernel_rfl) (fun _ _ _ h => h) (Or.inl ⟨rfl, ?hy8⟩) hHeld ?rest8
              case hy8 => (intro w _; go_simp <;> first | with_reducible rfl | rw [if_neg (by omega)] | rw [if_pos (by omega)])
              (try simp only [PU])
              refine wpAnyH_take (i := 7) (oi := ⟨(some 24), (.load 46 (.tmp 23)), 46, "ref.go:192", #[⟨6, .data⟩], none⟩) (v := ?v9) rfl (by kernel_rfl) (by kernel_rfl) (by kernel_rfl) (fun _ _ _ h => h) (Or.inl ⟨rfl, ?hy9⟩) hHeld ?rest9
              case hy9 => (intro w hSw; (try dsimp only at hSw); go_simp <;> first | with_reducible rfl | rw [if_neg (by omega)] | rw [if_pos (by omega)])
              (try simp only [PU])
              refine wpAnyH_take (i := 8) (oi := ⟨(some 25), (.binOp .neq 46 (.tmp 20) (.tmp 24) 46), 4, "ref.go:192", #[⟨3, .data⟩, ⟨7, .data⟩], none⟩) (v := ?v10) rfl (by kernel_rfl) (by kernel_rfl) (by kernel_rfl) (fun _ _ _ h => h) (Or.inl ⟨rfl, ?hy10⟩) hHeld ?rest10
              case hy10 => (intro w _; go_simp <;> first | with_reducible rfl | rw [if_neg (by omega)] | rw [if_pos (by omega)])
              (try simp only [PU])
              refine wpAnyH_done (by kernel_rfl) ?_ _
              clear hHeld
              clear MKR1
              go_wp2_with fail
              go_roundw
              case rel => exact ⟨k + 1, by go_num, by omega, HT, hE.trans (by with_reducible repeat (first | exact Ext.refl _ | assumption | refine Ext.drew ?_ | refine Ext.drewN ?_ _ | refine Ext.alloc ?_ _))⟩
              case measure => simp [intOf]; omega
            · have HT := Lib.hid (HX.out (fun h => e3 (by rw [h])))
              have fe3 : (x.d == y.d) = false := beq_eq_false_iff_ne.2 e3
              clear HS HX HDD
              go_upto_region 6 with (fail)
              have MKR2 := Lib.hid (fun V (e : Ext wr V) => (⟨e.cell a0, e.cell a1, e.cell a2, e.cell b0, e.cell b1, e.cell b2, e⟩ : V.cell? ⟨ba, oa + k * 3, none⟩ = some (.int .i64 x.id) ∧ V.cell? ⟨ba, oa + k * 3 + 1, none⟩ = some (.int .i64 x.n) ∧ V.cell? ⟨ba, oa + k * 3 + 2, none⟩ = some (.int .i64 x.d) ∧ V.cell? ⟨bb, ob + k * 3, none⟩ = some (.int .i64 y.id) ∧ V.cell? ⟨bb, ob + k * 3 + 1, none⟩ = some (.int .i64 y.n) ∧ V.cell? ⟨bb, ob + k * 3 + 2, none⟩ = some (.int .i64 y.d) ∧ Ext wr V))
              refine wp_region_held_drew (S := (fun V => V.cell? ⟨ba, oa + k * 3, none⟩ = some (.int .i64 x.id) ∧ V.cell? ⟨ba, oa + k * 3 + 1, none⟩ = some (.int .i64 x.n) ∧ V.cell? ⟨ba, oa + k * 3 + 2, none⟩ = some (.int .i64 x.d) ∧ V.cell? ⟨bb, ob + k * 3, none⟩ = some (.int .i64 y.id) ∧ V.cell? ⟨bb, ob + k * 3 + 1, none⟩ = some (.int .i64 y.n) ∧ V.cell? ⟨bb, ob + k * 3 + 2, none⟩ = some (.int .i64 y.d) ∧ Ext wr V)) (by kernel_rfl) ?hs11 (fun hHeld => ?go11)
              case hs11 => (exact MKR2.out _ (by with_reducible repeat (first | exact Ext.refl _ | assumption | refine Ext.drew ?_ | refine Ext.drewN ?_ _ | refine Ext.alloc ?_ _)))
              refine wpAnyH_take (i := 0) (oi := ⟨(some 17), (.move (.tmp 0)), 29, "ref.go:192", #[], none⟩) (v := ?v12) rfl (by kernel_rfl) (by kernel_rfl) (by kernel_rfl) (fun _ _ _ h => h) (Or.inl ⟨rfl, ?hy12⟩) hHeld ?rest12
              case hy12 => (intro w _; go_simp <;> rfl)
              (try simp only [PU])
              refine wpAnyH_take (i := 1) (oi := ⟨(some 18), (.move (.tmp 5)), 3, "ref.go:192", #[], none⟩) (v := ?v13) rfl (by kernel_rfl) (by kernel_rfl) (by kernel_rfl) (fun _ _ _ h => h) (Or.inl ⟨rfl, ?hy13⟩) hHeld ?rest13
              case hy13 => (intro w _; go_simp <;> rfl)
              (try simp only [PU])
              refine wpAnyH_take (i := 2) (oi := ⟨(some 19), (.indexAddr 29 (.tmp 17) (.tmp 18)), 0, "ref.go:192", #[⟨0, .data⟩, ⟨1, .data⟩], none⟩) (v := ?v14) rfl (by kernel_rfl) (by kernel_rfl) (by kernel_rfl) (fun _ _ _ h => h) (Or.inl ⟨rfl, ?hy14⟩) hHeld ?rest14
              case hy14 => (intro w _; go_simp <;> first | with_reducible rfl | rw [if_neg (by omega)] | rw [if_pos (by omega)])
              (try simp only [PU])
              refine wpAnyH_take (i := 3) (oi := ⟨(some 20), (.load 46 (.tmp 19)), 46, "ref.go:192", #[⟨2, .data⟩], none⟩) (v := ?v15) rfl (by kernel_rfl) (by kernel_rfl) (by kernel_rfl) (fun _ _ _ h => h) (Or.inl ⟨rfl, ?hy15⟩) hHeld ?rest15
              case hy15 => (intro w hSw; (try dsimp only at hSw); go_simp <;> first | with_reducible rfl | rw [if_neg (by omega)] | rw [if_pos (by omega)])
              (try simp only [PU])
              refine wpAnyH_take (i := 4) (oi := ⟨(some 21), (.move (.tmp 1)), 29, "ref.go:192", #[], none⟩) (v := ?v16) rfl (by kernel_rfl) (by kernel_rfl) (by kernel_rfl) (fun _ _ _ h => h) (Or.inl ⟨rfl, ?hy16⟩) hHeld ?rest16
              case hy16 => (intro w _; go_simp <;> rfl)
              (try simp only [PU])
              refine wpAnyH_take (i := 5) (oi := ⟨(some 22), (.move (.tmp 5)), 3, "ref.go:192", #[], none⟩) (v := ?v17) rfl (by kernel_rfl) (by kernel_rfl) (by kernel_rfl) (fun _ _ _ h => h) (Or.inl ⟨rfl, ?hy17⟩) hHeld ?rest17
              case hy17 => (intro w _; go_simp <;> rfl)
              (try simp only [PU])
              refine wpAnyH_take (i := 6) (oi := ⟨(some 23), (.indexAddr 29 (.tmp 21) (.tmp 22)), 0, "ref.go:192", #[⟨4, .data⟩, ⟨5, .data⟩], none⟩) (v := ?v18) rfl (by kernel_rfl) (by kernel_rfl) (by kernel_rfl) (fun _ _ _ h => h) (Or.inl ⟨rfl, ?hy18⟩) hHeld ?rest18
              case hy18 => (intro w _; go_simp <;> first | with_reducible rfl | rw [if_neg (by omega)] | rw [if_pos (by omega)])
              (try simp only [PU])
              refine wpAnyH_take (i := 7) (oi := ⟨(some 24), (.load 46 (.tmp 23)), 46, "ref.go:192", #[⟨6, .data⟩], none⟩) (v := ?v19) rfl (by kernel_rfl) (by kernel_rfl) (by kernel_rfl) (fun _ _ _ h => h) (Or.inl ⟨rfl, ?hy19⟩) hHeld ?rest19
              case hy19 => (intro w hSw; (try dsimp only at hSw); go_simp <;> first | with_reducible rfl | rw [if_neg (by omega)] | rw [if_pos (by omega)])
              (try simp only [PU])
              refine wpAnyH_take (i := 8) (oi := ⟨(some 25), (.binOp .neq 46 (.tmp 20) (.tmp 24) 46), 4, "ref.go:192", #[⟨3, .data⟩, ⟨7, .data⟩], none⟩) (v := ?v20) rfl (by kernel_rfl) (by kernel_rfl) (by kernel_rfl) (fun _ _ _ h => h) (Or.inl ⟨rfl, ?hy20⟩) hHeld ?rest20
              case hy20 => (intro w _; go_simp <;> first | with_reducible rfl | rw [if_neg (by omega)] | rw [if_pos (by omega)])
              (try simp only [PU])
              refine wpAnyH_done (by kernel_rfl) ?_ _
              clear hHeld
              clear MKR2
              go_wp2_with fail
              go_ret
              exact ⟨ret_bool HT.out.symm, hE.trans (by with_reducible repeat (first | exact Ext.refl _ | assumption | refine Ext.drew ?_ | refine Ext.drewN ?_ _ | refine Ext.alloc ?_ _))⟩
          · have HT := Lib.hid (HX.out (fun h => e2 (by rw [h])))
            have fe2 : (x.n == y.n) = false := beq_eq_false_iff_ne.2 e2
            clear HS HX HDD
            go_upto_region 6 with (fail)
            have MKR3 := Lib.hid (fun V (e : Ext wr V) => (⟨e.cell a0, e.cell a1, e.cell a2, e.cell b0, e.cell b1, e.cell b2, e⟩ : V.cell? ⟨ba, oa + k * 3, none⟩ = some (.int .i64 x.id) ∧ V.cell? ⟨ba, oa + k * 3 + 1, none⟩ = some (.int .i64 x.n) ∧ V.cell? ⟨ba, oa + k * 3 + 2, none⟩ = some (.int .i64 x.d) ∧ V.cell? ⟨bb, ob + k * 3, none⟩ = some (.int .i64 y.id) ∧ V.cell? ⟨bb, ob + k * 3 + 1, none⟩ = some (.int .i64 y.n) ∧ V.cell? ⟨bb, ob + k * 3 + 2, none⟩ = some (.int .i64 y.d) ∧ Ext wr V))
            refine wp_region_held_drew (S := (fun V => V.cell? ⟨ba, oa + k * 3, none⟩ = some (.int .i64 x.id) ∧ V.cell? ⟨ba, oa + k * 3 + 1, none⟩ = some (.int .i64 x.n) ∧ V.cell? ⟨ba, oa + k * 3 + 2, none⟩ = some (.int .i64 x.d) ∧ V.cell? ⟨bb, ob + k * 3, none⟩ = some (.int .i64 y.id) ∧ V.cell? ⟨bb, ob + k * 3 + 1, none⟩ = some (.int .i64 y.n) ∧ V.cell? ⟨bb, ob + k * 3 + 2, none⟩ = some (.int .i64 y.d) ∧ Ext wr V)) (by kernel_rfl) ?hs21 (fun hHeld => ?go21)
            case hs21 => (exact MKR3.out _ (by with_reducible repeat (first | exact Ext.refl _ | assumption | refine Ext.drew ?_ | refine Ext.drewN ?_ _ | refine Ext.alloc ?_ _)))
            refine wpAnyH_take (i := 0) (oi := ⟨(some 17), (.move (.tmp 0)), 29, "ref.go:192", #[], none⟩) (v := ?v22) rfl (by kernel_rfl) (by kernel_rfl) (by kernel_rfl) (fun _ _ _ h => h) (Or.inl ⟨rfl, ?hy22⟩) hHeld ?rest22
            case hy22 => (intro w _; go_simp <;> rfl)
            (try simp only [PU])
            refine wpAnyH_take (i := 1) (oi := ⟨(some 18), (.move (.tmp 5)), 3, "ref.go:192", #[], none⟩) (v := ?v23) rfl (by kernel_rfl) (by kernel_rfl) (by kernel_rfl) (fun _ _ _ h => h) (Or.inl ⟨rfl, ?hy23⟩) hHeld ?rest23
            case hy23 => (intro w _; go_simp <;> rfl)
            (try simp only [PU])
            refine wpAnyH_take (i := 2) (oi := ⟨(some 19), (.indexAddr 29 (.tmp 17) (.tmp 18)), 0, "ref.go:192", #[⟨0, .data⟩, ⟨1, .data⟩], none⟩) (v := ?v24) rfl (by kernel_rfl) (by kernel_rfl) (by kernel_rfl) (fun _ _ _ h => h) (Or.inl ⟨rfl, ?hy24⟩) hHeld ?rest24
            case hy24 => (intro w _; go_simp <;> first | with_reducible rfl | rw [if_neg (by omega)] | rw [if_pos (by omega)])
            (try simp only [PU])
            refine wpAnyH_take (i := 3) (oi := ⟨(some 20), (.load 46 (.tmp 19)), 46, "ref.go:192", #[⟨2, .data⟩], none⟩) (v := ?v25) rfl (by kernel_rfl) (by kernel_rfl) (by kernel_rfl) (fun _ _ _ h => h) (Or.inl ⟨rfl, ?hy25⟩) hHeld ?rest25
            case hy25 => (intro w hSw; (try dsimp only at hSw); go_simp <;> first | with_reducible rfl | rw [if_neg (by omega)] | rw [if_pos (by omega)])
            (try simp only [PU])
            refine wpAnyH_take (i := 4) (oi := ⟨(some 21), (.move (.tmp 1)), 29, "ref.go:192", #[], none⟩) (v := ?v26) rfl (by kernel_rfl) (by kernel_rfl) (by kernel_rfl) (fun _ _ _ h => h) (Or.inl ⟨rfl, ?hy26⟩) hHeld ?rest26
            case hy26 => (intro w _; go_simp <;> rfl)
            (try simp only [PU])
            refine wpAnyH_take (i := 5) (oi := ⟨(some 22), (.move (.tmp 5)), 3, "ref.go:192", #[], none⟩) (v := ?v27) rfl (by kernel_rfl) (by kernel_rfl) (by kernel_rfl) (fun _ _ _ h => h) (Or.inl ⟨rfl, ?hy27⟩) hHeld ?rest27
            case hy27 => (intro w _; go_simp <;> rfl)
            (try simp only [PU])
            refine wpAnyH_take (i := 6) (oi := ⟨(some 23), (.indexAddr 29 (.tmp 21) (.tmp 22)), 0, "ref.go:192", #[⟨4, .data⟩, ⟨5, .data⟩], none⟩) (v := ?v28) rfl (by kernel_rfl) (by kernel_rfl) (by kernel_rfl) (fun _ _ _ h => h) (Or.inl ⟨rfl, ?hy28⟩) hHeld ?rest28
            case hy28 => (intro w _; go_simp <;> first | with_reducible rfl | rw [if_neg (by omega)] | rw [if_pos (by omega)])
            (try simp only [PU])
            refine wpAnyH_take (i := 7) (oi := ⟨(some 24), (.load 46 (.tmp 23)), 46, "ref.go:192", #[⟨6, .data⟩], none⟩) (v := ?v29) rfl (by kernel_rfl) (by kernel_rfl) (by kernel_rfl) (fun _ _ _ h => h) (Or.inl ⟨rfl, ?hy29⟩) hHeld ?rest29
            case hy29 => (intro w hSw; (try dsimp only at hSw); go_simp <;> first | with_reducible rfl | rw [if_neg (by omega)] | rw [if_pos (by omega)])
            (try simp only [PU])
            refine wpAnyH_take (i := 8) (oi := ⟨(some 25), (.binOp .neq 46 (.tmp 20) (.tmp 24) 46), 4, "ref.go:192", #[⟨3, .data⟩, ⟨7, .data⟩], none⟩) (v := ?v30) rfl (by kernel_rfl) (by kernel_rfl) (by kernel_rfl) (fun _ _ _ h => h) (Or.inl ⟨rfl, ?hy30⟩) hHeld ?rest30
            case hy30 => (intro w _; go_simp <;> first | with_reducible rfl | rw [if_neg (by omega)] | rw [if_pos (by omega)])
            (try simp only [PU])
            refine wpAnyH_done (by kernel_rfl) ?_ _
            clear hHeld
            clear MKR3
            go_wp2_with fail
            go_ret
            exact ⟨ret_bool HT.out.symm, hE.trans (by with_reducible repeat (first | exact Ext.refl _ | assumption | refine Ext.drew ?_ | refine Ext.drewN ?_ _ | refine Ext.alloc ?_ _))⟩
        · have HT := Lib.hid (HX.out (fun h => e1 (by rw [h])))
          have fe1 : (x.id == y.id) = false := beq_eq_false_iff_ne.2 e1
          clear HS HX HDD
          go_upto_region 6 with (fail)
          have MKR4 := Lib.hid (fun V (e : Ext wr V) => (⟨e.cell a0, e.cell a1, e.cell a2, e.cell b0, e.cell b1, e.cell b2, e⟩ : V.cell? ⟨ba, oa + k * 3, none⟩ = some (.int .i64 x.id) ∧ V.cell? ⟨ba, oa + k * 3 + 1, none⟩ = some (.int .i64 x.n) ∧ V.cell? ⟨ba, oa + k * 3 + 2, none⟩ = some (.int .i64 x.d) ∧ V.cell? ⟨bb, ob + k * 3, none⟩ = some (.int .i64 y.id) ∧ V.cell? ⟨bb, ob + k * 3 + 1, none⟩ = some (.int .i64 y.n) ∧ V.cell? ⟨bb, ob + k * 3 + 2, none⟩ = some (.int .i64 y.d) ∧ Ext wr V))
          refine wp_region_held_drew (S := (fun V => V.cell? ⟨ba, oa + k * 3, none⟩ = some (.int .i64 x.id) ∧ V.cell? ⟨ba, oa + k * 3 + 1, none⟩ = some (.int .i64 x.n) ∧ V.cell? ⟨ba, oa + k * 3 + 2, none⟩ = some (.int .i64 x.d) ∧ V.cell? ⟨bb, ob + k * 3, none⟩ = some (.int .i64 y.id) ∧ V.cell? ⟨bb, ob + k * 3 + 1, none⟩ = some (.int .i64 y.n) ∧ V.cell? ⟨bb, ob + k * 3 + 2, none⟩ = some (.int .i64 y.d) ∧ Ext wr V)) (by kernel_rfl) ?hs31 (fun hHeld => ?go31)
          case hs31 => (exact MKR4.out _ (by with_reducible repeat (first | exact Ext.refl _ | assumption | refine Ext.drew ?_ | refine Ext.drewN ?_ _ | refine Ext.alloc ?_ _)))
          refine wpAnyH_take (i := 0) (oi := ⟨(some 17), (.move (.tmp 0)), 29, "ref.go:192", #[], none⟩) (v := ?v32) rfl (by kernel_rfl) (by kernel_rfl) (by kernel_rfl) (fun _ _ _ h => h) (Or.inl ⟨rfl, ?hy32⟩) hHeld ?rest32
          case hy32 => (intro w _; go_simp <;> rfl)
          (try simp only [PU])
          refine wpAnyH_take (i := 1) (oi := ⟨(some 18), (.move (.tmp 5)), 3, "ref.go:192", #[], none⟩) (v := ?v33) rfl (by kernel_rfl) (by kernel_rfl) (by kernel_rfl) (fun _ _ _ h => h) (Or.inl ⟨rfl, ?hy33⟩) hHeld ?rest33
          case hy33 => (intro w _; go_simp <;> rfl)
          (try simp only [PU])
          refine wpAnyH_take (i := 2) (oi := ⟨(some 19), (.indexAddr 29 (.tmp 17) (.tmp 18)), 0, "ref.go:192", #[⟨0, .data⟩, ⟨1, .data⟩], none⟩) (v := ?v34) rfl (by kernel_rfl) (by kernel_rfl) (by kernel_rfl) (fun _ _ _ h => h) (Or.inl ⟨rfl, ?hy34⟩) hHeld ?rest34
          case hy34 => (intro w _; go_simp <;> first | with_reducible rfl | rw [if_neg (by omega)] | rw [if_pos (by omega)])
          (try simp only [PU])
          refine wpAnyH_take (i := 3) (oi := ⟨(some 20), (.load 46 (.tmp 19)), 46, "ref.go:192", #[⟨2, .data⟩], none⟩) (v := ?v35) rfl (by kernel_rfl) (by kernel_rfl) (by kernel_rfl) (fun _ _ _ h => h) (Or.inl ⟨rfl, ?hy35⟩) hHeld ?rest35
          case hy35 => (intro w hSw; (try dsimp only at hSw); go_simp <;> first | with_reducible rfl | rw [if_neg (by omega)] | rw [if_pos (by omega)])
          (try simp only [PU])
          refine wpAnyH_take (i := 4) (oi := ⟨(some 21), (.move (.tmp 1)), 29, "ref.go:192", #[], none⟩) (v := ?v36) rfl (by kernel_rfl) (by kernel_rfl) (by kernel_rfl) (fun _ _ _ h => h) (Or.inl ⟨rfl, ?hy36⟩) hHeld ?rest36
          case hy36 => (intro w _; go_simp <;> rfl)
          (try simp only [PU])
          refine wpAnyH_take (i := 5) (oi := ⟨(some 22), (.move (.tmp 5)), 3, "ref.go:192", #[], none⟩) (v := ?v37) rfl (by kernel_rfl) (by kernel_rfl) (by kernel_rfl) (fun _ _ _ h => h) (Or.inl ⟨rfl, ?hy37⟩) hHeld ?rest37
          case hy37 => (intro w _; go_simp <;> rfl)
          (try simp only [PU])
          refine wpAnyH_take (i := 6) (oi := ⟨(some 23), (.indexAddr 29 (.tmp 21) (.tmp 22)), 0, "ref.go:192", #[⟨4, .data⟩, ⟨5, .data⟩], none⟩) (v := ?v38) rfl (by kernel_rfl) (by kernel_rfl) (by kernel_rfl) (fun _ _ _ h => h) (Or.inl ⟨rfl, ?hy38⟩) hHeld ?rest38
          case hy38 => (intro w _; go_simp <;> first | with_reducible rfl | rw [if_neg (by omega)] | rw [if_pos (by omega)])
          (try simp only [PU])
          refine wpAnyH_take (i := 7) (oi := ⟨(some 24), (.load 46 (.tmp 23)), 46, "ref.go:192", #[⟨6, .data⟩], none⟩) (v := ?v39) rfl (by kernel_rfl) (by kernel_rfl) (by kernel_rfl) (fun _ _ _ h => h) (Or.inl ⟨rfl, ?hy39⟩) hHeld ?rest39
          case hy39 => (intro w hSw; (try dsimp only at hSw); go_simp <;> first | with_reducible rfl | rw [if_neg (by omega)] | rw [if_pos (by omega)])
          (try simp only [PU])
          refine wpAnyH_take (i := 8) (oi := ⟨(some 25), (.binOp .neq 46 (.tmp 20) (.tmp 24) 46), 4, "ref.go:192", #[⟨3, .data⟩, ⟨7, .data⟩], none⟩) (v := ?v40) rfl (by kernel_rfl) (by kernel_rfl) (by kernel_rfl) (fun _ _ _ h => h) (Or.inl ⟨rfl, ?hy40⟩) hHeld ?rest40
          case hy40 => (intro w _; go_simp <;> first | with_reducible rfl | rw [if_neg (by omega)] | rw [if_pos (by omega)])
          (try simp only [PU])
          refine wpAnyH_done (by kernel_rfl) ?_ _
          clear hHeld
          clear MKR4
          go_wp2_with fail
          go_ret
          exact ⟨ret_bool HT.out.symm, hE.trans (by with_reducible repeat (first | exact Ext.refl _ | assumption | refine Ext.drew ?_ | refine Ext.drewN ?_ _ | refine Ext.alloc ?_ _))⟩
      · have HT := Lib.hid (HYE.out (same_shs HLEN.out (fun t ht => hgd.out t (by omega))))
        clear HNO HYE hgd
        go_wp2_with fail
        go_ret
        exact ⟨ret_bool HT.out.symm, hE⟩
  · have HT := Lib.hid (HNO.out (fun h => hlen (by rw [h])))
    have hne : ((a.length : Int) != (b.length : Int)) = true := by rw [bne_iff_ne]; omega
    clear HYE HNO hlen
    go_enter Tryz.func9, Tryz.ntmps9
    go_wp2_with fail
    go_ret
    exact ⟨ret_bool HT.out.symm, Ext.refl _⟩
end Go.Proofs.YtlkpmbkmmfoakaaGreatDoor
