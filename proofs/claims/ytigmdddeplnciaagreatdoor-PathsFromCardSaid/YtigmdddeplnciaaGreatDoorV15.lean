/- PARTS OF THE WALKS, joined: Gg, Drawn, SortK. -/
import Derived.Test.YtigmdddeplnciaaGreatDoorV14
import Derived.Calls
import Derived.Test.YtigmdddeplnciaaGreatDoorV06
import Derived.Shelf.SlSortCmp.WholeK
/- THE WALK over graph.Check. -/
namespace Go.Proofs.YtigmdddeplnciaaGreatDoor
open Go.RowKit
theorem gr_parts0 (P : List PropG) (ok : Nat → Prop) (B : Option Addr) (d : Nat) (w : World) (hp : Props w ok B P) :
    Calls Tryz.prog 56 #[.slice none 0 0, .slice B P.length d] w fun e w' => e = .returned (.int .i64 (partsE [] P)) ∧ Ext w w' :=
  gr_parts [] P ok ok none B 0 d w (SliceR.nil _ _ _) hp
set_option maxRecDepth 100000 in
set_option maxHeartbeats 6400000 in
theorem gr_Check (g : GraphG) (ok : Nat → Prop) (A B : Option Addr) (c d : Nat) (w : World) (hg : GraphAt w ok A B g) :
    Calls Tryz.prog 24 #[.agg #[.slice A g.nodes.length c, .slice B g.edges.length d, .int .i64 g.nn, .int .i64 g.ne]] w fun e w' => e = .returned (.int .i64 (chkG g)) ∧ Ext w w' := by
  have hm := hg.nodes.len
  have hm2 := hg.edges.len
  obtain ⟨q, w1, hq, hw1, g0, g1, g2, g3, hx1⟩ := box_graph w A B c d g 25
  have HW1 := Lib.hid hw1
  have HG := Lib.hid hq
  have HGA := Lib.hid (hg.ext hx1)
  clear hw1 hq hg
  by_cases h1 : 2000 < g.nodes.length ∨ 4000 < g.edges.length
  · have HR := Lib.hid (show chkG g = 4 by have : headE g = 4 := by unfold headE; rw [if_pos h1]
                                           rw [chkG_head (by omega), this])
    rcases h1 with h1 | h1
    all_goals
      go_enter Tryz.func24, Tryz.ntmps24
      go_upto_region 1 with (fail)
      rw [← HW1.out, ← HG.out]
      clear HW1 HG
      go_wp2_with fail
      all_goals
        go_ret
        exact ⟨ret_int HR.out.symm, hx1.trans (by solve_by_elim [X0, X1, X2, X3])⟩
  · have a1 : g.nodes.length ≤ 2000 := by omega
    have a2 : g.edges.length ≤ 4000 := by omega
    by_cases h2 : g.nn < 1 ∨ 1000001 < g.nn ∨ g.ne < 1 ∨ 1000001 < g.ne
    · have HR := Lib.hid (show chkG g = 1 by have : headE g = 1 := by unfold headE; rw [if_neg h1, if_pos h2]
                                             rw [chkG_head (by omega), this])
      clear h1
      rcases h2 with h2 | h2 | h2 | h2
      all_goals
        go_enter Tryz.func24, Tryz.ntmps24
        go_upto_region 1 with (fail)
        rw [← HW1.out, ← HG.out]
        clear HW1 HG
        go_wp2_with fail
        all_goals
          go_ret
          exact ⟨ret_int HR.out.symm, hx1.trans (by solve_by_elim [X0, X1, X2, X3])⟩
    · have HH := Lib.hid (show headE g = 0 by unfold headE; rw [if_neg h1, if_neg h2])
      have b1 : 1 ≤ g.nn := by omega
      have b2 : g.nn ≤ 1000001 := by omega
      have b3 : 1 ≤ g.ne := by omega
      have b4 : g.ne ≤ 1000001 := by omega
      clear h1 h2
      go_enter Tryz.func24, Tryz.ntmps24
      go_upto_region 1 with (fail)
      rw [← HW1.out, ← HG.out]
      clear HW1 HG
      go_wp2_with fail
      go_loopw [40] (fun u W => ∃ k : Nat, u = .int .i64 k ∧ k ≤ g.nodes.length ∧ Hid (∀ t, t < k → nodeE g t = 0) ∧ Ext w1 W) (fun u _ => g.nodes.length - (intOf u).toNat)
      case atStart => exact ⟨0, rfl, Nat.zero_le _, Lib.hid (fun t ht => absurd ht (by omega)), (by solve_by_elim [X0, X1, X2, X3])⟩
      case round =>
        obtain ⟨k, rfl, hk, hgd, hEr⟩ := hrel
        have g0' := hEr.cell g0
        have g1' := hEr.cell g1
        have g2' := hEr.cell g2
        have g3' := hEr.cell g3
        by_cases hlt : k < g.nodes.length
        · obtain ⟨b, o, rfl, hc⟩ := HGA.out.nodes.at_ hlt
          obtain ⟨-, d0, A', c', B', d', d1, -, hS, d2, -, hP⟩ := hc k hlt
          replace d0 := hEr.cell d0
          replace d1 := hEr.cell d1
          replace d2 := hEr.cell d2
          obtain ⟨q2, w2, hq2, hw2, n0, n1, n2, hx2⟩ := box_node wr g.nodes[k]!.id A' B' g.nodes[k]!.labels.length c' g.nodes[k]!.props.length d' 45
          have HP := Lib.hid (fun W (e : Ext w2 W) => gr_parts g.nodes[k]!.labels g.nodes[k]!.props ok ok A' B' c' d' W (hS.ext ((hEr.trans hx2).trans e)) (hP.ext ((hEr.trans hx2).trans e)))
          have hpv : 0 < k → w2.cell? ⟨b, o + (k - 1) * 3, none⟩ = some (.int .i64 g.nodes[k - 1]!.id) := fun h => by
            obtain ⟨-, e0, -⟩ := hc (k - 1) (by omega)
            exact hx2.cell (hEr.cell e0)
          have G0 := hx2.cell g0'
          have G1 := hx2.cell g1'
          have G2 := hx2.cell g2'
          have G3 := hx2.cell g3'
          have HS := Lib.hid (fun (h : nodeE g k = 0) t (ht : t < k + 1) => (if e : t = k then (by rw [e]; exact h) else hgd.out t (by omega) : nodeE g t = 0))
          have HX := Lib.hid (fun (h : nodeE g k ≠ 0) => chkG_nodes HH.out (firstE_at hgd.out h hlt) h)
          obtain ⟨E, hE⟩ : ∃ E, E = nodeE g k := ⟨_, rfl⟩
          rw [← hE] at HS HX
          have HW2 := Lib.hid hw2
          have HQ2 := Lib.hid hq2
          clear hc hgd hw2 hq2 hP hS
          rcases Nat.eq_zero_or_pos k with hz | hz
          · subst hz
            clear hpv
            rw [Nat.zero_mul, Nat.add_zero] at d0 d1 d2
            have HE1 := Lib.hid (fun h => nodeE_1 (g := g) (i := 0) (fun h => absurd h (Nat.lt_irrefl _)) h)
            have HEP := Lib.hid (fun h1 h2 => nodeE_p (g := g) (i := 0) (fun h => absurd h (Nat.lt_irrefl _)) h1 h2)
            rw [← hE] at HE1 HEP
            clear hE
            generalize g.nodes[0]! = x at *
            generalize partsE x.labels x.props = z at *
            go_upto_region 8 with (fail)
            rw [← HW2.out, ← HQ2.out]
            clear HW2 HQ2 g0' g1' g2' g3'
            have MKR1 := Lib.hid (fun V (e : Ext w2 V) => (e : Ext w2 V))
            refine wp_region_held_drew (S := (fun V => Ext w2 V)) (by kernel_rfl) ?hs1 (fun hHeld => ?go1)
            case hs1 => (exact MKR1.out _ (by solve_by_elim [X0, X1, X2, X3]))
            refine TK 0 (v := ?v2) hHeld ?hy2 ?_
            case hy2 => (intro w _; go_simp <;> rfl)
            (try simp only [PU])
            refine TK 1 (v := ?v3) hHeld ?hy3 ?_
            case hy3 => (intro w _; go_simp <;> first | with_reducible rfl | rw [if_neg (by omega)] | rw [if_pos (by omega)])
            (try simp only [PU])
            refine TK 2 (v := ?v4) hHeld ?hy4 ?_
            case hy4 => (intro w _; go_simp <;> rfl)
            (try simp only [PU])
            refine TN 3 hHeld ?_
            (try simp only [PU])
            refine TN 4 hHeld ?_
            (try simp only [PU])
            refine TN 5 hHeld ?_
            (try simp only [PU])
            refine TN 6 hHeld ?_
            (try simp only [PU])
            refine TN 7 hHeld ?_
            (try simp only [PU])
            refine TN 8 hHeld ?_
            (try simp only [PU])
            refine TN 9 hHeld ?_
            (try simp only [PU])
            refine TN 10 hHeld ?_
            (try simp only [PU])
            refine TN 11 hHeld ?_
            (try simp only [PU])
            refine TN 12 hHeld ?_
            (try simp only [PU])
            refine TK 13 (v := ?v15) hHeld ?hy15 ?_
            case hy15 => (intro w _; go_simp <;> rfl)
            (try simp only [PU])
            refine wpAnyH_done (by kernel_rfl) ?_ _
            clear hHeld
            clear MKR1
            have gE : Ext w2 w2.drew := (Ext.refl _).drew
            have j0 := gE.cell n0
            have j1 := gE.cell n1
            have j2 := gE.cell n2
            have k0 := gE.cell G0
            have k1 := gE.cell G1
            have k2 := gE.cell G2
            have k3 := gE.cell G3
            by_cases h1 : x.id < 1
            · have HT := Lib.hid (HX.out (by rw [HE1.out (.inl h1)]; decide))
              rw [HE1.out (.inl h1)] at HT
              go_wp2_with fail
              go_ret
              exact ⟨ret_int HT.out.symm, (hx1.trans (hEr.trans (hx2.trans (by solve_by_elim [X0, X1, X2, X3]))))⟩
            · by_cases h2 : g.nn ≤ x.id
              · have HT := Lib.hid (HX.out (by rw [HE1.out (.inr h2)]; decide))
                rw [HE1.out (.inr h2)] at HT
                go_wp2_with fail
                go_ret
                exact ⟨ret_int HT.out.symm, (hx1.trans (hEr.trans (hx2.trans (by solve_by_elim [X0, X1, X2, X3]))))⟩
              · have HZ := Lib.hid (HEP.out (by omega) (by omega))
                clear HE1 HEP
                rw [HZ.out] at HS HX
                by_cases he : z = 0
                · have HT := Lib.hid (HS.out he)
                  have he2 : (z != 0) = false := by rw [he]; rfl
                  clear HS HX HZ he
                  go_wp2_with (go_at_call 56; ((with_reducible refine (HP.out _ (by solve_by_elim [X0, X1, X2, X3])).mono ?_); rintro e w8 ⟨rfl, hx8⟩; replace hx8 : Ext w2 w8 := Ext.trans (by solve_by_elim [X0, X1, X2, X3]) hx8))
                  go_roundw
                  case rel => exact ⟨0 + 1, rfl, by omega, HT, hEr.trans (hx2.trans hx8)⟩
                  case measure => simp [intOf]; omega
                · have HT := Lib.hid (HX.out he)
                  have he2 : (z != 0) = true := bne_iff_ne.2 he
                  clear HS HX he
                  go_wp2_with (go_at_call 56; ((with_reducible refine (HP.out _ (by solve_by_elim [X0, X1, X2, X3])).mono ?_); rintro e w8 ⟨rfl, hx8⟩; replace hx8 : Ext w2 w8 := Ext.trans (by solve_by_elim [X0, X1, X2, X3]) hx8))
                  go_ret
                  exact ⟨ret_int HT.out.symm, hx1.trans (hEr.trans (hx2.trans hx8))⟩
          · replace hpv := hpv hz
            by_cases hlo : g.nodes[k - 1]!.id < g.nodes[k]!.id
            · have HE1 := Lib.hid (fun h => nodeE_1 (g := g) (i := k) (fun _ => hlo) h)
              have HEP := Lib.hid (fun h1 h2 => nodeE_p (g := g) (i := k) (fun _ => hlo) h1 h2)
              rw [← hE] at HE1 HEP
              clear hE
              generalize g.nodes[k]! = x at *
              generalize g.nodes[k - 1]! = y at *
              generalize partsE x.labels x.props = z at *
              have ho : ¬ x.id ≤ y.id := by omega
              clear hlo
              go_upto_region 8 with (fail)
              rw [← HW2.out, ← HQ2.out]
              clear HW2 HQ2 g0' g1' g2' g3'
              have p0 : 0 < k := by omega
              have p1 : (1 : Int) ≤ (k : Int) := by omega
              have p2 : ((k : Int) - 1).toNat = k - 1 := by omega
              have p5 : IntKind.i64.wrap ((k : Int) - 1) = (k : Int) - 1 := IntWalk.i64_in _ (by omega)
              have p6 : ((k : Int) - 1) < (g.nodes.length : Int) := by omega
              have MKR2 := Lib.hid (fun V (e : Ext w2 V) => (⟨e.cell G0, e.cell n0, e.cell hpv, e⟩ : V.cell? ⟨q, 0, none⟩ = some (.slice (some ⟨b, o, none⟩) g.nodes.length c) ∧ V.cell? ⟨q2, 0, none⟩ = some (.int .i64 x.id) ∧ V.cell? ⟨b, o + (k - 1) * 3, none⟩ = some (.int .i64 y.id) ∧ Ext w2 V))
              refine wp_region_held_drew (S := (fun V => V.cell? ⟨q, 0, none⟩ = some (.slice (some ⟨b, o, none⟩) g.nodes.length c) ∧ V.cell? ⟨q2, 0, none⟩ = some (.int .i64 x.id) ∧ V.cell? ⟨b, o + (k - 1) * 3, none⟩ = some (.int .i64 y.id) ∧ Ext w2 V)) (by kernel_rfl) ?hs16 (fun hHeld => ?go16)
              case hs16 => (exact MKR2.out _ (by solve_by_elim [X0, X1, X2, X3]))
              refine TK 0 (v := ?v17) hHeld ?hy17 ?_
              case hy17 => (intro w _; go_simp <;> rfl)
              (try simp only [PU])
              refine TK 1 (v := ?v18) hHeld ?hy18 ?_
              case hy18 => (intro w _; go_simp <;> first | with_reducible rfl | rw [if_neg (by omega)] | rw [if_pos (by omega)])
              (try simp only [PU])
              refine TK 2 (v := ?v19) hHeld ?hy19 ?_
              case hy19 => (intro w _; go_simp <;> rfl)
              (try simp only [PU])
              refine TK 3 (v := ?v20) hHeld ?hy20 ?_
              case hy20 => (intro w _; go_simp <;> rfl)
              (try simp only [PU])
              refine TK 4 (v := ?v21) hHeld ?hy21 ?_
              case hy21 => (intro w hSw; (try dsimp only at hSw); go_simp <;> first | with_reducible rfl | rw [if_neg (by omega)] | rw [if_pos (by omega)])
              (try simp only [PU])
              refine TK 5 (v := ?v22) hHeld ?hy22 ?_
              case hy22 => (intro w _; go_simp <;> rfl)
              (try simp only [PU])
              refine TK 6 (v := ?v23) hHeld ?hy23 ?_
              case hy23 => (intro w hSw; (try dsimp only at hSw); go_simp <;> first | with_reducible rfl | rw [if_neg (by omega)] | rw [if_pos (by omega)])
              (try simp only [PU])
              refine TK 7 (v := ?v24) hHeld ?hy24 ?_
              case hy24 => (intro w _; go_simp <;> rfl)
              (try simp only [PU])
              refine TK 8 (v := ?v25) hHeld ?hy25 ?_
              case hy25 => (intro w _; go_simp <;> first | with_reducible rfl | rw [if_neg (by omega)] | rw [if_pos (by omega)])
              (try simp only [PU])
              refine TK 9 (v := ?v26) hHeld ?hy26 ?_
              case hy26 => (intro w _; go_simp <;> first | with_reducible rfl | rw [if_neg (by omega)] | rw [if_pos (by omega)])
              (try simp only [PU])
              refine TK 10 (v := ?v27) hHeld ?hy27 ?_
              case hy27 => (intro w _; go_simp <;> rfl)
              (try simp only [PU])
              refine TK 11 (v := ?v28) hHeld ?hy28 ?_
              case hy28 => (intro w hSw; (try dsimp only at hSw); go_simp <;> first | with_reducible rfl | rw [if_neg (by omega)] | rw [if_pos (by omega)])
              (try simp only [PU])
              refine TK 12 (v := ?v29) hHeld ?hy29 ?_
              case hy29 => (intro w _; go_simp <;> first | with_reducible rfl | rw [if_neg (by omega)] | rw [if_pos (by omega)])
              (try simp only [PU])
              refine TK 13 (v := ?v30) hHeld ?hy30 ?_
              case hy30 => (intro w _; go_simp <;> rfl)
              (try simp only [PU])
              refine wpAnyH_done (by kernel_rfl) ?_ _
              clear hHeld
              clear MKR2
              clear p0 p1 p2 p5 p6 ho hpv
              have gE : Ext w2 w2.drew := (Ext.refl _).drew
              have j0 := gE.cell n0
              have j1 := gE.cell n1
              have j2 := gE.cell n2
              have k0 := gE.cell G0
              have k1 := gE.cell G1
              have k2 := gE.cell G2
              have k3 := gE.cell G3
              by_cases h1 : x.id < 1
              · have HT := Lib.hid (HX.out (by rw [HE1.out (.inl h1)]; decide))
                rw [HE1.out (.inl h1)] at HT
                go_wp2_with fail
                go_ret
                exact ⟨ret_int HT.out.symm, (hx1.trans (hEr.trans (hx2.trans (by solve_by_elim [X0, X1, X2, X3]))))⟩
              · by_cases h2 : g.nn ≤ x.id
                · have HT := Lib.hid (HX.out (by rw [HE1.out (.inr h2)]; decide))
                  rw [HE1.out (.inr h2)] at HT
                  go_wp2_with fail
                  go_ret
                  exact ⟨ret_int HT.out.symm, (hx1.trans (hEr.trans (hx2.trans (by solve_by_elim [X0, X1, X2, X3]))))⟩
                · have HZ := Lib.hid (HEP.out (by omega) (by omega))
                  clear HE1 HEP
                  rw [HZ.out] at HS HX
                  by_cases he : z = 0
                  · have HT := Lib.hid (HS.out he)
                    have he2 : (z != 0) = false := by rw [he]; rfl
                    clear HS HX HZ he
                    go_wp2_with (go_at_call 56; ((with_reducible refine (HP.out _ (by solve_by_elim [X0, X1, X2, X3])).mono ?_); rintro e w8 ⟨rfl, hx8⟩; replace hx8 : Ext w2 w8 := Ext.trans (by solve_by_elim [X0, X1, X2, X3]) hx8))
                    go_roundw
                    case rel => exact ⟨k + 1, by go_num, by omega, HT, hEr.trans (hx2.trans hx8)⟩
                    case measure => simp [intOf]; omega
                  · have HT := Lib.hid (HX.out he)
                    have he2 : (z != 0) = true := bne_iff_ne.2 he
                    clear HS HX he
                    go_wp2_with (go_at_call 56; ((with_reducible refine (HP.out _ (by solve_by_elim [X0, X1, X2, X3])).mono ?_); rintro e w8 ⟨rfl, hx8⟩; replace hx8 : Ext w2 w8 := Ext.trans (by solve_by_elim [X0, X1, X2, X3]) hx8))
                    go_ret
                    exact ⟨ret_int HT.out.symm, hx1.trans (hEr.trans (hx2.trans hx8))⟩
            · have HT := Lib.hid (HX.out (by rw [hE, nodeE_26 hz (by omega)]; decide))
              rw [hE, nodeE_26 hz (by omega)] at HT
              clear hE HS HX HP
              generalize g.nodes[k]! = x at *
              generalize g.nodes[k - 1]! = y at *
              have ho : x.id ≤ y.id := by omega
              clear hlo
              go_upto_region 8 with (fail)
              rw [← HW2.out, ← HQ2.out]
              clear HW2 HQ2 g0' g1' g2' g3'
              have p0 : 0 < k := by omega
              have p1 : (1 : Int) ≤ (k : Int) := by omega
              have p2 : ((k : Int) - 1).toNat = k - 1 := by omega
              have p5 : IntKind.i64.wrap ((k : Int) - 1) = (k : Int) - 1 := IntWalk.i64_in _ (by omega)
              have p6 : ((k : Int) - 1) < (g.nodes.length : Int) := by omega
              have MKR3 := Lib.hid (fun V (e : Ext w2 V) => (⟨e.cell G0, e.cell n0, e.cell hpv, e⟩ : V.cell? ⟨q, 0, none⟩ = some (.slice (some ⟨b, o, none⟩) g.nodes.length c) ∧ V.cell? ⟨q2, 0, none⟩ = some (.int .i64 x.id) ∧ V.cell? ⟨b, o + (k - 1) * 3, none⟩ = some (.int .i64 y.id) ∧ Ext w2 V))
              refine wp_region_held_drew (S := (fun V => V.cell? ⟨q, 0, none⟩ = some (.slice (some ⟨b, o, none⟩) g.nodes.length c) ∧ V.cell? ⟨q2, 0, none⟩ = some (.int .i64 x.id) ∧ V.cell? ⟨b, o + (k - 1) * 3, none⟩ = some (.int .i64 y.id) ∧ Ext w2 V)) (by kernel_rfl) ?hs31 (fun hHeld => ?go31)
              case hs31 => (exact MKR3.out _ (by solve_by_elim [X0, X1, X2, X3]))
              refine TK 0 (v := ?v32) hHeld ?hy32 ?_
              case hy32 => (intro w _; go_simp <;> rfl)
              (try simp only [PU])
              refine TK 1 (v := ?v33) hHeld ?hy33 ?_
              case hy33 => (intro w _; go_simp <;> first | with_reducible rfl | rw [if_neg (by omega)] | rw [if_pos (by omega)])
              (try simp only [PU])
              refine TK 2 (v := ?v34) hHeld ?hy34 ?_
              case hy34 => (intro w _; go_simp <;> rfl)
              (try simp only [PU])
              refine TK 3 (v := ?v35) hHeld ?hy35 ?_
              case hy35 => (intro w _; go_simp <;> rfl)
              (try simp only [PU])
              refine TK 4 (v := ?v36) hHeld ?hy36 ?_
              case hy36 => (intro w hSw; (try dsimp only at hSw); go_simp <;> first | with_reducible rfl | rw [if_neg (by omega)] | rw [if_pos (by omega)])
              (try simp only [PU])
              refine TK 5 (v := ?v37) hHeld ?hy37 ?_
              case hy37 => (intro w _; go_simp <;> rfl)
              (try simp only [PU])
              refine TK 6 (v := ?v38) hHeld ?hy38 ?_
              case hy38 => (intro w hSw; (try dsimp only at hSw); go_simp <;> first | with_reducible rfl | rw [if_neg (by omega)] | rw [if_pos (by omega)])
              (try simp only [PU])
              refine TK 7 (v := ?v39) hHeld ?hy39 ?_
              case hy39 => (intro w _; go_simp <;> rfl)
              (try simp only [PU])
              refine TK 8 (v := ?v40) hHeld ?hy40 ?_
              case hy40 => (intro w _; go_simp <;> first | with_reducible rfl | rw [if_neg (by omega)] | rw [if_pos (by omega)])
              (try simp only [PU])
              refine TK 9 (v := ?v41) hHeld ?hy41 ?_
              case hy41 => (intro w _; go_simp <;> first | with_reducible rfl | rw [if_neg (by omega)] | rw [if_pos (by omega)])
              (try simp only [PU])
              refine TK 10 (v := ?v42) hHeld ?hy42 ?_
              case hy42 => (intro w _; go_simp <;> rfl)
              (try simp only [PU])
              refine TK 11 (v := ?v43) hHeld ?hy43 ?_
              case hy43 => (intro w hSw; (try dsimp only at hSw); go_simp <;> first | with_reducible rfl | rw [if_neg (by omega)] | rw [if_pos (by omega)])
              (try simp only [PU])
              refine TK 12 (v := ?v44) hHeld ?hy44 ?_
              case hy44 => (intro w _; go_simp <;> first | with_reducible rfl | rw [if_neg (by omega)] | rw [if_pos (by omega)])
              (try simp only [PU])
              refine TK 13 (v := ?v45) hHeld ?hy45 ?_
              case hy45 => (intro w _; go_simp <;> rfl)
              (try simp only [PU])
              refine wpAnyH_done (by kernel_rfl) ?_ _
              clear hHeld
              clear MKR3
              go_wp2_with fail
              go_ret
              exact ⟨ret_int HT.out.symm, (hx1.trans (hEr.trans (hx2.trans (by solve_by_elim [X0, X1, X2, X3]))))⟩
        · have HNZ := Lib.hid (show nodesE g = 0 from firstE_zero (fun t ht => hgd.out t (by omega)))
          have HST := Lib.hid (fun (i j : Nat) (hij : i < j) (hj : j < g.nodes.length) => nodes_lt HNZ.out hij hj)
          have hE0 := hEr
          clear hgd hEr
          go_wp2_with fail
          clear g0' g1' g2' g3'
          go_loopw [81] (fun u W => ∃ k : Nat, u = .int .i64 k ∧ k ≤ g.edges.length ∧ Hid (∀ t, t < k → edgeE g t = 0) ∧ Ext w1 W) (fun u _ => g.edges.length - (intOf u).toNat)
          case atStart => exact ⟨0, rfl, Nat.zero_le _, Lib.hid (fun t ht => absurd ht (by omega)), hE0⟩
          case round =>
            clear hE0
            obtain ⟨k, rfl, hk, hgd, hEr⟩ := hrel
            have g0' := hEr.cell g0
            have g1' := hEr.cell g1
            have g2' := hEr.cell g2
            have g3' := hEr.cell g3
            by_cases hlt : k < g.edges.length
            · obtain ⟨b, o, rfl, hc⟩ := HGA.out.edges.at_ hlt
              obtain ⟨-, d0, d1, d2, d3, B', d', d4, -, hP⟩ := hc k hlt
              replace d0 := hEr.cell d0
              replace d1 := hEr.cell d1
              replace d2 := hEr.cell d2
              replace d3 := hEr.cell d3
              replace d4 := hEr.cell d4
              obtain ⟨q2, w2, hq2, hw2, n0, n1, n2, n3, n4, hx2⟩ := box_edge wr g.edges[k]! B' d' 47
              have HP := Lib.hid (fun W (e : Ext w2 W) => gr_parts0 g.edges[k]!.props ok B' d' W (hP.ext ((hEr.trans hx2).trans e)))
              have HN1 := Lib.hid (fun W (e : Ext w2 W) => gr_has g.nodes ok A c g.edges[k]!.frm W (HGA.out.nodes.ext ((hEr.trans hx2).trans e)) HST.out)
              have HN2 := Lib.hid (fun W (e : Ext w2 W) => gr_has g.nodes ok A c g.edges[k]!.to_ W (HGA.out.nodes.ext ((hEr.trans hx2).trans e)) HST.out)
              have HNM := Lib.hid (fun W => g_Name g.edges[k]!.typ W)
              have hpv : 0 < k → w2.cell? ⟨b, o + (k - 1) * 5, none⟩ = some (.int .i64 g.edges[k - 1]!.id) := fun h => by
                obtain ⟨-, e0, -⟩ := hc (k - 1) (by omega)
                exact hx2.cell (hEr.cell e0)
              have G0 := hx2.cell g0'
              have G1 := hx2.cell g1'
              have G2 := hx2.cell g2'
              have G3 := hx2.cell g3'
              have HS := Lib.hid (fun (h : edgeE g k = 0) t (ht : t < k + 1) => (if e : t = k then (by rw [e]; exact h) else hgd.out t (by omega) : edgeE g t = 0))
              have HX := Lib.hid (fun (h : edgeE g k ≠ 0) => chkG_edges HH.out HNZ.out (firstE_at hgd.out h hlt))
              obtain ⟨E, hE⟩ : ∃ E, E = edgeE g k := ⟨_, rfl⟩
              rw [← hE] at HS HX
              have HW2 := Lib.hid hw2
              have HQ2 := Lib.hid hq2
              clear hc hgd hw2 hq2 hP
              rcases Nat.eq_zero_or_pos k with hz | hz
              · subst hz
                clear hpv
                rw [Nat.zero_mul, Nat.add_zero] at d0 d1 d2 d3 d4
                have HE1 := Lib.hid (fun h => edgeE_1 (g := g) (i := 0) (fun h => absurd h (Nat.lt_irrefl _)) h)
                have HEP := Lib.hid (fun h1 h2 => edgeE_p (g := g) (i := 0) (fun h => absurd h (Nat.lt_irrefl _)) h1 h2)
                rw [← hE] at HE1 HEP
                clear hE
                generalize g.edges[0]! = x at *
                generalize partsE [] x.props = z at *
                generalize hasN g.nodes x.frm = b1 at *
                generalize hasN g.nodes x.to_ = b2 at *
                generalize nameB x.typ = b3 at *
                go_upto_region 19 with (fail)
                rw [← HW2.out, ← HQ2.out]
                clear HW2 HQ2 g0' g1' g2' g3'
                have MKR4 := Lib.hid (fun V (e : Ext w2 V) => (e : Ext w2 V))
                refine wp_region_held_drew (S := (fun V => Ext w2 V)) (by kernel_rfl) ?hs46 (fun hHeld => ?go46)
                case hs46 => (exact MKR4.out _ (by solve_by_elim [X0, X1, X2, X3]))
                refine TK 0 (v := ?v47) hHeld ?hy47 ?_
                case hy47 => (intro w _; go_simp <;> rfl)
                (try simp only [PU])
                refine TK 1 (v := ?v48) hHeld ?hy48 ?_
                case hy48 => (intro w _; go_simp <;> first | with_reducible rfl | rw [if_neg (by omega)] | rw [if_pos (by omega)])
                (try simp only [PU])
                refine TK 2 (v := ?v49) hHeld ?hy49 ?_
                case hy49 => (intro w _; go_simp <;> rfl)
                (try simp only [PU])
                refine TN 3 hHeld ?_
                (try simp only [PU])
                refine TN 4 hHeld ?_
                (try simp only [PU])
                refine TN 5 hHeld ?_
                (try simp only [PU])
                refine TN 6 hHeld ?_
                (try simp only [PU])
                refine TN 7 hHeld ?_
                (try simp only [PU])
                refine TN 8 hHeld ?_
                (try simp only [PU])
                refine TN 9 hHeld ?_
                (try simp only [PU])
                refine TN 10 hHeld ?_
                (try simp only [PU])
                refine TN 11 hHeld ?_
                (try simp only [PU])
                refine TN 12 hHeld ?_
                (try simp only [PU])
                refine TK 13 (v := ?v60) hHeld ?hy60 ?_
                case hy60 => (intro w _; go_simp <;> rfl)
                (try simp only [PU])
                refine wpAnyH_done (by kernel_rfl) ?_ _
                clear hHeld
                clear MKR4
                have gE : Ext w2 w2.drew := (Ext.refl _).drew
                have j0 := gE.cell n0
                have j1 := gE.cell n1
                have j2 := gE.cell n2
                have j3 := gE.cell n3
                have j4 := gE.cell n4
                have k0 := gE.cell G0
                have k1 := gE.cell G1
                have k2 := gE.cell G2
                have k3 := gE.cell G3
                by_cases h1 : x.id < 1
                · have HT := Lib.hid (HX.out (by rw [HE1.out (.inl h1)]; decide))
                  rw [HE1.out (.inl h1)] at HT
                  go_wp2_with fail
                  go_ret
                  exact ⟨ret_int HT.out.symm, (hx1.trans (hEr.trans (hx2.trans (by solve_by_elim [X0, X1, X2, X3]))))⟩
                · by_cases h2 : g.ne ≤ x.id
                  · have HT := Lib.hid (HX.out (by rw [HE1.out (.inr h2)]; decide))
                    rw [HE1.out (.inr h2)] at HT
                    go_wp2_with fail
                    go_ret
                    exact ⟨ret_int HT.out.symm, (hx1.trans (hEr.trans (hx2.trans (by solve_by_elim [X0, X1, X2, X3]))))⟩
                  · have HZ := Lib.hid (HEP.out (by omega) (by omega))
                    clear HE1 HEP
                    cases b1
                    · have HT := Lib.hid (HX.out (by rw [HZ.out]; simp))
                      rw [HZ.out] at HT
                      go_wp2_with (go_at_call 57; ((with_reducible refine (HN1.out _ (by solve_by_elim [X0, X1, X2, X3])).mono ?_); rintro e v1 ⟨rfl, gx1⟩; replace gx1 : Ext w2 v1 := Ext.trans (by solve_by_elim [X0, X1, X2, X3]) gx1; have m0 := gx1.cell G0; have r0 := gx1.cell n0; have r1 := gx1.cell n1; have r2 := gx1.cell n2; have r3 := gx1.cell n3; have r4 := gx1.cell n4))
                      go_ret
                      exact ⟨ret_int HT.out.symm, hx1.trans (hEr.trans (hx2.trans gx1))⟩
                    · cases b2
                      · have HT := Lib.hid (HX.out (by rw [HZ.out]; simp))
                        rw [HZ.out] at HT
                        go_wp2_with (first | (go_at_call 57; ((with_reducible refine (HN1.out _ (by solve_by_elim [X0, X1, X2, X3])).mono ?_); rintro e v1 ⟨rfl, gx1⟩; replace gx1 : Ext w2 v1 := Ext.trans (by solve_by_elim [X0, X1, X2, X3]) gx1; have m0 := gx1.cell G0; have r0 := gx1.cell n0; have r1 := gx1.cell n1; have r2 := gx1.cell n2; have r3 := gx1.cell n3; have r4 := gx1.cell n4)) | (go_at_call 57; ((with_reducible refine (HN2.out _ gx1).mono ?_); rintro e v2 ⟨rfl, gx2⟩; replace gx2 : Ext w2 v2 := gx1.trans gx2; have l3 := gx2.cell n3; have l4 := gx2.cell n4)))
                        go_ret
                        exact ⟨ret_int HT.out.symm, hx1.trans (hEr.trans (hx2.trans gx2))⟩
                      · cases b3
                        · have HT := Lib.hid (HX.out (by rw [HZ.out]; simp))
                          rw [HZ.out] at HT
                          go_wp2_with (first | (go_at_call 57; ((with_reducible refine (HN1.out _ (by solve_by_elim [X0, X1, X2, X3])).mono ?_); rintro e v1 ⟨rfl, gx1⟩; replace gx1 : Ext w2 v1 := Ext.trans (by solve_by_elim [X0, X1, X2, X3]) gx1; have m0 := gx1.cell G0; have r0 := gx1.cell n0; have r1 := gx1.cell n1; have r2 := gx1.cell n2; have r3 := gx1.cell n3; have r4 := gx1.cell n4)) | (go_at_call 57; ((with_reducible refine (HN2.out _ gx1).mono ?_); rintro e v2 ⟨rfl, gx2⟩; replace gx2 : Ext w2 v2 := gx1.trans gx2; have l3 := gx2.cell n3; have l4 := gx2.cell n4)) | (go_at_call 58; ((with_reducible refine (HNM.out _).mono ?_); rintro e v3 ⟨rfl, rfl⟩)))
                          go_ret
                          exact ⟨ret_int HT.out.symm, hx1.trans (hEr.trans (hx2.trans gx2))⟩
                        · rw [show E = z from HZ.out] at HS HX
                          by_cases he : z = 0
                          · have HT := Lib.hid (HS.out he)
                            have he2 : (z != 0) = false := by rw [he]; rfl
                            clear HS HX HZ he
                            go_wp2_with (first | (go_at_call 57; ((with_reducible refine (HN1.out _ (by solve_by_elim [X0, X1, X2, X3])).mono ?_); rintro e v1 ⟨rfl, gx1⟩; replace gx1 : Ext w2 v1 := Ext.trans (by solve_by_elim [X0, X1, X2, X3]) gx1; have m0 := gx1.cell G0; have r0 := gx1.cell n0; have r1 := gx1.cell n1; have r2 := gx1.cell n2; have r3 := gx1.cell n3; have r4 := gx1.cell n4)) | (go_at_call 57; ((with_reducible refine (HN2.out _ gx1).mono ?_); rintro e v2 ⟨rfl, gx2⟩; replace gx2 : Ext w2 v2 := gx1.trans gx2; have l3 := gx2.cell n3; have l4 := gx2.cell n4)) | (go_at_call 58; ((with_reducible refine (HNM.out _).mono ?_); rintro e v3 ⟨rfl, rfl⟩)) | (go_at_call 56; ((with_reducible refine (HP.out _ (by solve_by_elim [X0, X1, X2, X3])).mono ?_); rintro e w8 ⟨rfl, hx8⟩; replace hx8 : Ext w2 w8 := Ext.trans (by solve_by_elim [X0, X1, X2, X3]) hx8)))
                            go_roundw
                            case rel => exact ⟨0 + 1, rfl, by omega, HT, hEr.trans (hx2.trans hx8)⟩
                            case measure => simp [intOf]; omega
                          · have HT := Lib.hid (HX.out he)
                            have he2 : (z != 0) = true := bne_iff_ne.2 he
                            clear HS HX he
                            go_wp2_with (first | (go_at_call 57; ((with_reducible refine (HN1.out _ (by solve_by_elim [X0, X1, X2, X3])).mono ?_); rintro e v1 ⟨rfl, gx1⟩; replace gx1 : Ext w2 v1 := Ext.trans (by solve_by_elim [X0, X1, X2, X3]) gx1; have m0 := gx1.cell G0; have r0 := gx1.cell n0; have r1 := gx1.cell n1; have r2 := gx1.cell n2; have r3 := gx1.cell n3; have r4 := gx1.cell n4)) | (go_at_call 57; ((with_reducible refine (HN2.out _ gx1).mono ?_); rintro e v2 ⟨rfl, gx2⟩; replace gx2 : Ext w2 v2 := gx1.trans gx2; have l3 := gx2.cell n3; have l4 := gx2.cell n4)) | (go_at_call 58; ((with_reducible refine (HNM.out _).mono ?_); rintro e v3 ⟨rfl, rfl⟩)) | (go_at_call 56; ((with_reducible refine (HP.out _ (by solve_by_elim [X0, X1, X2, X3])).mono ?_); rintro e w8 ⟨rfl, hx8⟩; replace hx8 : Ext w2 w8 := Ext.trans (by solve_by_elim [X0, X1, X2, X3]) hx8)))
                            go_ret
                            exact ⟨ret_int HT.out.symm, hx1.trans (hEr.trans (hx2.trans hx8))⟩
              · replace hpv := hpv hz
                by_cases hlo : g.edges[k - 1]!.id < g.edges[k]!.id
                · have HE1 := Lib.hid (fun h => edgeE_1 (g := g) (i := k) (fun _ => hlo) h)
                  have HEP := Lib.hid (fun h1 h2 => edgeE_p (g := g) (i := k) (fun _ => hlo) h1 h2)
                  rw [← hE] at HE1 HEP
                  clear hE
                  generalize g.edges[k]! = x at *
                  generalize g.edges[k - 1]! = y at *
                  generalize partsE [] x.props = z at *
                  generalize hasN g.nodes x.frm = b1 at *
                  generalize hasN g.nodes x.to_ = b2 at *
                  generalize nameB x.typ = b3 at *
                  have ho : ¬ x.id ≤ y.id := by omega
                  clear hlo
                  go_upto_region 19 with (fail)
                  rw [← HW2.out, ← HQ2.out]
                  clear HW2 HQ2 g0' g1' g2' g3'
                  have p0 : 0 < k := by omega
                  have p1 : (1 : Int) ≤ (k : Int) := by omega
                  have p2 : ((k : Int) - 1).toNat = k - 1 := by omega
                  have p5 : IntKind.i64.wrap ((k : Int) - 1) = (k : Int) - 1 := IntWalk.i64_in _ (by omega)
                  have p6 : ((k : Int) - 1) < (g.edges.length : Int) := by omega
                  have MKR5 := Lib.hid (fun V (e : Ext w2 V) => (⟨e.cell G1, e.cell n0, e.cell hpv, e⟩ : V.cell? ⟨q, 1, none⟩ = some (.slice (some ⟨b, o, none⟩) g.edges.length d) ∧ V.cell? ⟨q2, 0, none⟩ = some (.int .i64 x.id) ∧ V.cell? ⟨b, o + (k - 1) * 5, none⟩ = some (.int .i64 y.id) ∧ Ext w2 V))
                  refine wp_region_held_drew (S := (fun V => V.cell? ⟨q, 1, none⟩ = some (.slice (some ⟨b, o, none⟩) g.edges.length d) ∧ V.cell? ⟨q2, 0, none⟩ = some (.int .i64 x.id) ∧ V.cell? ⟨b, o + (k - 1) * 5, none⟩ = some (.int .i64 y.id) ∧ Ext w2 V)) (by kernel_rfl) ?hs61 (fun hHeld => ?go61)
                  case hs61 => (exact MKR5.out _ (by solve_by_elim [X0, X1, X2, X3]))
                  refine TK 0 (v := ?v62) hHeld ?hy62 ?_
                  case hy62 => (intro w _; go_simp <;> rfl)
                  (try simp only [PU])
                  refine TK 1 (v := ?v63) hHeld ?hy63 ?_
                  case hy63 => (intro w _; go_simp <;> first | with_reducible rfl | rw [if_neg (by omega)] | rw [if_pos (by omega)])
                  (try simp only [PU])
                  refine TK 2 (v := ?v64) hHeld ?hy64 ?_
                  case hy64 => (intro w _; go_simp <;> rfl)
                  (try simp only [PU])
                  refine TK 3 (v := ?v65) hHeld ?hy65 ?_
                  case hy65 => (intro w _; go_simp <;> rfl)
                  (try simp only [PU])
                  refine TK 4 (v := ?v66) hHeld ?hy66 ?_
                  case hy66 => (intro w hSw; (try dsimp only at hSw); go_simp <;> first | with_reducible rfl | rw [if_neg (by omega)] | rw [if_pos (by omega)])
                  (try simp only [PU])
                  refine TK 5 (v := ?v67) hHeld ?hy67 ?_
                  case hy67 => (intro w _; go_simp <;> rfl)
                  (try simp only [PU])
                  refine TK 6 (v := ?v68) hHeld ?hy68 ?_
                  case hy68 => (intro w hSw; (try dsimp only at hSw); go_simp <;> first | with_reducible rfl | rw [if_neg (by omega)] | rw [if_pos (by omega)])
                  (try simp only [PU])
                  refine TK 7 (v := ?v69) hHeld ?hy69 ?_
                  case hy69 => (intro w _; go_simp <;> rfl)
                  (try simp only [PU])
                  refine TK 8 (v := ?v70) hHeld ?hy70 ?_
                  case hy70 => (intro w _; go_simp <;> first | with_reducible rfl | rw [if_neg (by omega)] | rw [if_pos (by omega)])
                  (try simp only [PU])
                  refine TK 9 (v := ?v71) hHeld ?hy71 ?_
                  case hy71 => (intro w _; go_simp <;> first | with_reducible rfl | rw [if_neg (by omega)] | rw [if_pos (by omega)])
                  (try simp only [PU])
                  refine TK 10 (v := ?v72) hHeld ?hy72 ?_
                  case hy72 => (intro w _; go_simp <;> rfl)
                  (try simp only [PU])
                  refine TK 11 (v := ?v73) hHeld ?hy73 ?_
                  case hy73 => (intro w hSw; (try dsimp only at hSw); go_simp <;> first | with_reducible rfl | rw [if_neg (by omega)] | rw [if_pos (by omega)])
                  (try simp only [PU])
                  refine TK 12 (v := ?v74) hHeld ?hy74 ?_
                  case hy74 => (intro w _; go_simp <;> first | with_reducible rfl | rw [if_neg (by omega)] | rw [if_pos (by omega)])
                  (try simp only [PU])
                  refine TK 13 (v := ?v75) hHeld ?hy75 ?_
                  case hy75 => (intro w _; go_simp <;> rfl)
                  (try simp only [PU])
                  refine wpAnyH_done (by kernel_rfl) ?_ _
                  clear hHeld
                  clear MKR5
                  clear p0 p1 p2 p5 p6 ho hpv
                  have gE : Ext w2 w2.drew := (Ext.refl _).drew
                  have j0 := gE.cell n0
                  have j1 := gE.cell n1
                  have j2 := gE.cell n2
                  have j3 := gE.cell n3
                  have j4 := gE.cell n4
                  have k0 := gE.cell G0
                  have k1 := gE.cell G1
                  have k2 := gE.cell G2
                  have k3 := gE.cell G3
                  by_cases h1 : x.id < 1
                  · have HT := Lib.hid (HX.out (by rw [HE1.out (.inl h1)]; decide))
                    rw [HE1.out (.inl h1)] at HT
                    go_wp2_with fail
                    go_ret
                    exact ⟨ret_int HT.out.symm, (hx1.trans (hEr.trans (hx2.trans (by solve_by_elim [X0, X1, X2, X3]))))⟩
                  · by_cases h2 : g.ne ≤ x.id
                    · have HT := Lib.hid (HX.out (by rw [HE1.out (.inr h2)]; decide))
                      rw [HE1.out (.inr h2)] at HT
                      go_wp2_with fail
                      go_ret
                      exact ⟨ret_int HT.out.symm, (hx1.trans (hEr.trans (hx2.trans (by solve_by_elim [X0, X1, X2, X3]))))⟩
                    · have HZ := Lib.hid (HEP.out (by omega) (by omega))
                      clear HE1 HEP
                      cases b1
                      · have HT := Lib.hid (HX.out (by rw [HZ.out]; simp))
                        rw [HZ.out] at HT
                        go_wp2_with (go_at_call 57; ((with_reducible refine (HN1.out _ (by solve_by_elim [X0, X1, X2, X3])).mono ?_); rintro e v1 ⟨rfl, gx1⟩; replace gx1 : Ext w2 v1 := Ext.trans (by solve_by_elim [X0, X1, X2, X3]) gx1; have m0 := gx1.cell G0; have r0 := gx1.cell n0; have r1 := gx1.cell n1; have r2 := gx1.cell n2; have r3 := gx1.cell n3; have r4 := gx1.cell n4))
                        go_ret
                        exact ⟨ret_int HT.out.symm, hx1.trans (hEr.trans (hx2.trans gx1))⟩
                      · cases b2
                        · have HT := Lib.hid (HX.out (by rw [HZ.out]; simp))
                          rw [HZ.out] at HT
                          go_wp2_with (first | (go_at_call 57; ((with_reducible refine (HN1.out _ (by solve_by_elim [X0, X1, X2, X3])).mono ?_); rintro e v1 ⟨rfl, gx1⟩; replace gx1 : Ext w2 v1 := Ext.trans (by solve_by_elim [X0, X1, X2, X3]) gx1; have m0 := gx1.cell G0; have r0 := gx1.cell n0; have r1 := gx1.cell n1; have r2 := gx1.cell n2; have r3 := gx1.cell n3; have r4 := gx1.cell n4)) | (go_at_call 57; ((with_reducible refine (HN2.out _ gx1).mono ?_); rintro e v2 ⟨rfl, gx2⟩; replace gx2 : Ext w2 v2 := gx1.trans gx2; have l3 := gx2.cell n3; have l4 := gx2.cell n4)))
                          go_ret
                          exact ⟨ret_int HT.out.symm, hx1.trans (hEr.trans (hx2.trans gx2))⟩
                        · cases b3
                          · have HT := Lib.hid (HX.out (by rw [HZ.out]; simp))
                            rw [HZ.out] at HT
                            go_wp2_with (first | (go_at_call 57; ((with_reducible refine (HN1.out _ (by solve_by_elim [X0, X1, X2, X3])).mono ?_); rintro e v1 ⟨rfl, gx1⟩; replace gx1 : Ext w2 v1 := Ext.trans (by solve_by_elim [X0, X1, X2, X3]) gx1; have m0 := gx1.cell G0; have r0 := gx1.cell n0; have r1 := gx1.cell n1; have r2 := gx1.cell n2; have r3 := gx1.cell n3; have r4 := gx1.cell n4)) | (go_at_call 57; ((with_reducible refine (HN2.out _ gx1).mono ?_); rintro e v2 ⟨rfl, gx2⟩; replace gx2 : Ext w2 v2 := gx1.trans gx2; have l3 := gx2.cell n3; have l4 := gx2.cell n4)) | (go_at_call 58; ((with_reducible refine (HNM.out _).mono ?_); rintro e v3 ⟨rfl, rfl⟩)))
                            go_ret
                            exact ⟨ret_int HT.out.symm, hx1.trans (hEr.trans (hx2.trans gx2))⟩
                          · rw [show E = z from HZ.out] at HS HX
                            by_cases he : z = 0
                            · have HT := Lib.hid (HS.out he)
                              have he2 : (z != 0) = false := by rw [he]; rfl
                              clear HS HX HZ he
                              go_wp2_with (first | (go_at_call 57; ((with_reducible refine (HN1.out _ (by solve_by_elim [X0, X1, X2, X3])).mono ?_); rintro e v1 ⟨rfl, gx1⟩; replace gx1 : Ext w2 v1 := Ext.trans (by solve_by_elim [X0, X1, X2, X3]) gx1; have m0 := gx1.cell G0; have r0 := gx1.cell n0; have r1 := gx1.cell n1; have r2 := gx1.cell n2; have r3 := gx1.cell n3; have r4 := gx1.cell n4)) | (go_at_call 57; ((with_reducible refine (HN2.out _ gx1).mono ?_); rintro e v2 ⟨rfl, gx2⟩; replace gx2 : Ext w2 v2 := gx1.trans gx2; have l3 := gx2.cell n3; have l4 := gx2.cell n4)) | (go_at_call 58; ((with_reducible refine (HNM.out _).mono ?_); rintro e v3 ⟨rfl, rfl⟩)) | (go_at_call 56; ((with_reducible refine (HP.out _ (by solve_by_elim [X0, X1, X2, X3])).mono ?_); rintro e w8 ⟨rfl, hx8⟩; replace hx8 : Ext w2 w8 := Ext.trans (by solve_by_elim [X0, X1, X2, X3]) hx8)))
                              go_roundw
                              case rel => exact ⟨k + 1, by go_num, by omega, HT, hEr.trans (hx2.trans hx8)⟩
                              case measure => simp [intOf]; omega
                            · have HT := Lib.hid (HX.out he)
                              have he2 : (z != 0) = true := bne_iff_ne.2 he
                              clear HS HX he
                              go_wp2_with (first | (go_at_call 57; ((with_reducible refine (HN1.out _ (by solve_by_elim [X0, X1, X2, X3])).mono ?_); rintro e v1 ⟨rfl, gx1⟩; replace gx1 : Ext w2 v1 := Ext.trans (by solve_by_elim [X0, X1, X2, X3]) gx1; have m0 := gx1.cell G0; have r0 := gx1.cell n0; have r1 := gx1.cell n1; have r2 := gx1.cell n2; have r3 := gx1.cell n3; have r4 := gx1.cell n4)) | (go_at_call 57; ((with_reducible refine (HN2.out _ gx1).mono ?_); rintro e v2 ⟨rfl, gx2⟩; replace gx2 : Ext w2 v2 := gx1.trans gx2; have l3 := gx2.cell n3; have l4 := gx2.cell n4)) | (go_at_call 58; ((with_reducible refine (HNM.out _).mono ?_); rintro e v3 ⟨rfl, rfl⟩)) | (go_at_call 56; ((with_reducible refine (HP.out _ (by solve_by_elim [X0, X1, X2, X3])).mono ?_); rintro e w8 ⟨rfl, hx8⟩; replace hx8 : Ext w2 w8 := Ext.trans (by solve_by_elim [X0, X1, X2, X3]) hx8)))
                              go_ret
                              exact ⟨ret_int HT.out.symm, hx1.trans (hEr.trans (hx2.trans hx8))⟩
                · have HT := Lib.hid (HX.out (by rw [hE, edgeE_26 hz (by omega)]; decide))
                  rw [hE, edgeE_26 hz (by omega)] at HT
                  clear hE HS HX HP
                  generalize g.edges[k]! = x at *
                  generalize g.edges[k - 1]! = y at *
                  have ho : x.id ≤ y.id := by omega
                  clear hlo
                  go_upto_region 19 with (fail)
                  rw [← HW2.out, ← HQ2.out]
                  clear HW2 HQ2 g0' g1' g2' g3'
                  have p0 : 0 < k := by omega
                  have p1 : (1 : Int) ≤ (k : Int) := by omega
                  have p2 : ((k : Int) - 1).toNat = k - 1 := by omega
                  have p5 : IntKind.i64.wrap ((k : Int) - 1) = (k : Int) - 1 := IntWalk.i64_in _ (by omega)
                  have p6 : ((k : Int) - 1) < (g.edges.length : Int) := by omega
                  have MKR6 := Lib.hid (fun V (e : Ext w2 V) => (⟨e.cell G1, e.cell n0, e.cell hpv, e⟩ : V.cell? ⟨q, 1, none⟩ = some (.slice (some ⟨b, o, none⟩) g.edges.length d) ∧ V.cell? ⟨q2, 0, none⟩ = some (.int .i64 x.id) ∧ V.cell? ⟨b, o + (k - 1) * 5, none⟩ = some (.int .i64 y.id) ∧ Ext w2 V))
                  refine wp_region_held_drew (S := (fun V => V.cell? ⟨q, 1, none⟩ = some (.slice (some ⟨b, o, none⟩) g.edges.length d) ∧ V.cell? ⟨q2, 0, none⟩ = some (.int .i64 x.id) ∧ V.cell? ⟨b, o + (k - 1) * 5, none⟩ = some (.int .i64 y.id) ∧ Ext w2 V)) (by kernel_rfl) ?hs76 (fun hHeld => ?go76)
                  case hs76 => (exact MKR6.out _ (by solve_by_elim [X0, X1, X2, X3]))
                  refine TK 0 (v := ?v77) hHeld ?hy77 ?_
                  case hy77 => (intro w _; go_simp <;> rfl)
                  (try simp only [PU])
                  refine TK 1 (v := ?v78) hHeld ?hy78 ?_
                  case hy78 => (intro w _; go_simp <;> first | with_reducible rfl | rw [if_neg (by omega)] | rw [if_pos (by omega)])
                  (try simp only [PU])
                  refine TK 2 (v := ?v79) hHeld ?hy79 ?_
                  case hy79 => (intro w _; go_simp <;> rfl)
                  (try simp only [PU])
                  refine TK 3 (v := ?v80) hHeld ?hy80 ?_
                  case hy80 => (intro w _; go_simp <;> rfl)
                  (try simp only [PU])
                  refine TK 4 (v := ?v81) hHeld ?hy81 ?_
                  case hy81 => (intro w hSw; (try dsimp only at hSw); go_simp <;> first | with_reducible rfl | rw [if_neg (by omega)] | rw [if_pos (by omega)])
                  (try simp only [PU])
                  refine TK 5 (v := ?v82) hHeld ?hy82 ?_
                  case hy82 => (intro w _; go_simp <;> rfl)
                  (try simp only [PU])
                  refine TK 6 (v := ?v83) hHeld ?hy83 ?_
                  case hy83 => (intro w hSw; (try dsimp only at hSw); go_simp <;> first | with_reducible rfl | rw [if_neg (by omega)] | rw [if_pos (by omega)])
                  (try simp only [PU])
                  refine TK 7 (v := ?v84) hHeld ?hy84 ?_
                  case hy84 => (intro w _; go_simp <;> rfl)
                  (try simp only [PU])
                  refine TK 8 (v := ?v85) hHeld ?hy85 ?_
                  case hy85 => (intro w _; go_simp <;> first | with_reducible rfl | rw [if_neg (by omega)] | rw [if_pos (by omega)])
                  (try simp only [PU])
                  refine TK 9 (v := ?v86) hHeld ?hy86 ?_
                  case hy86 => (intro w _; go_simp <;> first | with_reducible rfl | rw [if_neg (by omega)] | rw [if_pos (by omega)])
                  (try simp only [PU])
                  refine TK 10 (v := ?v87) hHeld ?hy87 ?_
                  case hy87 => (intro w _; go_simp <;> rfl)
                  (try simp only [PU])
                  refine TK 11 (v := ?v88) hHeld ?hy88 ?_
                  case hy88 => (intro w hSw; (try dsimp only at hSw); go_simp <;> first | with_reducible rfl | rw [if_neg (by omega)] | rw [if_pos (by omega)])
                  (try simp only [PU])
                  refine TK 12 (v := ?v89) hHeld ?hy89 ?_
                  case hy89 => (intro w _; go_simp <;> first | with_reducible rfl | rw [if_neg (by omega)] | rw [if_pos (by omega)])
                  (try simp only [PU])
                  refine TK 13 (v := ?v90) hHeld ?hy90 ?_
                  case hy90 => (intro w _; go_simp <;> rfl)
                  (try simp only [PU])
                  refine wpAnyH_done (by kernel_rfl) ?_ _
                  clear hHeld
                  clear MKR6
                  go_wp2_with fail
                  go_ret
                  exact ⟨ret_int HT.out.symm, (hx1.trans (hEr.trans (hx2.trans (by solve_by_elim [X0, X1, X2, X3]))))⟩
            · have HT := Lib.hid (chkG_edges HH.out HNZ.out (firstE_zero (fun t ht => hgd.out t (by omega)) : edgesE g = 0))
              go_wp2_with fail
              go_ret
              exact ⟨ret_int HT.out.symm, hx1.trans hEr⟩
end Go.Proofs.YtigmdddeplnciaaGreatDoor

/- EVERY RUN DRAWS ON: the number of answers drawn never falls. So a contract may tell that too. -/
namespace Go.Proofs.YtigmdddeplnciaaGreatDoor
def rw_ {α : Type} : Result α → World
  | .ok _ w => w
  | .halt _ w => w
theorem ask_le {α : Type} : ∀ (k : Ask α) (w : World), w.drawn ≤ (w.ask k).2.drawn
  | .done a, w => by rw [World.ask]; exact Nat.le_refl _
  | .ask what range k, w => by
    rw [World.ask]
    split
    · exact ask_le _ w
    · exact Nat.le_trans (Nat.le_succ _) (ask_le _ { w with drawn := w.drawn + 1 })
theorem sys_le (w : World) (c : Sys) : w.drawn ≤ (w.sys c).2.drawn := by
  unfold World.sys
  have h := ask_le (Kernel.perform c w.os) w
  split
  · exact Nat.le_refl _
  · rename_i e
    rw [e] at h; exact h
theorem setCell_dr (w : World) (a : Addr) (v : Value) : (w.setCell a v).drawn = w.drawn := by
  unfold World.setCell
  split <;> rfl
theorem freeze_dr (w : World) (a : Addr) (n : Nat) : (w.freeze a n).drawn = w.drawn := by
  unfold World.freeze
  repeat' split
  all_goals rfl
theorem viewStore_dr {p : Program} {w w' : World} {at_ : Addr} {u : TypeId} {k : Addr} {v : Value} {b : Bool} {l : List Addr} (h : w.viewStore p at_ u k v b = .ok (w', l)) : w'.drawn = w.drawn := by
  unfold World.viewStore at h
  simp only [bind, Except.bind, pure, Except.pure] at h
  repeat' split at h
  all_goals first | (cases h; done) | (injection h with h; injection h with h1 h2; rw [← h1])
theorem farStore_dr {p : Program} {w w' : World} {a : Addr} {v : Value} {b : Bool} {l : List Addr} (h : w.farStore p a v b = .ok (w', l)) : w'.drawn = w.drawn := by
  unfold World.farStore at h
  split at h
  · split at h
    · rename_i r e
      injection h with h
      subst h
      exact viewStore_dr e
    · cases h
  · cases h
theorem run_le {α : Type} (p : Program) : ∀ (s : Sem α) (w : World), w.drawn ≤ (rw_ (s.run p w)).drawn
  | .pure a, w => by rw [Sem.run]; exact Nat.le_refl _
  | .load m a k, w => by
    rw [Sem.run]
    split
    · exact run_le p _ w
    · split
      · exact run_le p _ w
      · exact Nat.le_refl _
  | .store m a v k, w => by
    have key : w.drawn ≤ (rw_ (match w.cell? a with
      | some _ => if w.frozen? a then Result.halt (.unsupported (.unsafePointer "a write to bytes that a string shares")) w else k.run p (w.setCell a v)
      | none => match w.farStore p a v (m == Mode.atomic) with
        | .ok (w, _) => k.run p w
        | .error h => .halt h w)).drawn := by
      split
      · split
        · exact Nat.le_refl _
        · have := run_le p k (w.setCell a v); rw [setCell_dr] at this; exact this
      · split
        · rename_i e
          refine Nat.le_trans ?_ (run_le p k _)
          rw [farStore_dr e]; exact Nat.le_refl _
        · exact Nat.le_refl _
    cases v
    all_goals first | (rw [Sem.run]; exact Nat.le_refl _) | (rw [Sem.run] <;> first | exact key | (intro _ h; cases h))
  | .new o k, w => by rw [Sem.run]; exact run_le p _ { w with heap := w.heap.push o }
  | .shape r k, w => by rw [Sem.run]; exact run_le p _ _
  | .freeze a n k, w => by rw [Sem.run]; have := run_le p k (w.freeze a n); rw [freeze_dr] at this; exact this
  | .frozen a k, w => by rw [Sem.run]; exact run_le p _ _
  | .getObj r k, w => by
    rw [Sem.run]
    split
    · exact Nat.le_refl _
    · exact run_le p _ _
    · exact Nat.le_refl _
  | .setObj r o k, w => by
    rw [Sem.run]
    split
    · exact Nat.le_refl _
    · exact run_le p k { w with heap := w.heap.setIfInBounds r o }
    · exact Nat.le_refl _
  | .choose q k, w => by
    rw [Sem.run]
    split
    · exact run_le p _ _
    · exact Nat.le_trans (Nat.le_succ _) (run_le p _ { w with drawn := w.drawn + 1 })
  | .sys c k, w => by rw [Sem.run]; exact Nat.le_trans (sys_le w c) (run_le p _ _)
  | .program k, w => by rw [Sem.run]; exact run_le p _ _
  | .mark m k, w => by rw [Sem.run]; exact run_le p _ _
  | .halt h, w => by rw [Sem.run]; exact Nat.le_refl _
theorem runT_le {α : Type} (p : Program) : ∀ (s : Sem α) (w : World) (es : Array Event), w.drawn ≤ (rw_ (s.runT p w es).1).drawn
  | .pure a, w, es => by rw [Sem.runT]; exact Nat.le_refl _
  | .load m a k, w, es => by
    rw [Sem.runT]
    split
    · exact runT_le p _ w _
    · split
      · exact runT_le p _ w _
      · exact Nat.le_refl _
  | .store m a v k, w, es => by
    have key : w.drawn ≤ (rw_ (match w.cell? a with
      | some _ => if w.frozen? a then (Result.halt (.unsupported (.unsafePointer "a write to bytes that a string shares")) w, es) else k.runT p (w.setCell a v) (es.push ⟨Loc.cell a, true, m == Mode.atomic⟩)
      | none => match w.farStore p a v (m == Mode.atomic) with
        | .ok (w, touched) => k.runT p w (es ++ touched.toArray.map (fun x => Event.mk (Loc.cell x) true (m == Mode.atomic)))
        | .error h => (.halt h w, es)).1).drawn := by
      split
      · split
        · exact Nat.le_refl _
        · have := runT_le p k (w.setCell a v) (es.push ⟨Loc.cell a, true, m == Mode.atomic⟩); rw [setCell_dr] at this; exact this
      · split
        · rename_i e
          refine Nat.le_trans ?_ (runT_le p k _ _)
          rw [farStore_dr e]; exact Nat.le_refl _
        · exact Nat.le_refl _
    cases v
    all_goals first | (rw [Sem.runT]; exact Nat.le_refl _) | (rw [Sem.runT] <;> first | exact key | (intro _ h; cases h))
  | .new o k, w, es => by rw [Sem.runT]; exact runT_le p _ { w with heap := w.heap.push o } _
  | .shape r k, w, es => by rw [Sem.runT]; exact runT_le p _ _ _
  | .freeze a n k, w, es => by rw [Sem.runT]; have := runT_le p k (w.freeze a n) es; rw [freeze_dr] at this; exact this
  | .frozen a k, w, es => by rw [Sem.runT]; exact runT_le p _ _ _
  | .getObj r k, w, es => by
    rw [Sem.runT]
    split
    · exact Nat.le_refl _
    · exact runT_le p _ _ _
    · exact Nat.le_refl _
  | .setObj r o k, w, es => by
    rw [Sem.runT]
    split
    · exact Nat.le_refl _
    · exact runT_le p k { w with heap := w.heap.setIfInBounds r o } _
    · exact Nat.le_refl _
  | .choose q k, w, es => by
    rw [Sem.runT]
    split
    · exact runT_le p _ _ _
    · exact Nat.le_trans (Nat.le_succ _) (runT_le p _ { w with drawn := w.drawn + 1 } _)
  | .sys c k, w, es => by rw [Sem.runT]; exact Nat.le_trans (sys_le w c) (runT_le p _ _ _)
  | .program k, w, es => by rw [Sem.runT]; exact runT_le p _ _ _
  | .mark m k, w, es => by rw [Sem.runT]; exact runT_le p _ _ _
  | .halt h, w, es => by rw [Sem.runT]; exact Nat.le_refl _
theorem run_okD {α : Type} {p : Program} {s : Sem α} {w w' : World} {a : α} (h : s.run p w = .ok a w') : w.drawn ≤ w'.drawn := by
  have := run_le p s w; rw [h] at this; exact this
theorem run_haltD {α : Type} {p : Program} {s : Sem α} {w w' : World} {a : Halt} (h : s.run p w = .halt a w') : w.drawn ≤ w'.drawn := by
  have := run_le p s w; rw [h] at this; exact this
theorem runT_okD {α : Type} {p : Program} {s : Sem α} {w w' : World} {a : α} {es es' : Array Event} (h : s.runT p w es = (.ok a w', es')) : w.drawn ≤ w'.drawn := by
  have := runT_le p s w es; rw [h] at this; exact this
theorem runT_haltD {α : Type} {p : Program} {s : Sem α} {w w' : World} {a : Halt} {es es' : Array Event} (h : s.runT p w es = (.halt a w', es')) : w.drawn ≤ w'.drawn := by
  have := runT_le p s w es; rw [h] at this; exact this
theorem runT_ok1 {α : Type} {p : Program} {s : Sem α} {w w' : World} {a : α} {es : Array Event} (h : (s.runT p w es).1 = .ok a w') : w.drawn ≤ w'.drawn := by
  have := runT_le p s w es; rw [h] at this; exact this
theorem runT_halt1 {α : Type} {p : Program} {s : Sem α} {w w' : World} {a : Halt} {es : Array Event} (h : (s.runT p w es).1 = .halt a w') : w.drawn ≤ w'.drawn := by
  have := runT_le p s w es; rw [h] at this; exact this
/-- the world of a step -/
def gw : GStep → World
  | .go _ w _ => w
  | .comm _ _ _ _ w _ => w
  | .spawn _ _ w _ => w
  | .count _ w _ => w
  | .timer _ _ w _ => w
  | .alone _ _ w _ => w
  | .newcoro _ _ _ w _ => w
  | .coroswitch _ _ _ w _ => w
  | .collect _ w _ => w
  | .watch _ w _ => w
  | .ended _ w _ => w
theorem gw_after (es : Array Event) (s : GStep) : gw (s.after es) = gw s := by cases s <;> rfl
theorem gw_ite {n : Nat} {c : Prop} [Decidable c] {a b : GStep} (h : n ≤ (gw a).drawn) (k : n ≤ (gw b).drawn) : n ≤ (gw (if c then a else b)).drawn := by split <;> assumption
theorem gw_elim {β : Type} {n : Nat} {o : Option β} {d : GStep} {f : β → GStep} (h : n ≤ (gw d).drawn) (k : ∀ x, n ≤ (gw (f x)).drawn) : n ≤ (gw (o.elim d f)).drawn := by
  cases o
  · exact h
  · exact k _
theorem endThrow_dr (fr : Frame) (m : String) (w : World) : gw (endThrow fr m w) = w := rfl
theorem endPrinting_dr (p : Program) (fr : Frame) (v : Value) (w : World) : gw (endPrinting p fr v w) = w := by
  unfold endPrinting
  dsimp only
  split <;> rfl
theorem endWith_le (w : World) (fd : Nat) (t : ByteArray) (o : Outcome) : w.drawn ≤ (gw (endWith w fd t o)).drawn := by
  unfold endWith
  have h := sys_le w (.write fd t)
  dsimp only
  split
  · rename_i e; rw [e] at h
    split <;> exact h
  · rename_i e; rw [e] at h; exact h
  · rename_i e; rw [e] at h; exact h
theorem endFatal_le (p : Program) (fr : Frame) (cs : List Frame) (d : Option Dying) (m : String) (w : World) : w.drawn ≤ (gw (endFatal p fr cs d m w)).drawn := by
  unfold endFatal
  dsimp only
  split
  · rename_i e; exact run_okD e
  · rename_i e; exact run_haltD e
  · rename_i e; exact run_haltD e
theorem writeOn_le (p : Program) (fr : Frame) (d : Dying) (f : Fatal) (w : World) : w.drawn ≤ (gw (writeOn p fr d f w)).drawn := by
  unfold writeOn
  dsimp only
  split
  · exact Nat.le_refl _
  · split
    all_goals (rename_i e; first | exact runT_okD e | exact runT_haltD e)
theorem die_le (p : Program) (fr : Frame) (d : Dying) (w : World) : w.drawn ≤ (gw (die p fr d w)).drawn := by
  unfold die
  split
  · exact writeOn_le _ _ _ _ _
  · split
    · split
      · exact Nat.le_refl _
      · exact endWith_le _ _ _ _
    · dsimp only
      split
      · exact Nat.le_refl _
      · split
        · rename_i e; exact run_okD e
        · rename_i e; exact run_haltD e
      · rw [gw_after]
        split
        all_goals first
          | exact Nat.le_refl _
          | (rename_i e; exact runT_ok1 e)
          | (rename_i e; exact runT_halt1 e)
          | (rename_i e; rw [endPrinting_dr]; exact runT_halt1 e)
      · exact Nat.le_refl _
theorem doReturn_dr (p : Program) (main : Bool) (fr : Frame) (cs : List Frame) (d : Option Dying) (v : Value) (w : World) : gw (doReturn p main fr cs d v w) = w := by
  unfold doReturn
  repeat' split
  all_goals rfl
theorem callDeferred_le (p : Program) (fr : Frame) (cs : List Frame) (dy : Option Dying) (d : Deferred) (w : World) : w.drawn ≤ (gw (callDeferred p fr cs dy d w)).drawn := by
  unfold callDeferred
  refine gw_ite ?_ ?_
  · exact Nat.le_refl _
  · dsimp only
    rw [gw_after]
    split
    all_goals try (split)
    all_goals first
      | exact runT_ok1 (by assumption)
      | exact runT_halt1 (by assumption)
      | exact Nat.le_trans (runT_halt1 (by assumption)) (endFatal_le _ _ _ _ _ _)
theorem unwind_le (p : Program) (main : Bool) (fr : Frame) (cs : List Frame) (dy : Option Dying) (w : World) : w.drawn ≤ (gw (unwind p main fr cs dy w)).drawn := by
  unfold unwind
  split
  · dsimp only
    rw [gw_after]
    split
    · rename_i e; exact runT_ok1 e
    · rename_i e; exact runT_halt1 e
  · exact callDeferred_le _ _ _ _ _ _
  · split
    · exact Nat.le_refl _
    · split
      · exact Nat.le_refl _
      · split
        · exact Nat.le_refl _
        · split
          · split
            · exact Nat.le_refl _
            · split
              all_goals (rename_i e; first | exact run_okD e | exact run_haltD e)
          · split
            · rw [endPrinting_dr]; exact Nat.le_refl _
            · exact Nat.le_refl _
    · split
      · rw [doReturn_dr]; exact Nat.le_refl _
      · dsimp only
        rw [gw_after]
        split
        · rename_i e; rw [doReturn_dr]; exact runT_ok1 e
        · rename_i e; exact runT_halt1 e
        · rename_i e; exact runT_halt1 e
theorem early_le (p : Program) (fr : Frame) (cs : List Frame) (dy : Option Dying) (g : Nat) (w : World) : w.drawn ≤ (gw (early p fr cs dy g w)).drawn := by
  have notYet : ∀ w1 : World, w.drawn ≤ w1.drawn → w.drawn ≤ (gw (match w1.heap[g]? with
    | some (.pending c elem) => .go { frame := fr, callers := cs, status := .running, dying := dy } { w1 with heap := w1.heap.setIfInBounds g (.cells c elem) }
    | _ => .ended (.stuck "early: the variable does not wait" (fr.pos p)) w1)).drawn := by
    intro w1 h
    split <;> exact h
  unfold early
  dsimp only
  repeat' split
  all_goals first
    | exact Nat.le_refl _
    | (dsimp only [gw]; exact run_okD (by assumption))
    | (dsimp only [gw]; exact run_haltD (by assumption))
theorem apply_le (p : Program) (fr : Frame) (cs : List Frame) (dy : Option Dying) (s : Sem Next) (w : World) (b : Bool) : w.drawn ≤ (gw (stepG.apply p b fr cs dy s w)).drawn := by
  unfold stepG.apply
  dsimp only
  rw [gw_after]
  cases b
  · simp only [Bool.false_eq_true, if_false]
    repeat' split
    all_goals first
      | exact run_okD (by assumption)
      | exact run_haltD (by assumption)
      | exact Nat.le_trans (run_haltD (by assumption)) (endFatal_le _ _ _ _ _ _)
      | exact Nat.le_trans (run_haltD (by assumption)) (early_le _ _ _ _ _ _)
  · simp only [if_true]
    repeat' split
    all_goals first
      | exact runT_ok1 (by assumption)
      | exact runT_halt1 (by assumption)
      | exact Nat.le_trans (runT_halt1 (by assumption)) (endFatal_le _ _ _ _ _ _)
      | exact Nat.le_trans (runT_halt1 (by assumption)) (early_le _ _ _ _ _ _)
theorem oper_le (p : Program) (b : Bool) (fr : Frame) (cs : List Frame) (dy : Option Dying) (w : World) : w.drawn ≤ (gw (stepG.oper p b fr cs dy w)).drawn := by
  unfold stepG.oper
  repeat' split
  all_goals first
    | exact Nat.le_refl _
    | exact apply_le _ _ _ _ _ _ _
theorem exec_le (p : Program) (main b : Bool) (fr : Frame) (cs : List Frame) (dy : Option Dying) (w : World) : w.drawn ≤ (gw (stepG.exec p main b fr cs dy w)).drawn := by
  unfold stepG.exec
  dsimp only
  repeat' split
  all_goals first
    | exact Nat.le_refl _
    | (rw [gw_after, doReturn_dr]; exact runT_ok1 (by assumption))
    | (rw [gw_after]; exact runT_halt1 (by assumption))
    | (rw [gw_after]; exact runT_ok1 (by assumption))
    | (rw [gw_after]; exact Nat.le_trans (runT_ok1 (by assumption)) (apply_le _ _ _ _ _ _ _))
    | exact apply_le _ _ _ _ _ _ _
    | exact oper_le _ _ _ _ _ _
    | exact run_okD (by assumption)
    | exact run_haltD (by assumption)
    | (refine gw_elim ?_ (fun _ => Nat.le_refl _); exact Nat.le_refl _)
    | (refine gw_elim ?_ (fun _ => apply_le _ _ _ _ _ _ _); exact Nat.le_refl _)
    | (refine gw_elim ?_ (fun _ => Nat.le_refl _); rw [gw_after, doReturn_dr]; exact runT_ok1 (by assumption))
    | (refine gw_elim ?_ (fun _ => Nat.le_refl _); rw [gw_after]; exact runT_halt1 (by assumption))
theorem stepG_le (p : Program) (main : Bool) (g : Goroutine) (w : World) (b : Bool) : w.drawn ≤ (gw (stepG p main g w b)).drawn := by
  unfold stepG
  dsimp only
  split
  · exact die_le _ _ _ _
  · exact exec_le _ _ _ _ _ _ _
  · exact unwind_le _ _ _ _ _ _
/-- the machine's world only draws on -/
def Up (n : Nat) : Stepped → Prop
  | .next m => n ≤ m.world.drawn
  | .ended _ _ => True
theorem Up.mono {n k : Nat} {s : Stepped} (h : Up k s) (hn : n ≤ k) : Up n s := by
  cases s
  · exact Nat.le_trans hn h
  · trivial
theorem waitingAt_dr {rest : Rest} {cs : Array CommCase} {w w' : World} (h : waitingAt rest cs w = some w') : w'.drawn = w.drawn := by
  unfold waitingAt at h
  repeat' split at h
  all_goals first | (cases h; done) | (injection h with h; rw [← h])
theorem communicate_up (p : Program) (rest : Rest) (gs : Array Goroutine) (i : Nat) (g : Goroutine) (cases_ : Array CommCase) (bl : Bool) (sh : CommShape) (w : World) : Up w.drawn (communicate p rest gs i g cases_ bl sh w).1 := by
  unfold communicate
  dsimp only
  repeat' split
  all_goals first
    | trivial
    | exact Nat.le_refl _
    | (dsimp only [Up]; exact run_okD (by assumption))
    | (dsimp only [Up]; exact Nat.le_trans (run_okD (by assumption)) (run_haltD (by assumption)))
    | (dsimp only [Up]; exact Nat.le_trans (run_okD (by assumption)) (run_okD (by assumption)))
    | (dsimp only [Up]; exact Nat.le_of_eq (waitingAt_dr (by assumption)).symm)
theorem look_up (p : Program) (gs : Array Goroutine) (rest : Rest) (w : World) : Up w.drawn (look p gs rest w) := by
  unfold look
  dsimp only
  repeat' split
  all_goals first
    | trivial
    | exact Nat.le_refl _
    | (dsimp only [Up]; exact run_okD (by assumption))
theorem drain_dr (w : World) (c : Nat) : (drain w c).2.drawn = w.drawn := by
  unfold drain
  split <;> rfl
theorem retime_dr (m : Machine) (k : Nat) (t : Timer) (a b : Nat) : (retime m k t a b).2.world.drawn = m.world.drawn := by
  unfold retime
  dsimp only
  split
  · exact drain_dr _ _
  · rfl
theorem named_dr {n : Nat} {m : Machine} {var : Addr} {f : Nat → Timer → Value × Machine} (hf : ∀ k t, (f k t).2.world.drawn = n) {v : Value} {m' : Machine} (h : timerOp.named m var f = .ok (v, m')) : m'.world.drawn = n := by
  unfold timerOp.named at h
  split at h
  · injection h with h
    have := hf ‹_› (m.rest.timers.getD ‹_› default)
    rw [h] at this; exact this
  · cases h
theorem opened_dr {m m' : Machine} {var : Addr} (h : timerOp.opened m var = some m') : m'.world.drawn = m.world.drawn := by
  unfold timerOp.opened at h
  repeat' split at h
  all_goals first | (cases h; done) | (injection h with h; rw [← h])
theorem timerOp_dr {m m' : Machine} {op : TimerOp} {v : Value} (h : timerOp m op = .ok (v, m')) : m'.world.drawn = m.world.drawn := by
  unfold timerOp at h
  repeat' split at h
  all_goals first
    | (cases h; done)
    | exact named_dr (fun _ _ => retime_dr _ _ _ _ _) h
    | exact named_dr (fun _ _ => (retime_dr _ _ _ _ _).trans (opened_dr (by assumption))) h
    | (injection h with h; injection h with _ h; rw [← h]; done)
    | (injection h with h; injection h with _ h; rw [← h]; rfl)
theorem serve_up (p : Program) (m : Machine) (k : Nat) : Up m.world.drawn (serve p m k) := by
  unfold serve
  dsimp only
  repeat' split
  all_goals first
    | trivial
    | exact Nat.le_refl _
theorem endThrow_w {fr : Frame} {m : String} {w w' : World} {g : Goroutine} {es : Array Event} (h : endThrow fr m w = .go g w' es) : w'.drawn = w.drawn := by
  have := congrArg gw h
  rw [endThrow_dr] at this
  rw [this]; rfl
theorem runT_up (p : Program) (m : Machine) (i : Nat) (b : Bool) : Up m.world.drawn (runT p m i b).1 := by
  unfold runT
  dsimp only
  have h := stepG_le p (i == 0) (m.gs.swapAt! i { (default : Goroutine) with status := .finished }).1 m.world b
  split
  all_goals (rename_i e; rw [e] at h)
  all_goals first
    | trivial
    | exact h
    | exact (communicate_up _ _ _ _ _ _ _ _ _).mono h
    | exact (look_up _ _ _ _).mono h
    | (repeat' split
       all_goals first
         | trivial
         | exact h
         | exact Nat.le_trans h (Nat.le_of_eq (timerOp_dr (by assumption)).symm)
         | exact Nat.le_trans h (Nat.le_of_eq (endThrow_w (by assumption)).symm))
def MUp (n : Nat) : Move → Prop
  | .goroutine m _ => n ≤ m.world.drawn
  | .machine s _ => Up n s
theorem run_okA {α : Type} {p : Program} {s : Sem α} {w w' : World} {gs : Array Goroutine} {rest : Rest} {t : Nat} {a : α} (h : s.run p (Machine.advanceTo { world := w, gs := gs, rest := rest } t).world = .ok a w') : w.drawn ≤ w'.drawn := run_okD (w := (Machine.advanceTo { world := w, gs := gs, rest := rest } t).world) h
theorem askOn_up (p : Program) (m : Machine) : MUp m.world.drawn (askOn p m) := by
  unfold askOn
  dsimp only
  repeat' split
  all_goals first
    | trivial
    | exact (serve_up _ _ _).mono (run_okD (by assumption))
    | (dsimp only [MUp, Up, Machine.advanceTo]; exact run_okD (by assumption))
    | (dsimp only [MUp, Up, Machine.advanceTo]; exact Nat.le_trans (run_okD (by assumption)) (run_okD (by assumption)))
    | (dsimp only [MUp, Up, Machine.advanceTo]; exact Nat.le_trans (run_okD (by assumption)) (Nat.le_trans (run_okD (by assumption)) (run_okD (by assumption))))
    | (dsimp only [MUp, Up, Machine.advanceTo]; exact Nat.le_trans (run_okD (by assumption)) (Nat.le_trans (run_okD (by assumption)) (Nat.le_trans (run_okD (by assumption)) (run_okD (by assumption)))))
    | (dsimp only [MUp]; exact Nat.le_trans (run_okD (by assumption)) (Nat.le_trans (run_okD (by assumption)) (run_okA (by assumption))))
    | (dsimp only [MUp]; exact Nat.le_trans (run_okD (by assumption)) (Nat.le_trans (run_okD (by assumption)) (Nat.le_trans (run_okA (by assumption)) (run_okD (by assumption)))))
theorem MUp.mono {n k : Nat} {s : Move} (h : MUp k s) (hn : n ≤ k) : MUp n s := by
  cases s
  · exact Nat.le_trans hn h
  · exact Up.mono h hn
theorem ask_up (p : Program) (m : Machine) : MUp m.world.drawn (ask p m) := by
  unfold ask
  repeat' split
  all_goals first
    | trivial
    | exact askOn_up _ _
    | (rename_i e; have h := (look_up p m.gs m.rest _).mono (run_okD (by assumption)); rw [e] at h; exact (askOn_up _ _).mono h)
    | exact (askOn_up _ _).mono (run_okD (by assumption))
    | exact (look_up p m.gs m.rest _).mono (run_okD (by assumption))
theorem move_up (p : Program) (m : Machine) : MUp m.world.drawn (move p m) := by
  unfold move
  repeat' split
  all_goals first
    | trivial
    | exact Nat.le_refl _
    | exact ask_up _ _
theorem step_up (p : Program) (m : Machine) : Up m.world.drawn (step p m) := by
  unfold step stepT
  have h := move_up p m
  split
  · rename_i e
    rw [e] at h
    exact (runT_up _ _ _ _).mono h
  · rename_i e
    rw [e] at h
    exact h
theorem runN_up (p : Program) : ∀ (n : Nat) (m : Machine), Up m.world.drawn (runN p n m)
  | 0, m => Nat.le_refl _
  | n + 1, m => by
    have h := step_up p m
    rw [runN]
    split
    · rename_i e
      rw [e] at h
      exact (runN_up p n _).mono h
    · trivial
theorem steps_up {p : Program} {m m' : Machine} (h : Steps p m m') : m.world.drawn ≤ m'.world.drawn := by
  obtain ⟨n, hn⟩ := h
  have := runN_up p n m
  rw [hn] at this; exact this
/-- a contract of calls that return tells that the world has drawn on -/
theorem calls_up {P : Program} {f : FuncId} {args : Array Value} {w : World} {R : Ending → World → Prop} (h : Calls P f args w R) (hr : ∀ e w', R e w' → e ≠ .outgrown) : Calls P f args w fun e w' => R e w' ∧ w.drawn ≤ w'.drawn := fun cs => by
  obtain ⟨e, w', fr, h1, h2, h3, h4⟩ := h cs
  refine ⟨e, w', fr, ⟨h1, ?_⟩, h2, h3, h4⟩
  have hne := hr e w' h1
  cases e with
  | returned v => exact steps_up h2
  | panicked c => exact steps_up h2
  | outgrown => exact absurd rfl hne
end Go.Proofs.YtigmdddeplnciaaGreatDoor

/- THE LIBRARY'S SORT OVER A ROW THAT A CALL OWNS, any kind of element, a compare that may lay blocks. -/
namespace Go.Proofs.YtigmdddeplnciaaGreatDoor
open Go.RowKit Go.Sort Go.Shelf
theorem ext_grow {w w' : World} (h : Ext w w') (hd : w.drawn ≤ w'.drawn) : ∃ q os, w' = grow (w.drewN q) os := by
  refine ⟨w'.drawn - w.drawn, w'.heap.extract w.heap.size w'.heap.size, ?_⟩
  obtain ⟨h1, h2, h3, h4, h5⟩ := h
  have hh : w'.heap = w.heap ++ w'.heap.extract w.heap.size w'.heap.size := by
    apply Array.ext_getElem?
    intro k
    rcases Nat.lt_or_ge k w.heap.size with hk | hk
    · rw [Array.getElem?_append_left hk]; exact h5 k hk
    · rw [Array.getElem?_append_right hk, Array.getElem?_extract]
      rcases Nat.lt_or_ge k w'.heap.size with hk2 | hk2
      · rw [if_pos (by omega)]; congr 1; omega
      · rw [if_neg (by omega), Array.getElem?_eq_none hk2]
  have hd2 : w'.drawn = w.drawn + (w'.drawn - w.drawn) := by omega
  cases w with
  | mk heap tape drawn os output =>
    cases w' with
    | mk heap' tape' drawn' os' output' =>
      simp only at h1 h2 h3 hh hd2
      simp only [grow, World.drewN]
      rw [← hh, ← hd2, h1, h2, h3]
theorem calls_grow {P : Program} {f : FuncId} {args : Array Value} {w : World} {v : Value} (h : Calls P f args w fun e w' => e = .returned v ∧ Ext w w') : Calls P f args w fun e w' => e = .returned v ∧ ∃ q os, w' = grow (w.drewN q) os :=
  (calls_up h (fun e w' hR => by intro he; rw [he] at hR; cases hR.1)).mono fun _ _ ⟨⟨he, hx⟩, hd⟩ => ⟨he, ext_grow hx hd⟩
section
variable {α : Type} [Inhabited α] (enc : α → List Value) (k : Nat)
theorem flatK_toList (hk : ∀ x, (enc x).length = k) (d : Array α) : (flatK enc k d).toList = d.toList.flatMap enc := by
  apply List.ext_getElem?
  intro t
  rcases Nat.eq_zero_or_pos k with h0 | h0
  · have e1 : (flatK enc k d).toList = [] := List.eq_nil_of_length_eq_zero (by simp [h0])
    have e2 : d.toList.flatMap enc = [] := List.eq_nil_of_length_eq_zero (by rw [flat_len enc k hk, h0, Nat.mul_zero])
    rw [e1, e2]
  · rcases Nat.lt_or_ge t (d.size * k) with ht | ht
    · have hq : t / k < d.size := (Nat.div_lt_iff_lt_mul h0).2 ht
      have hr : t % k < k := Nat.mod_lt _ h0
      have e1 := flat_get enc k hk d.toList (t / k) (t % k) (by simpa using hq) hr
      rw [show t / k * k + t % k = t by rw [Nat.mul_comm]; exact Nat.div_add_mod t k] at e1
      rw [e1, List.getElem?_eq_getElem (by simpa using ht)]
      have e2 := get_flatK enc k d t ht
      rw [getElem!_pos (flatK enc k d) t (by simpa using ht)] at e2
      rw [Array.getElem_toList, e2, getElem!_pos d _ hq, Array.getElem_toList]
      have hl : t % k < (enc d[t / k]).length := by rw [hk]; exact hr
      rw [getElem!_pos (enc d[t / k]) (t % k) hl, List.getElem?_eq_getElem hl]
    · rw [List.getElem?_eq_none (by simpa using ht), List.getElem?_eq_none (by rw [flat_len enc k hk]; simpa using ht)]
theorem grown_sortWorldK (w : World) (g m : Nat) (dk : Array α) (os : Array Obj) : w.grownBy (sortWorldK enc k w g 0 m dk os) (some g) := by
  refine ⟨rfl, rfl, rfl, by unfold sortWorldK putRowK; simp, fun b hb hne => ?_⟩
  unfold sortWorldK
  rw [heap_grow_old _ _ (by unfold putRowK; simpa using hb)]
  unfold putRowK putRow mapBlock
  simp only [Array.getElem?_modify]
  rw [if_neg (fun e => hne (by rw [e]))]; rfl
theorem heap_sortWorldK (w : World) (g m : Nat) (dk : Array α) (os : Array Obj) {cur : Array Value} {e : TypeId} {fr : Nat × Nat} (h : w.heap[g]? = some (.cells cur e fr)) : (sortWorldK enc k w g 0 m dk os).heap[g]? = some (.cells (putCells id 0 (flatK enc k dk) cur) e fr) := by
  have hlt : g < w.heap.size := by
    rcases Nat.lt_or_ge g w.heap.size with h1 | h1
    · exact h1
    · rw [Array.getElem?_eq_none h1] at h; cases h
  unfold sortWorldK
  rw [heap_grow_old _ _ (by unfold putRowK; simpa using hlt)]
  unfold putRowK putRow mapBlock
  simp only [Array.getElem?_modify, if_true]
  show Option.map _ w.heap[g]? = _
  rw [h]; rfl
end
section
variable {P : Program} {ρ : Ren} {α : Type} {K : KindG α} {e : TypeId}
theorem own_sort (L : SlLaysF0.n6 P ρ) (aE : ∀ w, (isAgg (ρ.t 24)).run P w = .ok true w) (zE : ∀ w, (Go.sizeOf (ρ.t 24)).run P w = .ok K.size w) (h0 : α) (hl0 : ∀ W ok, K.lies W ok h0) (cf : α → α → Int) (hO : SWO (ltOf cf)) (f : Nat) (w : World) (base : Nat) (ok0 : Nat → Prop) (g cap : Nat) (hs : List α)
    (h : OwnG K e w base ok0 (.slice (some ⟨g, 0, none⟩) hs.length cap) hs) (hsz : hs.length ≤ 8000000) (eg : ∀ args w, (callFunc f args).run P w = .ok (.enter f args) w)
    (hc : ∀ (W : World) (x y : α), w.grownBy W (some g) → K.lies W (fun b => ok0 b ∧ some b ≠ some g) x → K.lies W (fun b => ok0 b ∧ some b ≠ some g) y → Calls P f #[.agg (K.enc x).toArray, .agg (K.enc y).toArray] W fun e W' => e = .returned (.int .i64 (cf x y)) ∧ Ext W W') :
    Calls P (ρ.f 6) #[.slice (some ⟨g, 0, none⟩) hs.length cap, .func (.func f) #[] #[]] w fun r w' => r = .returned (.tuple #[]) ∧ ∃ hs' : List α, hs'.Perm hs ∧ hs'.Pairwise (fun x y => ¬ cf y x < 0) ∧ OwnG K e w' base ok0 (.slice (some ⟨g, 0, none⟩) hs.length cap) hs' ∧ w.grownBy w' (some g) := by
  have hlies : ∀ p ∈ hs, K.lies w (fun b => ok0 b ∧ some b ≠ some g) p := h.lies
  haveI : Inhabited { p : α // K.lies w (fun b => ok0 b ∧ some b ≠ some g) p } := ⟨⟨h0, hl0 _ _⟩⟩
  have hgb : g < w.heap.size := (h.lt rfl).2
  obtain ⟨d, hd⟩ : ∃ d : Array { p : α // K.lies w (fun b => ok0 b ∧ some b ≠ some g) p }, d = (hs.attach.map (fun x => (⟨x.1, hlies x.1 x.2⟩ : { p : α // K.lies w (fun b => ok0 b ∧ some b ≠ some g) p }))).toArray := ⟨_, rfl⟩
  have hdm : d.toList.map (fun x => x.1) = hs := by rw [hd]; simp
  have hds : d.size = hs.length := by rw [hd]; simp
  have hkl : ∀ x : { p : α // K.lies w (fun b => ok0 b ∧ some b ≠ some g) p }, (K.enc x.1).length = K.size := fun x => K.len x.1
  have hfl : ∀ d' : Array { p : α // K.lies w (fun b => ok0 b ∧ some b ≠ some g) p }, (flatK (fun x => K.enc x.1) K.size d').toList = (d'.toList.map (fun x => x.1)).flatMap K.enc := fun d' => by
    rw [flatK_toList (fun x : { p : α // K.lies w (fun b => ok0 b ∧ some b ≠ some g) p } => K.enc x.1) K.size hkl d', List.flatMap_map]
  have hkeep : ∀ (m : Nat) (dk : Array { p : α // K.lies w (fun b => ok0 b ∧ some b ≠ some g) p }) (os : Array Obj) (x : α), K.lies w (fun b => ok0 b ∧ some b ≠ some g) x → K.lies (sortWorldK (fun x => K.enc x.1) K.size w g 0 m dk os) (fun b => ok0 b ∧ some b ≠ some g) x := fun m dk os x hx =>
    K.keep _ _ _ _ _ (fun b o y hb hcell => ⟨(grown_sortWorldK (fun x : { p : α // K.lies w (fun b => ok0 b ∧ some b ≠ some g) p } => K.enc x.1) K.size w g m dk os).cell hcell (fun e2 => hb.2 e2), hb⟩) hx
  have hcmp : CmpLays P f #[] (fun x : { p : α // K.lies w (fun b => ok0 b ∧ some b ≠ some g) p } => K.enc x.1) K.size (fun x y => cf x.1 y.1) g 0 d.size w := fun m os dk _ x y =>
    calls_grow (hc _ x.1 y.1 (grown_sortWorldK _ K.size w g m dk os) (hkeep m dk os _ x.2) (hkeep m dk os _ y.2))
  have hH : HoldsK (fun x : { p : α // K.lies w (fun b => ok0 b ∧ some b ≠ some g) p } => K.enc x.1) K.size w g 0 d := fun j hj => by
    have hj' : j < hs.length * K.size := by rw [← hds]; simpa using hj
    have h1 := World.ownsRow.cellAt h.own j hj'
    have h2 := hfl d
    rw [hdm] at h2
    rw [Nat.zero_add]
    refine ⟨?_, World.ownsRow.frozenAt h.own j⟩
    rw [h1, ← h2, getElem!_pos (flatK (fun x : { p : α // K.lies w (fun b => ok0 b ∧ some b ≠ some g) p } => K.enc x.1) K.size d) j hj]
    simp
  have hO' : SWO (ltOf (fun x y : { p : α // K.lies w (fun b => ok0 b ∧ some b ≠ some g) p } => cf x.1 y.1)) := ⟨fun x => hO.irrefl x.1, fun x y z => hO.trans x.1 y.1 z.1, fun x y z => hO.ntrans x.1 y.1 z.1⟩
  have H := AnyQ.slices_SortFunc (P := P) (ρ := ρ) L K.size aE zE (fun x : { p : α // K.lies w (fun b => ok0 b ∧ some b ≠ some g) p } => K.enc x.1) hkl (fun x => K.one x.1) (fun x y => cf x.1 y.1) hO' f #[] g 0 cap d w eg hcmp hH hgb (by omega)
  rw [hds] at H
  refine H.mono ?_
  rintro r w' ⟨rfl, d', n, os, hp, hsd, rfl⟩
  have hps : d'.size = d.size := hp.1
  have hperm : d'.toList.Perm d.toList := by
    have h3 := hp.2.2
    rw [← hds] at h3
    have e1 : d'.extract 0 d.size = d' := by rw [← hps]; simp
    have e2 : d.extract 0 d.size = d := by simp
    rw [e1, e2] at h3; exact h3
  refine ⟨rfl, d'.toList.map (fun x => x.1), by have := hperm.map (fun x => x.1); rwa [hdm] at this, ?_, ⟨?_, fun p hpm => ?_⟩, grown_sortWorldK _ K.size w g n d' os⟩
  · refine List.pairwise_map.2 (List.pairwise_iff_getElem.2 (fun i j hi hj hij => ?_))
    have h4 := hsd i j (Nat.zero_le _) hij (by rw [← hds, ← hps]; simpa using hj)
    rw [getElem!_pos d' i (by simpa using hi), getElem!_pos d' j (by simpa using hj)] at h4
    simpa [ltOf] using h4
  · rcases h.own.2 with ⟨hv, -⟩ | ⟨g', cap', cur, hv, hb, hh, hcp, hm, hcs, htk⟩
    · simp at hv
    · simp only [Value.slice.injEq, Option.some.injEq, Addr.mk.injEq, and_true, true_and] at hv
      obtain ⟨rfl, rfl⟩ := hv
      have hlen : (d'.toList.map (fun x => x.1)).length = hs.length := by simp [hps, hds]
      refine ⟨by rw [flat_len K.enc K.size K.len], .inr ⟨g, cap, _, by rw [hlen], hb, heap_sortWorldK _ K.size w g n d' os hh, by rw [hlen]; exact hcp, hm, by unfold putCells; simpa using hcs, ?_⟩⟩
      rw [← hfl d']
      apply List.ext_getElem?
      intro t
      rw [hlen]
      have hfs : (flatK (fun x : { p : α // K.lies w (fun b => ok0 b ∧ some b ≠ some g) p } => K.enc x.1) K.size d').size = hs.length * K.size := by rw [size_flatK, hps, hds]
      have hle : hs.length * K.size ≤ cur.size := by rw [hcs]; exact Nat.mul_le_mul_right _ hcp
      rcases Nat.lt_or_ge t (hs.length * K.size) with ht | ht
      · have hR : (flatK (fun x : { p : α // K.lies w (fun b => ok0 b ∧ some b ≠ some g) p } => K.enc x.1) K.size d').toList[t]? = some (flatK (fun x : { p : α // K.lies w (fun b => ok0 b ∧ some b ≠ some g) p } => K.enc x.1) K.size d')[t]! := by
          rw [Array.getElem?_toList, Array.getElem?_eq_getElem (by rw [hfs]; exact ht), getElem!_pos _ t (by rw [hfs]; exact ht)]
        rw [List.getElem?_take, if_pos ht, hR, Array.getElem?_toList]
        unfold putCells
        rw [Array.getElem?_mapIdx, Array.getElem?_eq_getElem (by omega)]
        simp only [Option.map_some, Nat.zero_le, true_and, Nat.zero_add, Nat.sub_zero, id_eq]
        rw [if_pos (by rw [hfs]; exact ht)]
      · rw [List.getElem?_eq_none (by rw [List.length_take]; omega), List.getElem?_eq_none (by rw [Array.length_toList, hfs]; exact ht)]
  · obtain ⟨x, -, rfl⟩ := List.mem_map.1 hpm
    exact hkeep n d' os x.1 x.2
end
end Go.Proofs.YtigmdddeplnciaaGreatDoor
