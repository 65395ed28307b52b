/- PARTS OF THE WALKS, joined: Gg, OwnD, CpJ, CoT, CoU. -/
import Derived.Test.YtnheioehadldmaaGreatS16
import Derived.Test.YtnheioehadldmaaGreatS09
import Derived.Test.YtnheioehadldmaaGreatS04
import Derived.Test.YtnheioehadldmaaGreatS08
import Derived.Test.YtnheioehadldmaaGreatS15
/- THE WALK over graph.Check. -/
namespace Go.Proofs.YtnheioehadldmaaGreat
open Go.RowKit
theorem gr_parts0 (P : List PropG) (ok : Nat → Prop) (B : Option Addr) (d : Nat) (w : World) (hp : Props w ok B P) :
    Calls Tryz.prog 47 #[.slice none 0 0, .slice B P.length d] w fun e w' => e = .returned (.int .i64 (partsE [] P)) ∧ Ext w w' :=
  gr_parts [] P ok ok none B 0 d w (SliceR.nil _ _ _) hp
set_option maxRecDepth 100000 in
set_option maxHeartbeats 6400000 in
theorem gr_Check (g : GraphG) (ok : Nat → Prop) (A B : Option Addr) (c d : Nat) (w : World) (hg : GraphAt w ok A B g) :
    Calls Tryz.prog 20 #[.agg #[.slice A g.nodes.length c, .slice B g.edges.length d, .int .i64 g.nn, .int .i64 g.ne]] w fun e w' => e = .returned (.int .i64 (chkG g)) ∧ Ext w w' := by
  have hm := hg.nodes.len
  have hm2 := hg.edges.len
  obtain ⟨q, w1, hq, hw1, g0, g1, g2, g3, hx1⟩ := box_graph w A B c d g 25
  have HW1 := Lib.hid hw1
  have HG := Lib.hid hq
  have HGA := Lib.hid (hg.ext hx1)
  clear hw1 hq hg
  by_cases h1 : 2000 < g.nodes.length ∨ 4000 < g.edges.length
  · have HR := Lib.hid (show chkG g = 4 by have : headE g = 4 := by unfold headE; rw [if_pos h1]
                                           rw [chkG_head (by omega), this])
    rcases h1 with h1 | h1
    all_goals
      go_enter Tryz.func20, Tryz.ntmps20
      go_upto_region 1 with (fail)
      rw [← HW1.out, ← HG.out]
      clear HW1 HG
      go_wp2_with fail
      all_goals
        go_ret
        exact ⟨ret_int HR.out.symm, hx1.trans (by solve_by_elim [X0, X1, X2, X3])⟩
  · have a1 : g.nodes.length ≤ 2000 := by omega
    have a2 : g.edges.length ≤ 4000 := by omega
    by_cases h2 : g.nn < 1 ∨ 1000001 < g.nn ∨ g.ne < 1 ∨ 1000001 < g.ne
    · have HR := Lib.hid (show chkG g = 1 by have : headE g = 1 := by unfold headE; rw [if_neg h1, if_pos h2]
                                             rw [chkG_head (by omega), this])
      clear h1
      rcases h2 with h2 | h2 | h2 | h2
      all_goals
        go_enter Tryz.func20, Tryz.ntmps20
        go_upto_region 1 with (fail)
        rw [← HW1.out, ← HG.out]
        clear HW1 HG
        go_wp2_with fail
        all_goals
          go_ret
          exact ⟨ret_int HR.out.symm, hx1.trans (by solve_by_elim [X0, X1, X2, X3])⟩
    · have HH := Lib.hid (show headE g = 0 by unfold headE; rw [if_neg h1, if_neg h2])
      have b1 : 1 ≤ g.nn := by omega
      have b2 : g.nn ≤ 1000001 := by omega
      have b3 : 1 ≤ g.ne := by omega
      have b4 : g.ne ≤ 1000001 := by omega
      clear h1 h2
      go_enter Tryz.func20, Tryz.ntmps20
      go_upto_region 1 with (fail)
      rw [← HW1.out, ← HG.out]
      clear HW1 HG
      go_wp2_with fail
      go_loopw [40] (fun u W => ∃ k : Nat, u = .int .i64 k ∧ k ≤ g.nodes.length ∧ Hid (∀ t, t < k → nodeE g t = 0) ∧ Ext w1 W) (fun u _ => g.nodes.length - (intOf u).toNat)
      case atStart => exact ⟨0, rfl, Nat.zero_le _, Lib.hid (fun t ht => absurd ht (by omega)), (by solve_by_elim [X0, X1, X2, X3])⟩
      case round =>
        obtain ⟨k, rfl, hk, hgd, hEr⟩ := hrel
        have g0' := hEr.cell g0
        have g1' := hEr.cell g1
        have g2' := hEr.cell g2
        have g3' := hEr.cell g3
        by_cases hlt : k < g.nodes.length
        · obtain ⟨b, o, rfl, hc⟩ := HGA.out.nodes.at_ hlt
          obtain ⟨-, d0, A', c', B', d', d1, -, hS, d2, -, hP⟩ := hc k hlt
          replace d0 := hEr.cell d0
          replace d1 := hEr.cell d1
          replace d2 := hEr.cell d2
          obtain ⟨q2, w2, hq2, hw2, n0, n1, n2, hx2⟩ := box_node wr g.nodes[k]!.id A' B' g.nodes[k]!.labels.length c' g.nodes[k]!.props.length d' 54
          have HP := Lib.hid (fun W (e : Ext w2 W) => gr_parts g.nodes[k]!.labels g.nodes[k]!.props ok ok A' B' c' d' W (hS.ext ((hEr.trans hx2).trans e)) (hP.ext ((hEr.trans hx2).trans e)))
          have hpv : 0 < k → w2.cell? ⟨b, o + (k - 1) * 3, none⟩ = some (.int .i64 g.nodes[k - 1]!.id) := fun h => by
            obtain ⟨-, e0, -⟩ := hc (k - 1) (by omega)
            exact hx2.cell (hEr.cell e0)
          have G0 := hx2.cell g0'
          have G1 := hx2.cell g1'
          have G2 := hx2.cell g2'
          have G3 := hx2.cell g3'
          have HS := Lib.hid (fun (h : nodeE g k = 0) t (ht : t < k + 1) => (if e : t = k then (by rw [e]; exact h) else hgd.out t (by omega) : nodeE g t = 0))
          have HX := Lib.hid (fun (h : nodeE g k ≠ 0) => chkG_nodes HH.out (firstE_at hgd.out h hlt) h)
          obtain ⟨E, hE⟩ : ∃ E, E = nodeE g k := ⟨_, rfl⟩
          rw [← hE] at HS HX
          have HW2 := Lib.hid hw2
          have HQ2 := Lib.hid hq2
          clear hc hgd hw2 hq2 hP hS
          rcases Nat.eq_zero_or_pos k with hz | hz
          · subst hz
            clear hpv
            rw [Nat.zero_mul, Nat.add_zero] at d0 d1 d2
            have HE1 := Lib.hid (fun h => nodeE_1 (g := g) (i := 0) (fun h => absurd h (Nat.lt_irrefl _)) h)
            have HEP := Lib.hid (fun h1 h2 => nodeE_p (g := g) (i := 0) (fun h => absurd h (Nat.lt_irrefl _)) h1 h2)
            rw [← hE] at HE1 HEP
            clear hE
            generalize g.nodes[0]! = x at *
            generalize partsE x.labels x.props = z at *
            go_upto_region 8 with (fail)
            rw [← HW2.out, ← HQ2.out]
            clear HW2 HQ2 g0' g1' g2' g3'
            have MKR1 := Lib.hid (fun V (e : Ext w2 V) => (e : Ext w2 V))
            refine wp_region_held_drew (S := (fun V => Ext w2 V)) (by kernel_rfl) ?hs1 (fun hHeld => ?go1)
            case hs1 => (exact MKR1.out _ (by solve_by_elim [X0, X1, X2, X3]))
            refine TK 0 (v := ?v2) hHeld ?hy2 ?_
            case hy2 => (intro w _; go_simp <;> rfl)
            (try simp only [PU])
            refine TK 1 (v := ?v3) hHeld ?hy3 ?_
            case hy3 => (intro w _; go_simp <;> first | with_reducible rfl | rw [if_neg (by omega)] | rw [if_pos (by omega)])
            (try simp only [PU])
            refine TK 2 (v := ?v4) hHeld ?hy4 ?_
            case hy4 => (intro w _; go_simp <;> rfl)
            (try simp only [PU])
            refine TN 3 hHeld ?_
            (try simp only [PU])
            refine TN 4 hHeld ?_
            (try simp only [PU])
            refine TN 5 hHeld ?_
            (try simp only [PU])
            refine TN 6 hHeld ?_
            (try simp only [PU])
            refine TN 7 hHeld ?_
            (try simp only [PU])
            refine TN 8 hHeld ?_
            (try simp only [PU])
            refine TN 9 hHeld ?_
            (try simp only [PU])
            refine TN 10 hHeld ?_
            (try simp only [PU])
            refine TN 11 hHeld ?_
            (try simp only [PU])
            refine TN 12 hHeld ?_
            (try simp only [PU])
            refine TK 13 (v := ?v15) hHeld ?hy15 ?_
            case hy15 => (intro w _; go_simp <;> rfl)
            (try simp only [PU])
            refine wpAnyH_done (by kernel_rfl) ?_ _
            clear hHeld
            clear MKR1
            have gE : Ext w2 w2.drew := (Ext.refl _).drew
            have j0 := gE.cell n0
            have j1 := gE.cell n1
            have j2 := gE.cell n2
            have k0 := gE.cell G0
            have k1 := gE.cell G1
            have k2 := gE.cell G2
            have k3 := gE.cell G3
            by_cases h1 : x.id < 1
            · have HT := Lib.hid (HX.out (by rw [HE1.out (.inl h1)]; decide))
              rw [HE1.out (.inl h1)] at HT
              go_wp2_with fail
              go_ret
              exact ⟨ret_int HT.out.symm, (hx1.trans (hEr.trans (hx2.trans (by solve_by_elim [X0, X1, X2, X3]))))⟩
            · by_cases h2 : g.nn ≤ x.id
              · have HT := Lib.hid (HX.out (by rw [HE1.out (.inr h2)]; decide))
                rw [HE1.out (.inr h2)] at HT
                go_wp2_with fail
                go_ret
                exact ⟨ret_int HT.out.symm, (hx1.trans (hEr.trans (hx2.trans (by solve_by_elim [X0, X1, X2, X3]))))⟩
              · have HZ := Lib.hid (HEP.out (by omega) (by omega))
                clear HE1 HEP
                rw [HZ.out] at HS HX
                by_cases he : z = 0
                · have HT := Lib.hid (HS.out he)
                  have he2 : (z != 0) = false := by rw [he]; rfl
                  clear HS HX HZ he
                  go_wp2_with (go_at_call 47; ((with_reducible refine (HP.out _ (by solve_by_elim [X0, X1, X2, X3])).mono ?_); rintro e w8 ⟨rfl, hx8⟩; replace hx8 : Ext w2 w8 := Ext.trans (by solve_by_elim [X0, X1, X2, X3]) hx8))
                  go_roundw
                  case rel => exact ⟨0 + 1, rfl, by omega, HT, hEr.trans (hx2.trans hx8)⟩
                  case measure => simp [intOf]; omega
                · have HT := Lib.hid (HX.out he)
                  have he2 : (z != 0) = true := bne_iff_ne.2 he
                  clear HS HX he
                  go_wp2_with (go_at_call 47; ((with_reducible refine (HP.out _ (by solve_by_elim [X0, X1, X2, X3])).mono ?_); rintro e w8 ⟨rfl, hx8⟩; replace hx8 : Ext w2 w8 := Ext.trans (by solve_by_elim [X0, X1, X2, X3]) hx8))
                  go_ret
                  exact ⟨ret_int HT.out.symm, hx1.trans (hEr.trans (hx2.trans hx8))⟩
          · replace hpv := hpv hz
            by_cases hlo : g.nodes[k - 1]!.id < g.nodes[k]!.id
            · have HE1 := Lib.hid (fun h => nodeE_1 (g := g) (i := k) (fun _ => hlo) h)
              have HEP := Lib.hid (fun h1 h2 => nodeE_p (g := g) (i := k) (fun _ => hlo) h1 h2)
              rw [← hE] at HE1 HEP
              clear hE
              generalize g.nodes[k]! = x at *
              generalize g.nodes[k - 1]! = y at *
              generalize partsE x.labels x.props = z at *
              have ho : ¬ x.id ≤ y.id := by omega
              clear hlo
              go_upto_region 8 with (fail)
              rw [← HW2.out, ← HQ2.out]
              clear HW2 HQ2 g0' g1' g2' g3'
              have p0 : 0 < k := by omega
              have p1 : (1 : Int) ≤ (k : Int) := by omega
              have p2 : ((k : Int) - 1).toNat = k - 1 := by omega
              have p5 : IntKind.i64.wrap ((k : Int) - 1) = (k : Int) - 1 := IntWalk.i64_in _ (by omega)
              have p6 : ((k : Int) - 1) < (g.nodes.length : Int) := by omega
              have MKR2 := Lib.hid (fun V (e : Ext w2 V) => (⟨e.cell G0, e.cell n0, e.cell hpv, e⟩ : V.cell? ⟨q, 0, none⟩ = some (.slice (some ⟨b, o, none⟩) g.nodes.length c) ∧ V.cell? ⟨q2, 0, none⟩ = some (.int .i64 x.id) ∧ V.cell? ⟨b, o + (k - 1) * 3, none⟩ = some (.int .i64 y.id) ∧ Ext w2 V))
              refine wp_region_held_drew (S := (fun V => V.cell? ⟨q, 0, none⟩ = some (.slice (some ⟨b, o, none⟩) g.nodes.length c) ∧ V.cell? ⟨q2, 0, none⟩ = some (.int .i64 x.id) ∧ V.cell? ⟨b, o + (k - 1) * 3, none⟩ = some (.int .i64 y.id) ∧ Ext w2 V)) (by kernel_rfl) ?hs16 (fun hHeld => ?go16)
              case hs16 => (exact MKR2.out _ (by solve_by_elim [X0, X1, X2, X3]))
              refine TK 0 (v := ?v17) hHeld ?hy17 ?_
              case hy17 => (intro w _; go_simp <;> rfl)
              (try simp only [PU])
              refine TK 1 (v := ?v18) hHeld ?hy18 ?_
              case hy18 => (intro w _; go_simp <;> first | with_reducible rfl | rw [if_neg (by omega)] | rw [if_pos (by omega)])
              (try simp only [PU])
              refine TK 2 (v := ?v19) hHeld ?hy19 ?_
              case hy19 => (intro w _; go_simp <;> rfl)
              (try simp only [PU])
              refine TK 3 (v := ?v20) hHeld ?hy20 ?_
              case hy20 => (intro w _; go_simp <;> rfl)
              (try simp only [PU])
              refine TK 4 (v := ?v21) hHeld ?hy21 ?_
              case hy21 => (intro w hSw; (try dsimp only at hSw); go_simp <;> first | with_reducible rfl | rw [if_neg (by omega)] | rw [if_pos (by omega)])
              (try simp only [PU])
              refine TK 5 (v := ?v22) hHeld ?hy22 ?_
              case hy22 => (intro w _; go_simp <;> rfl)
              (try simp only [PU])
              refine TK 6 (v := ?v23) hHeld ?hy23 ?_
              case hy23 => (intro w hSw; (try dsimp only at hSw); go_simp <;> first | with_reducible rfl | rw [if_neg (by omega)] | rw [if_pos (by omega)])
              (try simp only [PU])
              refine TK 7 (v := ?v24) hHeld ?hy24 ?_
              case hy24 => (intro w _; go_simp <;> rfl)
              (try simp only [PU])
              refine TK 8 (v := ?v25) hHeld ?hy25 ?_
              case hy25 => (intro w _; go_simp <;> first | with_reducible rfl | rw [if_neg (by omega)] | rw [if_pos (by omega)])
              (try simp only [PU])
              refine TK 9 (v := ?v26) hHeld ?hy26 ?_
              case hy26 => (intro w _; go_simp <;> first | with_reducible rfl | rw [if_neg (by omega)] | rw [if_pos (by omega)])
              (try simp only [PU])
              refine TK 10 (v := ?v27) hHeld ?hy27 ?_
              case hy27 => (intro w _; go_simp <;> rfl)
              (try simp only [PU])
              refine TK 11 (v := ?v28) hHeld ?hy28 ?_
              case hy28 => (intro w hSw; (try dsimp only at hSw); go_simp <;> first | with_reducible rfl | rw [if_neg (by omega)] | rw [if_pos (by omega)])
              (try simp only [PU])
              refine TK 12 (v := ?v29) hHeld ?hy29 ?_
              case hy29 => (intro w _; go_simp <;> first | with_reducible rfl | rw [if_neg (by omega)] | rw [if_pos (by omega)])
              (try simp only [PU])
              refine TK 13 (v := ?v30) hHeld ?hy30 ?_
              case hy30 => (intro w _; go_simp <;> rfl)
              (try simp only [PU])
              refine wpAnyH_done (by kernel_rfl) ?_ _
              clear hHeld
              clear MKR2
              clear p0 p1 p2 p5 p6 ho hpv
              have gE : Ext w2 w2.drew := (Ext.refl _).drew
              have j0 := gE.cell n0
              have j1 := gE.cell n1
              have j2 := gE.cell n2
              have k0 := gE.cell G0
              have k1 := gE.cell G1
              have k2 := gE.cell G2
              have k3 := gE.cell G3
              by_cases h1 : x.id < 1
              · have HT := Lib.hid (HX.out (by rw [HE1.out (.inl h1)]; decide))
                rw [HE1.out (.inl h1)] at HT
                go_wp2_with fail
                go_ret
                exact ⟨ret_int HT.out.symm, (hx1.trans (hEr.trans (hx2.trans (by solve_by_elim [X0, X1, X2, X3]))))⟩
              · by_cases h2 : g.nn ≤ x.id
                · have HT := Lib.hid (HX.out (by rw [HE1.out (.inr h2)]; decide))
                  rw [HE1.out (.inr h2)] at HT
                  go_wp2_with fail
                  go_ret
                  exact ⟨ret_int HT.out.symm, (hx1.trans (hEr.trans (hx2.trans (by solve_by_elim [X0, X1, X2, X3]))))⟩
                · have HZ := Lib.hid (HEP.out (by omega) (by omega))
                  clear HE1 HEP
                  rw [HZ.out] at HS HX
                  by_cases he : z = 0
                  · have HT := Lib.hid (HS.out he)
                    have he2 : (z != 0) = false := by rw [he]; rfl
                    clear HS HX HZ he
                    go_wp2_with (go_at_call 47; ((with_reducible refine (HP.out _ (by solve_by_elim [X0, X1, X2, X3])).mono ?_); rintro e w8 ⟨rfl, hx8⟩; replace hx8 : Ext w2 w8 := Ext.trans (by solve_by_elim [X0, X1, X2, X3]) hx8))
                    go_roundw
                    case rel => exact ⟨k + 1, by go_num, by omega, HT, hEr.trans (hx2.trans hx8)⟩
                    case measure => simp [intOf]; omega
                  · have HT := Lib.hid (HX.out he)
                    have he2 : (z != 0) = true := bne_iff_ne.2 he
                    clear HS HX he
                    go_wp2_with (go_at_call 47; ((with_reducible refine (HP.out _ (by solve_by_elim [X0, X1, X2, X3])).mono ?_); rintro e w8 ⟨rfl, hx8⟩; replace hx8 : Ext w2 w8 := Ext.trans (by solve_by_elim [X0, X1, X2, X3]) hx8))
                    go_ret
                    exact ⟨ret_int HT.out.symm, hx1.trans (hEr.trans (hx2.trans hx8))⟩
            · have HT := Lib.hid (HX.out (by rw [hE, nodeE_26 hz (by omega)]; decide))
              rw [hE, nodeE_26 hz (by omega)] at HT
              clear hE HS HX HP
              generalize g.nodes[k]! = x at *
              generalize g.nodes[k - 1]! = y at *
              have ho : x.id ≤ y.id := by omega
              clear hlo
              go_upto_region 8 with (fail)
              rw [← HW2.out, ← HQ2.out]
              clear HW2 HQ2 g0' g1' g2' g3'
              have p0 : 0 < k := by omega
              have p1 : (1 : Int) ≤ (k : Int) := by omega
              have p2 : ((k : Int) - 1).toNat = k - 1 := by omega
              have p5 : IntKind.i64.wrap ((k : Int) - 1) = (k : Int) - 1 := IntWalk.i64_in _ (by omega)
              have p6 : ((k : Int) - 1) < (g.nodes.length : Int) := by omega
              have MKR3 := Lib.hid (fun V (e : Ext w2 V) => (⟨e.cell G0, e.cell n0, e.cell hpv, e⟩ : V.cell? ⟨q, 0, none⟩ = some (.slice (some ⟨b, o, none⟩) g.nodes.length c) ∧ V.cell? ⟨q2, 0, none⟩ = some (.int .i64 x.id) ∧ V.cell? ⟨b, o + (k - 1) * 3, none⟩ = some (.int .i64 y.id) ∧ Ext w2 V))
              refine wp_region_held_drew (S := (fun V => V.cell? ⟨q, 0, none⟩ = some (.slice (some ⟨b, o, none⟩) g.nodes.length c) ∧ V.cell? ⟨q2, 0, none⟩ = some (.int .i64 x.id) ∧ V.cell? ⟨b, o + (k - 1) * 3, none⟩ = some (.int .i64 y.id) ∧ Ext w2 V)) (by kernel_rfl) ?hs31 (fun hHeld => ?go31)
              case hs31 => (exact MKR3.out _ (by solve_by_elim [X0, X1, X2, X3]))
              refine TK 0 (v := ?v32) hHeld ?hy32 ?_
              case hy32 => (intro w _; go_simp <;> rfl)
              (try simp only [PU])
              refine TK 1 (v := ?v33) hHeld ?hy33 ?_
              case hy33 => (intro w _; go_simp <;> first | with_reducible rfl | rw [if_neg (by omega)] | rw [if_pos (by omega)])
              (try simp only [PU])
              refine TK 2 (v := ?v34) hHeld ?hy34 ?_
              case hy34 => (intro w _; go_simp <;> rfl)
              (try simp only [PU])
              refine TK 3 (v := ?v35) hHeld ?hy35 ?_
              case hy35 => (intro w _; go_simp <;> rfl)
              (try simp only [PU])
              refine TK 4 (v := ?v36) hHeld ?hy36 ?_
              case hy36 => (intro w hSw; (try dsimp only at hSw); go_simp <;> first | with_reducible rfl | rw [if_neg (by omega)] | rw [if_pos (by omega)])
              (try simp only [PU])
              refine TK 5 (v := ?v37) hHeld ?hy37 ?_
              case hy37 => (intro w _; go_simp <;> rfl)
              (try simp only [PU])
              refine TK 6 (v := ?v38) hHeld ?hy38 ?_
              case hy38 => (intro w hSw; (try dsimp only at hSw); go_simp <;> first | with_reducible rfl | rw [if_neg (by omega)] | rw [if_pos (by omega)])
              (try simp only [PU])
              refine TK 7 (v := ?v39) hHeld ?hy39 ?_
              case hy39 => (intro w _; go_simp <;> rfl)
              (try simp only [PU])
              refine TK 8 (v := ?v40) hHeld ?hy40 ?_
              case hy40 => (intro w _; go_simp <;> first | with_reducible rfl | rw [if_neg (by omega)] | rw [if_pos (by omega)])
              (try simp only [PU])
              refine TK 9 (v := ?v41) hHeld ?hy41 ?_
              case hy41 => (intro w _; go_simp <;> first | with_reducible rfl | rw [if_neg (by omega)] | rw [if_pos (by omega)])
              (try simp only [PU])
              refine TK 10 (v := ?v42) hHeld ?hy42 ?_
              case hy42 => (intro w _; go_simp <;> rfl)
              (try simp only [PU])
              refine TK 11 (v := ?v43) hHeld ?hy43 ?_
              case hy43 => (intro w hSw; (try dsimp only at hSw); go_simp <;> first | with_reducible rfl | rw [if_neg (by omega)] | rw [if_pos (by omega)])
              (try simp only [PU])
              refine TK 12 (v := ?v44) hHeld ?hy44 ?_
              case hy44 => (intro w _; go_simp <;> first | with_reducible rfl | rw [if_neg (by omega)] | rw [if_pos (by omega)])
              (try simp only [PU])
              refine TK 13 (v := ?v45) hHeld ?hy45 ?_
              case hy45 => (intro w _; go_simp <;> rfl)
              (try simp only [PU])
              refine wpAnyH_done (by kernel_rfl) ?_ _
              clear hHeld
              clear MKR3
              go_wp2_with fail
              go_ret
              exact ⟨ret_int HT.out.symm, (hx1.trans (hEr.trans (hx2.trans (by solve_by_elim [X0, X1, X2, X3]))))⟩
        · have HNZ := Lib.hid (show nodesE g = 0 from firstE_zero (fun t ht => hgd.out t (by omega)))
          have HST := Lib.hid (fun (i j : Nat) (hij : i < j) (hj : j < g.nodes.length) => nodes_lt HNZ.out hij hj)
          have hE0 := hEr
          clear hgd hEr
          go_wp2_with fail
          clear g0' g1' g2' g3'
          go_loopw [81] (fun u W => ∃ k : Nat, u = .int .i64 k ∧ k ≤ g.edges.length ∧ Hid (∀ t, t < k → edgeE g t = 0) ∧ Ext w1 W) (fun u _ => g.edges.length - (intOf u).toNat)
          case atStart => exact ⟨0, rfl, Nat.zero_le _, Lib.hid (fun t ht => absurd ht (by omega)), hE0⟩
          case round =>
            clear hE0
            obtain ⟨k, rfl, hk, hgd, hEr⟩ := hrel
            have g0' := hEr.cell g0
            have g1' := hEr.cell g1
            have g2' := hEr.cell g2
            have g3' := hEr.cell g3
            by_cases hlt : k < g.edges.length
            · obtain ⟨b, o, rfl, hc⟩ := HGA.out.edges.at_ hlt
              obtain ⟨-, d0, d1, d2, d3, B', d', d4, -, hP⟩ := hc k hlt
              replace d0 := hEr.cell d0
              replace d1 := hEr.cell d1
              replace d2 := hEr.cell d2
              replace d3 := hEr.cell d3
              replace d4 := hEr.cell d4
              obtain ⟨q2, w2, hq2, hw2, n0, n1, n2, n3, n4, hx2⟩ := box_edge wr g.edges[k]! B' d' 58
              have HP := Lib.hid (fun W (e : Ext w2 W) => gr_parts0 g.edges[k]!.props ok B' d' W (hP.ext ((hEr.trans hx2).trans e)))
              have HN1 := Lib.hid (fun W (e : Ext w2 W) => gr_has g.nodes ok A c g.edges[k]!.frm W (HGA.out.nodes.ext ((hEr.trans hx2).trans e)) HST.out)
              have HN2 := Lib.hid (fun W (e : Ext w2 W) => gr_has g.nodes ok A c g.edges[k]!.to_ W (HGA.out.nodes.ext ((hEr.trans hx2).trans e)) HST.out)
              have HNM := Lib.hid (fun W => g_Name g.edges[k]!.typ W)
              have hpv : 0 < k → w2.cell? ⟨b, o + (k - 1) * 5, none⟩ = some (.int .i64 g.edges[k - 1]!.id) := fun h => by
                obtain ⟨-, e0, -⟩ := hc (k - 1) (by omega)
                exact hx2.cell (hEr.cell e0)
              have G0 := hx2.cell g0'
              have G1 := hx2.cell g1'
              have G2 := hx2.cell g2'
              have G3 := hx2.cell g3'
              have HS := Lib.hid (fun (h : edgeE g k = 0) t (ht : t < k + 1) => (if e : t = k then (by rw [e]; exact h) else hgd.out t (by omega) : edgeE g t = 0))
              have HX := Lib.hid (fun (h : edgeE g k ≠ 0) => chkG_edges HH.out HNZ.out (firstE_at hgd.out h hlt))
              obtain ⟨E, hE⟩ : ∃ E, E = edgeE g k := ⟨_, rfl⟩
              rw [← hE] at HS HX
              have HW2 := Lib.hid hw2
              have HQ2 := Lib.hid hq2
              clear hc hgd hw2 hq2 hP
              rcases Nat.eq_zero_or_pos k with hz | hz
              · subst hz
                clear hpv
                rw [Nat.zero_mul, Nat.add_zero] at d0 d1 d2 d3 d4
                have HE1 := Lib.hid (fun h => edgeE_1 (g := g) (i := 0) (fun h => absurd h (Nat.lt_irrefl _)) h)
                have HEP := Lib.hid (fun h1 h2 => edgeE_p (g := g) (i := 0) (fun h => absurd h (Nat.lt_irrefl _)) h1 h2)
                rw [← hE] at HE1 HEP
                clear hE
                generalize g.edges[0]! = x at *
                generalize partsE [] x.props = z at *
                generalize hasN g.nodes x.frm = b1 at *
                generalize hasN g.nodes x.to_ = b2 at *
                generalize nameB x.typ = b3 at *
                go_upto_region 19 with (fail)
                rw [← HW2.out, ← HQ2.out]
                clear HW2 HQ2 g0' g1' g2' g3'
                have MKR4 := Lib.hid (fun V (e : Ext w2 V) => (e : Ext w2 V))
                refine wp_region_held_drew (S := (fun V => Ext w2 V)) (by kernel_rfl) ?hs46 (fun hHeld => ?go46)
                case hs46 => (exact MKR4.out _ (by solve_by_elim [X0, X1, X2, X3]))
                refine TK 0 (v := ?v47) hHeld ?hy47 ?_
                case hy47 => (intro w _; go_simp <;> rfl)
                (try simp only [PU])
                refine TK 1 (v := ?v48) hHeld ?hy48 ?_
                case hy48 => (intro w _; go_simp <;> first | with_reducible rfl | rw [if_neg (by omega)] | rw [if_pos (by omega)])
                (try simp only [PU])
                refine TK 2 (v := ?v49) hHeld ?hy49 ?_
                case hy49 => (intro w _; go_simp <;> rfl)
                (try simp only [PU])
                refine TN 3 hHeld ?_
                (try simp only [PU])
                refine TN 4 hHeld ?_
                (try simp only [PU])
                refine TN 5 hHeld ?_
                (try simp only [PU])
                refine TN 6 hHeld ?_
                (try simp only [PU])
                refine TN 7 hHeld ?_
                (try simp only [PU])
                refine TN 8 hHeld ?_
                (try simp only [PU])
                refine TN 9 hHeld ?_
                (try simp only [PU])
                refine TN 10 hHeld ?_
                (try simp only [PU])
                refine TN 11 hHeld ?_
                (try simp only [PU])
                refine TN 12 hHeld ?_
                (try simp only [PU])
                refine TK 13 (v := ?v60) hHeld ?hy60 ?_
                case hy60 => (intro w _; go_simp <;> rfl)
                (try simp only [PU])
                refine wpAnyH_done (by kernel_rfl) ?_ _
                clear hHeld
                clear MKR4
                have gE : Ext w2 w2.drew := (Ext.refl _).drew
                have j0 := gE.cell n0
                have j1 := gE.cell n1
                have j2 := gE.cell n2
                have j3 := gE.cell n3
                have j4 := gE.cell n4
                have k0 := gE.cell G0
                have k1 := gE.cell G1
                have k2 := gE.cell G2
                have k3 := gE.cell G3
                by_cases h1 : x.id < 1
                · have HT := Lib.hid (HX.out (by rw [HE1.out (.inl h1)]; decide))
                  rw [HE1.out (.inl h1)] at HT
                  go_wp2_with fail
                  go_ret
                  exact ⟨ret_int HT.out.symm, (hx1.trans (hEr.trans (hx2.trans (by solve_by_elim [X0, X1, X2, X3]))))⟩
                · by_cases h2 : g.ne ≤ x.id
                  · have HT := Lib.hid (HX.out (by rw [HE1.out (.inr h2)]; decide))
                    rw [HE1.out (.inr h2)] at HT
                    go_wp2_with fail
                    go_ret
                    exact ⟨ret_int HT.out.symm, (hx1.trans (hEr.trans (hx2.trans (by solve_by_elim [X0, X1, X2, X3]))))⟩
                  · have HZ := Lib.hid (HEP.out (by omega) (by omega))
                    clear HE1 HEP
                    cases b1
                    · have HT := Lib.hid (HX.out (by rw [HZ.out]; simp))
                      rw [HZ.out] at HT
                      go_wp2_with (go_at_call 48; ((with_reducible refine (HN1.out _ (by solve_by_elim [X0, X1, X2, X3])).mono ?_); rintro e v1 ⟨rfl, gx1⟩; replace gx1 : Ext w2 v1 := Ext.trans (by solve_by_elim [X0, X1, X2, X3]) gx1; have m0 := gx1.cell G0; have r0 := gx1.cell n0; have r1 := gx1.cell n1; have r2 := gx1.cell n2; have r3 := gx1.cell n3; have r4 := gx1.cell n4))
                      go_ret
                      exact ⟨ret_int HT.out.symm, hx1.trans (hEr.trans (hx2.trans gx1))⟩
                    · cases b2
                      · have HT := Lib.hid (HX.out (by rw [HZ.out]; simp))
                        rw [HZ.out] at HT
                        go_wp2_with (first | (go_at_call 48; ((with_reducible refine (HN1.out _ (by solve_by_elim [X0, X1, X2, X3])).mono ?_); rintro e v1 ⟨rfl, gx1⟩; replace gx1 : Ext w2 v1 := Ext.trans (by solve_by_elim [X0, X1, X2, X3]) gx1; have m0 := gx1.cell G0; have r0 := gx1.cell n0; have r1 := gx1.cell n1; have r2 := gx1.cell n2; have r3 := gx1.cell n3; have r4 := gx1.cell n4)) | (go_at_call 48; ((with_reducible refine (HN2.out _ gx1).mono ?_); rintro e v2 ⟨rfl, gx2⟩; replace gx2 : Ext w2 v2 := gx1.trans gx2; have l3 := gx2.cell n3; have l4 := gx2.cell n4)))
                        go_ret
                        exact ⟨ret_int HT.out.symm, hx1.trans (hEr.trans (hx2.trans gx2))⟩
                      · cases b3
                        · have HT := Lib.hid (HX.out (by rw [HZ.out]; simp))
                          rw [HZ.out] at HT
                          go_wp2_with (first | (go_at_call 48; ((with_reducible refine (HN1.out _ (by solve_by_elim [X0, X1, X2, X3])).mono ?_); rintro e v1 ⟨rfl, gx1⟩; replace gx1 : Ext w2 v1 := Ext.trans (by solve_by_elim [X0, X1, X2, X3]) gx1; have m0 := gx1.cell G0; have r0 := gx1.cell n0; have r1 := gx1.cell n1; have r2 := gx1.cell n2; have r3 := gx1.cell n3; have r4 := gx1.cell n4)) | (go_at_call 48; ((with_reducible refine (HN2.out _ gx1).mono ?_); rintro e v2 ⟨rfl, gx2⟩; replace gx2 : Ext w2 v2 := gx1.trans gx2; have l3 := gx2.cell n3; have l4 := gx2.cell n4)) | (go_at_call 21; ((with_reducible refine (HNM.out _).mono ?_); rintro e v3 ⟨rfl, rfl⟩)))
                          go_ret
                          exact ⟨ret_int HT.out.symm, hx1.trans (hEr.trans (hx2.trans gx2))⟩
                        · rw [show E = z from HZ.out] at HS HX
                          by_cases he : z = 0
                          · have HT := Lib.hid (HS.out he)
                            have he2 : (z != 0) = false := by rw [he]; rfl
                            clear HS HX HZ he
                            go_wp2_with (first | (go_at_call 48; ((with_reducible refine (HN1.out _ (by solve_by_elim [X0, X1, X2, X3])).mono ?_); rintro e v1 ⟨rfl, gx1⟩; replace gx1 : Ext w2 v1 := Ext.trans (by solve_by_elim [X0, X1, X2, X3]) gx1; have m0 := gx1.cell G0; have r0 := gx1.cell n0; have r1 := gx1.cell n1; have r2 := gx1.cell n2; have r3 := gx1.cell n3; have r4 := gx1.cell n4)) | (go_at_call 48; ((with_reducible refine (HN2.out _ gx1).mono ?_); rintro e v2 ⟨rfl, gx2⟩; replace gx2 : Ext w2 v2 := gx1.trans gx2; have l3 := gx2.cell n3; have l4 := gx2.cell n4)) | (go_at_call 21; ((with_reducible refine (HNM.out _).mono ?_); rintro e v3 ⟨rfl, rfl⟩)) | (go_at_call 47; ((with_reducible refine (HP.out _ (by solve_by_elim [X0, X1, X2, X3])).mono ?_); rintro e w8 ⟨rfl, hx8⟩; replace hx8 : Ext w2 w8 := Ext.trans (by solve_by_elim [X0, X1, X2, X3]) hx8)))
                            go_roundw
                            case rel => exact ⟨0 + 1, rfl, by omega, HT, hEr.trans (hx2.trans hx8)⟩
                            case measure => simp [intOf]; omega
                          · have HT := Lib.hid (HX.out he)
                            have he2 : (z != 0) = true := bne_iff_ne.2 he
                            clear HS HX he
                            go_wp2_with (first | (go_at_call 48; ((with_reducible refine (HN1.out _ (by solve_by_elim [X0, X1, X2, X3])).mono ?_); rintro e v1 ⟨rfl, gx1⟩; replace gx1 : Ext w2 v1 := Ext.trans (by solve_by_elim [X0, X1, X2, X3]) gx1; have m0 := gx1.cell G0; have r0 := gx1.cell n0; have r1 := gx1.cell n1; have r2 := gx1.cell n2; have r3 := gx1.cell n3; have r4 := gx1.cell n4)) | (go_at_call 48; ((with_reducible refine (HN2.out _ gx1).mono ?_); rintro e v2 ⟨rfl, gx2⟩; replace gx2 : Ext w2 v2 := gx1.trans gx2; have l3 := gx2.cell n3; have l4 := gx2.cell n4)) | (go_at_call 21; ((with_reducible refine (HNM.out _).mono ?_); rintro e v3 ⟨rfl, rfl⟩)) | (go_at_call 47; ((with_reducible refine (HP.out _ (by solve_by_elim [X0, X1, X2, X3])).mono ?_); rintro e w8 ⟨rfl, hx8⟩; replace hx8 : Ext w2 w8 := Ext.trans (by solve_by_elim [X0, X1, X2, X3]) hx8)))
                            go_ret
                            exact ⟨ret_int HT.out.symm, hx1.trans (hEr.trans (hx2.trans hx8))⟩
              · replace hpv := hpv hz
                by_cases hlo : g.edges[k - 1]!.id < g.edges[k]!.id
                · have HE1 := Lib.hid (fun h => edgeE_1 (g := g) (i := k) (fun _ => hlo) h)
                  have HEP := Lib.hid (fun h1 h2 => edgeE_p (g := g) (i := k) (fun _ => hlo) h1 h2)
                  rw [← hE] at HE1 HEP
                  clear hE
                  generalize g.edges[k]! = x at *
                  generalize g.edges[k - 1]! = y at *
                  generalize partsE [] x.props = z at *
                  generalize hasN g.nodes x.frm = b1 at *
                  generalize hasN g.nodes x.to_ = b2 at *
                  generalize nameB x.typ = b3 at *
                  have ho : ¬ x.id ≤ y.id := by omega
                  clear hlo
                  go_upto_region 19 with (fail)
                  rw [← HW2.out, ← HQ2.out]
                  clear HW2 HQ2 g0' g1' g2' g3'
                  have p0 : 0 < k := by omega
                  have p1 : (1 : Int) ≤ (k : Int) := by omega
                  have p2 : ((k : Int) - 1).toNat = k - 1 := by omega
                  have p5 : IntKind.i64.wrap ((k : Int) - 1) = (k : Int) - 1 := IntWalk.i64_in _ (by omega)
                  have p6 : ((k : Int) - 1) < (g.edges.length : Int) := by omega
                  have MKR5 := Lib.hid (fun V (e : Ext w2 V) => (⟨e.cell G1, e.cell n0, e.cell hpv, e⟩ : V.cell? ⟨q, 1, none⟩ = some (.slice (some ⟨b, o, none⟩) g.edges.length d) ∧ V.cell? ⟨q2, 0, none⟩ = some (.int .i64 x.id) ∧ V.cell? ⟨b, o + (k - 1) * 5, none⟩ = some (.int .i64 y.id) ∧ Ext w2 V))
                  refine wp_region_held_drew (S := (fun V => V.cell? ⟨q, 1, none⟩ = some (.slice (some ⟨b, o, none⟩) g.edges.length d) ∧ V.cell? ⟨q2, 0, none⟩ = some (.int .i64 x.id) ∧ V.cell? ⟨b, o + (k - 1) * 5, none⟩ = some (.int .i64 y.id) ∧ Ext w2 V)) (by kernel_rfl) ?hs61 (fun hHeld => ?go61)
                  case hs61 => (exact MKR5.out _ (by solve_by_elim [X0, X1, X2, X3]))
                  refine TK 0 (v := ?v62) hHeld ?hy62 ?_
                  case hy62 => (intro w _; go_simp <;> rfl)
                  (try simp only [PU])
                  refine TK 1 (v := ?v63) hHeld ?hy63 ?_
                  case hy63 => (intro w _; go_simp <;> first | with_reducible rfl | rw [if_neg (by omega)] | rw [if_pos (by omega)])
                  (try simp only [PU])
                  refine TK 2 (v := ?v64) hHeld ?hy64 ?_
                  case hy64 => (intro w _; go_simp <;> rfl)
                  (try simp only [PU])
                  refine TK 3 (v := ?v65) hHeld ?hy65 ?_
                  case hy65 => (intro w _; go_simp <;> rfl)
                  (try simp only [PU])
                  refine TK 4 (v := ?v66) hHeld ?hy66 ?_
                  case hy66 => (intro w hSw; (try dsimp only at hSw); go_simp <;> first | with_reducible rfl | rw [if_neg (by omega)] | rw [if_pos (by omega)])
                  (try simp only [PU])
                  refine TK 5 (v := ?v67) hHeld ?hy67 ?_
                  case hy67 => (intro w _; go_simp <;> rfl)
                  (try simp only [PU])
                  refine TK 6 (v := ?v68) hHeld ?hy68 ?_
                  case hy68 => (intro w hSw; (try dsimp only at hSw); go_simp <;> first | with_reducible rfl | rw [if_neg (by omega)] | rw [if_pos (by omega)])
                  (try simp only [PU])
                  refine TK 7 (v := ?v69) hHeld ?hy69 ?_
                  case hy69 => (intro w _; go_simp <;> rfl)
                  (try simp only [PU])
                  refine TK 8 (v := ?v70) hHeld ?hy70 ?_
                  case hy70 => (intro w _; go_simp <;> first | with_reducible rfl | rw [if_neg (by omega)] | rw [if_pos (by omega)])
                  (try simp only [PU])
                  refine TK 9 (v := ?v71) hHeld ?hy71 ?_
                  case hy71 => (intro w _; go_simp <;> first | with_reducible rfl | rw [if_neg (by omega)] | rw [if_pos (by omega)])
                  (try simp only [PU])
                  refine TK 10 (v := ?v72) hHeld ?hy72 ?_
                  case hy72 => (intro w _; go_simp <;> rfl)
                  (try simp only [PU])
                  refine TK 11 (v := ?v73) hHeld ?hy73 ?_
                  case hy73 => (intro w hSw; (try dsimp only at hSw); go_simp <;> first | with_reducible rfl | rw [if_neg (by omega)] | rw [if_pos (by omega)])
                  (try simp only [PU])
                  refine TK 12 (v := ?v74) hHeld ?hy74 ?_
                  case hy74 => (intro w _; go_simp <;> first | with_reducible rfl | rw [if_neg (by omega)] | rw [if_pos (by omega)])
                  (try simp only [PU])
                  refine TK 13 (v := ?v75) hHeld ?hy75 ?_
                  case hy75 => (intro w _; go_simp <;> rfl)
                  (try simp only [PU])
                  refine wpAnyH_done (by kernel_rfl) ?_ _
                  clear hHeld
                  clear MKR5
                  clear p0 p1 p2 p5 p6 ho hpv
                  have gE : Ext w2 w2.drew := (Ext.refl _).drew
                  have j0 := gE.cell n0
                  have j1 := gE.cell n1
                  have j2 := gE.cell n2
                  have j3 := gE.cell n3
                  have j4 := gE.cell n4
                  have k0 := gE.cell G0
                  have k1 := gE.cell G1
                  have k2 := gE.cell G2
                  have k3 := gE.cell G3
                  by_cases h1 : x.id < 1
                  · have HT := Lib.hid (HX.out (by rw [HE1.out (.inl h1)]; decide))
                    rw [HE1.out (.inl h1)] at HT
                    go_wp2_with fail
                    go_ret
                    exact ⟨ret_int HT.out.symm, (hx1.trans (hEr.trans (hx2.trans (by solve_by_elim [X0, X1, X2, X3]))))⟩
                  · by_cases h2 : g.ne ≤ x.id
                    · have HT := Lib.hid (HX.out (by rw [HE1.out (.inr h2)]; decide))
                      rw [HE1.out (.inr h2)] at HT
                      go_wp2_with fail
                      go_ret
                      exact ⟨ret_int HT.out.symm, (hx1.trans (hEr.trans (hx2.trans (by solve_by_elim [X0, X1, X2, X3]))))⟩
                    · have HZ := Lib.hid (HEP.out (by omega) (by omega))
                      clear HE1 HEP
                      cases b1
                      · have HT := Lib.hid (HX.out (by rw [HZ.out]; simp))
                        rw [HZ.out] at HT
                        go_wp2_with (go_at_call 48; ((with_reducible refine (HN1.out _ (by solve_by_elim [X0, X1, X2, X3])).mono ?_); rintro e v1 ⟨rfl, gx1⟩; replace gx1 : Ext w2 v1 := Ext.trans (by solve_by_elim [X0, X1, X2, X3]) gx1; have m0 := gx1.cell G0; have r0 := gx1.cell n0; have r1 := gx1.cell n1; have r2 := gx1.cell n2; have r3 := gx1.cell n3; have r4 := gx1.cell n4))
                        go_ret
                        exact ⟨ret_int HT.out.symm, hx1.trans (hEr.trans (hx2.trans gx1))⟩
                      · cases b2
                        · have HT := Lib.hid (HX.out (by rw [HZ.out]; simp))
                          rw [HZ.out] at HT
                          go_wp2_with (first | (go_at_call 48; ((with_reducible refine (HN1.out _ (by solve_by_elim [X0, X1, X2, X3])).mono ?_); rintro e v1 ⟨rfl, gx1⟩; replace gx1 : Ext w2 v1 := Ext.trans (by solve_by_elim [X0, X1, X2, X3]) gx1; have m0 := gx1.cell G0; have r0 := gx1.cell n0; have r1 := gx1.cell n1; have r2 := gx1.cell n2; have r3 := gx1.cell n3; have r4 := gx1.cell n4)) | (go_at_call 48; ((with_reducible refine (HN2.out _ gx1).mono ?_); rintro e v2 ⟨rfl, gx2⟩; replace gx2 : Ext w2 v2 := gx1.trans gx2; have l3 := gx2.cell n3; have l4 := gx2.cell n4)))
                          go_ret
                          exact ⟨ret_int HT.out.symm, hx1.trans (hEr.trans (hx2.trans gx2))⟩
                        · cases b3
                          · have HT := Lib.hid (HX.out (by rw [HZ.out]; simp))
                            rw [HZ.out] at HT
                            go_wp2_with (first | (go_at_call 48; ((with_reducible refine (HN1.out _ (by solve_by_elim [X0, X1, X2, X3])).mono ?_); rintro e v1 ⟨rfl, gx1⟩; replace gx1 : Ext w2 v1 := Ext.trans (by solve_by_elim [X0, X1, X2, X3]) gx1; have m0 := gx1.cell G0; have r0 := gx1.cell n0; have r1 := gx1.cell n1; have r2 := gx1.cell n2; have r3 := gx1.cell n3; have r4 := gx1.cell n4)) | (go_at_call 48; ((with_reducible refine (HN2.out _ gx1).mono ?_); rintro e v2 ⟨rfl, gx2⟩; replace gx2 : Ext w2 v2 := gx1.trans gx2; have l3 := gx2.cell n3; have l4 := gx2.cell n4)) | (go_at_call 21; ((with_reducible refine (HNM.out _).mono ?_); rintro e v3 ⟨rfl, rfl⟩)))
                            go_ret
                            exact ⟨ret_int HT.out.symm, hx1.trans (hEr.trans (hx2.trans gx2))⟩
                          · rw [show E = z from HZ.out] at HS HX
                            by_cases he : z = 0
                            · have HT := Lib.hid (HS.out he)
                              have he2 : (z != 0) = false := by rw [he]; rfl
                              clear HS HX HZ he
                              go_wp2_with (first | (go_at_call 48; ((with_reducible refine (HN1.out _ (by solve_by_elim [X0, X1, X2, X3])).mono ?_); rintro e v1 ⟨rfl, gx1⟩; replace gx1 : Ext w2 v1 := Ext.trans (by solve_by_elim [X0, X1, X2, X3]) gx1; have m0 := gx1.cell G0; have r0 := gx1.cell n0; have r1 := gx1.cell n1; have r2 := gx1.cell n2; have r3 := gx1.cell n3; have r4 := gx1.cell n4)) | (go_at_call 48; ((with_reducible refine (HN2.out _ gx1).mono ?_); rintro e v2 ⟨rfl, gx2⟩; replace gx2 : Ext w2 v2 := gx1.trans gx2; have l3 := gx2.cell n3; have l4 := gx2.cell n4)) | (go_at_call 21; ((with_reducible refine (HNM.out _).mono ?_); rintro e v3 ⟨rfl, rfl⟩)) | (go_at_call 47; ((with_reducible refine (HP.out _ (by solve_by_elim [X0, X1, X2, X3])).mono ?_); rintro e w8 ⟨rfl, hx8⟩; replace hx8 : Ext w2 w8 := Ext.trans (by solve_by_elim [X0, X1, X2, X3]) hx8)))
                              go_roundw
                              case rel => exact ⟨k + 1, by go_num, by omega, HT, hEr.trans (hx2.trans hx8)⟩
                              case measure => simp [intOf]; omega
                            · have HT := Lib.hid (HX.out he)
                              have he2 : (z != 0) = true := bne_iff_ne.2 he
                              clear HS HX he
                              go_wp2_with (first | (go_at_call 48; ((with_reducible refine (HN1.out _ (by solve_by_elim [X0, X1, X2, X3])).mono ?_); rintro e v1 ⟨rfl, gx1⟩; replace gx1 : Ext w2 v1 := Ext.trans (by solve_by_elim [X0, X1, X2, X3]) gx1; have m0 := gx1.cell G0; have r0 := gx1.cell n0; have r1 := gx1.cell n1; have r2 := gx1.cell n2; have r3 := gx1.cell n3; have r4 := gx1.cell n4)) | (go_at_call 48; ((with_reducible refine (HN2.out _ gx1).mono ?_); rintro e v2 ⟨rfl, gx2⟩; replace gx2 : Ext w2 v2 := gx1.trans gx2; have l3 := gx2.cell n3; have l4 := gx2.cell n4)) | (go_at_call 21; ((with_reducible refine (HNM.out _).mono ?_); rintro e v3 ⟨rfl, rfl⟩)) | (go_at_call 47; ((with_reducible refine (HP.out _ (by solve_by_elim [X0, X1, X2, X3])).mono ?_); rintro e w8 ⟨rfl, hx8⟩; replace hx8 : Ext w2 w8 := Ext.trans (by solve_by_elim [X0, X1, X2, X3]) hx8)))
                              go_ret
                              exact ⟨ret_int HT.out.symm, hx1.trans (hEr.trans (hx2.trans hx8))⟩
                · have HT := Lib.hid (HX.out (by rw [hE, edgeE_26 hz (by omega)]; decide))
                  rw [hE, edgeE_26 hz (by omega)] at HT
                  clear hE HS HX HP
                  generalize g.edges[k]! = x at *
                  generalize g.edges[k - 1]! = y at *
                  have ho : x.id ≤ y.id := by omega
                  clear hlo
                  go_upto_region 19 with (fail)
                  rw [← HW2.out, ← HQ2.out]
                  clear HW2 HQ2 g0' g1' g2' g3'
                  have p0 : 0 < k := by omega
                  have p1 : (1 : Int) ≤ (k : Int) := by omega
                  have p2 : ((k : Int) - 1).toNat = k - 1 := by omega
                  have p5 : IntKind.i64.wrap ((k : Int) - 1) = (k : Int) - 1 := IntWalk.i64_in _ (by omega)
                  have p6 : ((k : Int) - 1) < (g.edges.length : Int) := by omega
                  have MKR6 := Lib.hid (fun V (e : Ext w2 V) => (⟨e.cell G1, e.cell n0, e.cell hpv, e⟩ : V.cell? ⟨q, 1, none⟩ = some (.slice (some ⟨b, o, none⟩) g.edges.length d) ∧ V.cell? ⟨q2, 0, none⟩ = some (.int .i64 x.id) ∧ V.cell? ⟨b, o + (k - 1) * 5, none⟩ = some (.int .i64 y.id) ∧ Ext w2 V))
                  refine wp_region_held_drew (S := (fun V => V.cell? ⟨q, 1, none⟩ = some (.slice (some ⟨b, o, none⟩) g.edges.length d) ∧ V.cell? ⟨q2, 0, none⟩ = some (.int .i64 x.id) ∧ V.cell? ⟨b, o + (k - 1) * 5, none⟩ = some (.int .i64 y.id) ∧ Ext w2 V)) (by kernel_rfl) ?hs76 (fun hHeld => ?go76)
                  case hs76 => (exact MKR6.out _ (by solve_by_elim [X0, X1, X2, X3]))
                  refine TK 0 (v := ?v77) hHeld ?hy77 ?_
                  case hy77 => (intro w _; go_simp <;> rfl)
                  (try simp only [PU])
                  refine TK 1 (v := ?v78) hHeld ?hy78 ?_
                  case hy78 => (intro w _; go_simp <;> first | with_reducible rfl | rw [if_neg (by omega)] | rw [if_pos (by omega)])
                  (try simp only [PU])
                  refine TK 2 (v := ?v79) hHeld ?hy79 ?_
                  case hy79 => (intro w _; go_simp <;> rfl)
                  (try simp only [PU])
                  refine TK 3 (v := ?v80) hHeld ?hy80 ?_
                  case hy80 => (intro w _; go_simp <;> rfl)
                  (try simp only [PU])
                  refine TK 4 (v := ?v81) hHeld ?hy81 ?_
                  case hy81 => (intro w hSw; (try dsimp only at hSw); go_simp <;> first | with_reducible rfl | rw [if_neg (by omega)] | rw [if_pos (by omega)])
                  (try simp only [PU])
                  refine TK 5 (v := ?v82) hHeld ?hy82 ?_
                  case hy82 => (intro w _; go_simp <;> rfl)
                  (try simp only [PU])
                  refine TK 6 (v := ?v83) hHeld ?hy83 ?_
                  case hy83 => (intro w hSw; (try dsimp only at hSw); go_simp <;> first | with_reducible rfl | rw [if_neg (by omega)] | rw [if_pos (by omega)])
                  (try simp only [PU])
                  refine TK 7 (v := ?v84) hHeld ?hy84 ?_
                  case hy84 => (intro w _; go_simp <;> rfl)
                  (try simp only [PU])
                  refine TK 8 (v := ?v85) hHeld ?hy85 ?_
                  case hy85 => (intro w _; go_simp <;> first | with_reducible rfl | rw [if_neg (by omega)] | rw [if_pos (by omega)])
                  (try simp only [PU])
                  refine TK 9 (v := ?v86) hHeld ?hy86 ?_
                  case hy86 => (intro w _; go_simp <;> first | with_reducible rfl | rw [if_neg (by omega)] | rw [if_pos (by omega)])
                  (try simp only [PU])
                  refine TK 10 (v := ?v87) hHeld ?hy87 ?_
                  case hy87 => (intro w _; go_simp <;> rfl)
                  (try simp only [PU])
                  refine TK 11 (v := ?v88) hHeld ?hy88 ?_
                  case hy88 => (intro w hSw; (try dsimp only at hSw); go_simp <;> first | with_reducible rfl | rw [if_neg (by omega)] | rw [if_pos (by omega)])
                  (try simp only [PU])
                  refine TK 12 (v := ?v89) hHeld ?hy89 ?_
                  case hy89 => (intro w _; go_simp <;> first | with_reducible rfl | rw [if_neg (by omega)] | rw [if_pos (by omega)])
                  (try simp only [PU])
                  refine TK 13 (v := ?v90) hHeld ?hy90 ?_
                  case hy90 => (intro w _; go_simp <;> rfl)
                  (try simp only [PU])
                  refine wpAnyH_done (by kernel_rfl) ?_ _
                  clear hHeld
                  clear MKR6
                  go_wp2_with fail
                  go_ret
                  exact ⟨ret_int HT.out.symm, (hx1.trans (hEr.trans (hx2.trans (by solve_by_elim [X0, X1, X2, X3]))))⟩
            · have HT := Lib.hid (chkG_edges HH.out HNZ.out (firstE_zero (fun t ht => hgd.out t (by omega)) : edgesE g = 0))
              go_wp2_with fail
              go_ret
              exact ⟨ret_int HT.out.symm, hx1.trans hEr⟩
end Go.Proofs.YtnheioehadldmaaGreat

/- A WHOLE SLICE APPENDED to a row that a call owns, any kind of element; parts of such a row as slices. -/
namespace Go.Proofs.YtnheioehadldmaaGreat
open Go.RowKit
variable {α : Type} {K : KindG α} {P : Program} {e : TypeId} {base : Nat} {ok0 : Nat → Prop} {v : Value} {hs : List α} {t bytes : Nat}
theorem run_append_zero' {P : Program} (w : World) (t ty e : TypeId) (z : Value) (size bytes : Nat) (ht : P.underlying t = some (.slice e)) (hi : (P.info? e).map (fun i => (i.zero, i.size, i.bytes)) = some (some z, size, bytes)) (B : Option Addr) (n cap c : Nat) (hn : n ≤ cap) :
    (Builtin.append_ #[t, t] ty #[.slice B n cap, .slice none 0 c]).run P w = .ok (.slice B n cap) w := by
  obtain ⟨i, hi, hz0, hz1, hz2⟩ := info_parts hi
  cases B <;> simp [Builtin.append_, run_underlying ht, sizeOf, typeInfo, hi, Builtin.lenOf, run_firstCells_none, hn, storeCells]
theorem run_catG (T : ElT P t e K.size bytes) (ty : TypeId) (w : World) (h : OwnG K e w base ok0 v hs) (hb : base ≤ w.heap.size) (A : Option Addr) (m c : Nat) (hs2 : List α) (hm : m = hs2.length) (hA : A = none → m = 0)
    (hc : ∀ ad, A = some ad → ∀ j u, (hs2.flatMap K.enc)[j]? = some u → w.cell? (ad.add j) = some u) (hl : ∀ p ∈ hs2, K.lies w (fun b => ok0 b ∧ some b ≠ v.ownBlock) p) (h63 : hs.length + m ≤ 8388608) (hbytes : bytes ≤ 1000000) :
    ∃ v' w', (Builtin.append_ #[t, t] ty #[v, .slice A m c]).run P w = .ok v' w' ∧ OwnG K e w' base ok0 v' (hs ++ hs2) ∧ w.grownBy w' v.ownBlock ∧ (v'.ownBlock = v.ownBlock ∨ v'.ownBlock = some w.heap.size) := by
  obtain ⟨z, hz, hzc⟩ := T.hi
  obtain ⟨i, hi, hz0, hz1, hz2⟩ := info_parts hz
  cases A with
  | none =>
    obtain rfl := hA rfl
    have h2 : hs2 = [] := List.eq_nil_of_length_eq_zero hm.symm
    obtain ⟨B, cap, hv, hle⟩ : ∃ B cap, v = .slice B hs.length cap ∧ hs.length ≤ cap := by
      rcases h.own.2 with ⟨hv, h0⟩ | ⟨g, cap, cur, hv, hb, hh, hc, _⟩
      · exact ⟨none, 0, by rw [hv, h0], by omega⟩
      · exact ⟨_, cap, hv, hc⟩
    refine ⟨v, w, ?_, by rw [h2, List.append_nil]; exact h, World.grownBy.refl _ _, .inl rfl⟩
    rw [hv]
    exact run_append_zero' (P := P) w t ty e z K.size bytes T.ht hz B hs.length cap c hle
  | some ad =>
    have hfl : (hs2.flatMap K.enc).length = m * K.size := by rw [flat_len K.enc K.size K.len, hm]
    obtain ⟨v', w', hr, k1, k2, -, k3⟩ := run_append_own_at (P := P) w base t ty e i z K.size bytes T.ht hi hz0 hz1 hz2 hzc T.hs v hs.length (hs.flatMap K.enc) h.own ad m c (hs2.flatMap K.enc) hfl (hc ad rfl) (fun u hu => by
      obtain ⟨x, -, hx⟩ := List.mem_flatMap.1 hu
      exact K.one x u hx) (by unfold maxLen; omega) (Nat.le_trans (Nat.mul_le_mul h63 hbytes) (by decide)) hb
    have hcell : ∀ b o y, (ok0 b ∧ some b ≠ v.ownBlock) → w.cell? ⟨b, o, none⟩ = some y → w'.cell? ⟨b, o, none⟩ = some y ∧ (ok0 b ∧ some b ≠ v'.ownBlock) := fun b o y hb hc => by
      have hlt : b < w.heap.size := block_lt_of_cell hc
      refine ⟨k2.cell hc hb.2, hb.1, ?_⟩
      rcases k3 with e2 | e2
      · rw [e2]; exact hb.2
      · rw [e2]
        intro e3
        injection e3 with e3
        omega
    refine ⟨v', w', hr, ⟨by rw [List.length_append, List.flatMap_append, ← hm]; exact k1, fun p hp => ?_⟩, k2, k3⟩
    rcases List.mem_append.1 hp with hp | hp
    · exact K.keep _ _ _ _ _ hcell (h.lies p hp)
    · exact K.keep _ _ _ _ _ hcell (hl p hp)
theorem own_catG (T : ElT P t e K.size bytes) {ops : Array Oper} {rest : List Oper} {o : Oper} {a : Act} {Q : Exit → Act → World → Prop} {w : World} (hgd : o.guard = none) (s y : Operand)
    (ho : o.op = .call { callee := .builtin .append, args := #[s, y], argTypes := #[t, t] }) (hs' : a.eval s = v) (h : OwnG K e w base ok0 v hs) (hb : base ≤ w.heap.size) (A : Option Addr) (m c : Nat) (hs2 : List α) (hy : a.eval y = .slice A m c) (hm : m = hs2.length) (hA : A = none → m = 0)
    (hc : ∀ ad, A = some ad → ∀ j u, (hs2.flatMap K.enc)[j]? = some u → w.cell? (ad.add j) = some u) (hl : ∀ p ∈ hs2, K.lies w (fun b => ok0 b ∧ some b ≠ v.ownBlock) p) (h63 : hs.length + m ≤ 8388608) (hbytes : bytes ≤ 1000000)
    (hK : ∀ v' w', OwnG K e w' base ok0 v' (hs ++ hs2) → w.grownBy w' v.ownBlock → (v'.ownBlock = v.ownBlock ∨ v'.ownBlock = some w.heap.size) → wpList P ops Q rest (a.put o.dst v') w') : wpList P ops Q (o :: rest) a w := by
  obtain ⟨v', w', hr, h1, h2, h3⟩ := run_catG T o.type w h hb A m c hs2 hm hA hc hl h63 hbytes
  refine wpList_plain hgd fun K2 hK2 => ?_
  unfold Oper.wp execOp
  simp only [ho, resolve, invoke, builtin, Sem.run_bind, Sem.run_pure, Result.andThen_ok, List.map_toArray, List.map_cons, List.map_nil, hs', hy, hr]
  exact hK2 _ _ (hK v' w' h1 h2 h3)
variable {W : World} {g n c : Nat}
end Go.Proofs.YtnheioehadldmaaGreat

/- THE WALK over column.Build. -/
namespace Go.Proofs.YtnheioehadldmaaGreat
open Go.RowKit
theorem flat3 : ∀ (l : List Sh) (j : Nat) (u : Value), (l.flatMap Sh.cells)[j]? = some u → ∃ k r, k < l.length ∧ j = k * 3 + r ∧ (Sh.cells l[k]!)[r]? = some u
  | [], j, u, h => by simp at h
  | x :: l, j, u, h => by
    rw [List.flatMap_cons] at h
    by_cases hj : j < 3
    · rw [List.getElem?_append_left (by show j < 3; exact hj)] at h
      exact ⟨0, j, by simp, by omega, by simpa using h⟩
    · rw [List.getElem?_append_right (by show 3 ≤ j; omega)] at h
      obtain ⟨k, r, h1, h2, h3⟩ := flat3 l _ u h
      have h2' : j - 3 = k * 3 + r := h2
      exact ⟨k + 1, r, by simpa using h1, by omega, by simpa using h3⟩
theorem Shares.cellsF {w : World} {ok : Nat → Prop} {A : Option Addr} {l : List Sh} (h : Shares w ok A l) : ∀ ad, A = some ad → ∀ (j : Nat) (u : Value), (l.flatMap KA.enc)[j]? = some u → w.cell? (ad.add j) = some u := fun ad e j u hu => by
  obtain ⟨k, r, hk, rfl, hr⟩ := flat3 l j u hu
  obtain ⟨b, o, e2, hc⟩ := h.at_ hk
  rw [e] at e2
  injection e2 with e2
  subst e2
  obtain ⟨-, c0, c1, c2⟩ := hc k hk
  rw [Addr.add_mid]
  match r, hr with
  | 0, hr => rw [Nat.add_zero, c0]; exact hr
  | 1, hr => rw [← Nat.add_assoc, c1]; exact hr
  | 2, hr => rw [← Nat.add_assoc, c2]; exact hr
  | r + 3, hr => cases hr
theorem Shares.noneLen {w : World} {ok : Nat → Prop} {A : Option Addr} {l : List Sh} (h : Shares w ok A l) : A = none → l.length = 0 := fun e => by
  rcases Nat.eq_zero_or_pos l.length with h0 | h0
  · exact h0
  · obtain ⟨b, o, e2, -⟩ := h.at_ h0
    rw [e] at e2; cases e2
def dirB (dir : Int) : Bool := decide (dir ≠ 1) && decide (dir ≠ 2)
def typE (typ : ByteArray) : Bool := decide (typ ≠ ByteArray.empty) && !nameB typ
def buildR (g : GraphG) (typ : ByteArray) (dir : Int) : Int × Col := if chkG g ≠ 0 then (chkG g, noCol) else if dirB dir = true then (1, noCol) else if typE typ = true then (6, noCol) else (0, packC (rowsG g (typsOf typ) dir))
def rowsN (g : GraphG) (types : List ByteArray) (dir : Int) (i : Nat) : List Sh := (g.nodes.take i).flatMap (fun n => (stepsL g types dir n.id).map (adjOf n.id))
theorem rowsN_succ (g : GraphG) (types : List ByteArray) (dir : Int) {i : Nat} (hi : i < g.nodes.length) : rowsN g types dir (i + 1) = rowsN g types dir i ++ (stepsL g types dir g.nodes[i]!.id).map (adjOf g.nodes[i]!.id) := by
  unfold rowsN
  rw [List.take_succ_eq_append_getElem hi, List.flatMap_append, getElem!_pos g.nodes i hi]
  simp
theorem rowsN_len (g : GraphG) (types : List ByteArray) (dir : Int) : ∀ {i : Nat}, i ≤ g.nodes.length → (rowsN g types dir i).length ≤ i * g.edges.length
  | 0, _ => Nat.zero_le _
  | i + 1, hi => by
    have ih := rowsN_len g types dir (i := i) (by omega)
    have h1 := stepsL_len g types dir g.nodes[i]!.id
    rw [rowsN_succ g types dir (by omega), List.length_append, List.length_map, Nat.add_mul, Nat.one_mul]
    omega
theorem rowsN_all (g : GraphG) (types : List ByteArray) (dir : Int) : rowsN g types dir g.nodes.length = rowsG g types dir := by unfold rowsN rowsG; rw [List.take_length]
theorem Strs.one {w : World} {b : Nat} {s : ByteArray} (h : w.cell? ⟨b, 0, none⟩ = some (.string s)) : Strs w (fun _ => True) (some ⟨b, 0, none⟩) [s] := by
  refine ⟨by show 1 ≤ 140737488355328; decide, fun _ => ⟨b, 0, rfl, fun k hk => ?_⟩⟩
  obtain rfl : k = 0 := by simpa using hk
  exact ⟨trivial, h⟩
set_option maxRecDepth 100000 in
set_option maxHeartbeats 1600000 in
theorem co_Build (g : GraphG) (typ : ByteArray) (dir : Int) (ok : Nat → Prop) (A B : Option Addr) (c d : Nat) (w : World) (hg : GraphAt w ok A B g) (hl : g.nodes.length ≤ 1000 ∧ g.edges.length ≤ 1000) :
    Calls Tryz.prog 6 #[.agg #[.slice A g.nodes.length c, .slice B g.edges.length d, .int .i64 g.nn, .int .i64 g.ne], .string typ, .int .i64 dir] w fun e w' => ∃ A B C D k0 k1 k2 k3, e = .returned (.tuple #[agC (buildR g typ dir).2 A B C D k0 k1 k2 k3, .int .i64 (buildR g typ dir).1]) ∧ ColAt w' (fun b => w.heap.size ≤ b) A B C D (buildR g typ dir).2 ∧ Ext w w' := by
  obtain ⟨q, w1, hq, hw1, g0, g1, g2, g3, hx1⟩ := box_graph w A B c d g 25
  obtain ⟨q2, w2, hq2, hw2, hrx, hrz, hx2⟩ := box_zero w1 29
  have HW1 := Lib.hid hw1
  have HW2 := Lib.hid hw2
  have HQQ := Lib.hid hq
  have HQ2 := Lib.hid (show q2 = q + 1 by rw [hq2, hw1, hq]; simp)
  have HRX := Lib.hid hrx
  have HRZ := Lib.hid hrz
  have HX := Lib.hid (hx1.trans hx2)
  have HQ := Lib.hid (show w.heap.size ≤ q2 by have := hx1.le; omega)
  have HQ1 := Lib.hid (show ¬ w2.heap.size ≤ q2 by rw [hw2, hq2]; simp)
  have HG := Lib.hid ((hg.ext hx1).ext hx2)
  have HCK := Lib.hid (gr_Check g ok A B c d w2 ((hg.ext hx1).ext hx2))
  have HPK := Lib.hid (fun (B : Option Addr) (ok : Nat → Prop) m W (h : Shares W ok B (rowsG g (typsOf typ) dir)) h2 => co_pack (rowsG g (typsOf typ) dir) ok B m W h h2)
  have HST := Lib.hid (fun (n : Int) (ok' : Nat → Prop) T e W (x : Ext w2 W) (ht : Strs W ok' T (typsOf typ)) => gr_Steps g (typsOf typ) n dir ok ok' A B T c d e W ((hg.ext hx1).ext (hx2.trans x)).edges ht (by omega))
  obtain ⟨R, hR⟩ : ∃ R, R = buildR g typ dir := ⟨_, rfl⟩
  rw [← hR]
  have HB0 := Lib.hid (fun (h : chkG g ≠ 0) => (by rw [hR]; unfold buildR; rw [if_pos h] : R = (chkG g, noCol)))
  have HB1 := Lib.hid (fun (h : chkG g = 0) (h1 : dirB dir = true) => (by rw [hR]; unfold buildR; rw [if_neg (fun e => e h), if_pos h1] : R = (1, noCol)))
  have HB2 := Lib.hid (fun (h : chkG g = 0) (h1 : dirB dir = false) (h2 : typE typ = true) => (by rw [hR]; unfold buildR; rw [if_neg (fun e => e h), if_neg (by rw [h1]; exact Bool.false_ne_true), if_pos h2] : R = (6, noCol)))
  have HB3 := Lib.hid (fun (h : chkG g = 0) (h1 : dirB dir = false) (h2 : typE typ = false) => (by rw [hR]; unfold buildR; rw [if_neg (fun e => e h), if_neg (by rw [h1]; exact Bool.false_ne_true), if_neg (by rw [h2]; exact Bool.false_ne_true)] : R = (0, packC (rowsG g (typsOf typ) dir))))
  replace g0 := hx2.cell g0
  replace g1 := hx2.cell g1
  replace g2 := hx2.cell g2
  replace g3 := hx2.cell g3
  have HLL := Lib.hid (fun i (hi : i ≤ g.nodes.length) => (by have h := rowsN_len g (typsOf typ) dir hi; have h2 : i * g.edges.length ≤ 1000 * 1000 := Nat.mul_le_mul (by omega) (by omega); omega : (rowsN g (typsOf typ) dir i).length ≤ 1000000))
  have HSL := Lib.hid (fun n => (by rw [List.length_map]; have := stepsL_len g (typsOf typ) dir n; omega : ((stepsL g (typsOf typ) dir n).map (adjOf n)).length ≤ 1000))
  have HRS := Lib.hid (fun i (hi : i < g.nodes.length) => rowsN_succ g (typsOf typ) dir hi)
  have HRA := Lib.hid (rowsN_all g (typsOf typ) dir)
  have HNV := Lib.hid ((hg.ext hx1).ext hx2).nodes
  have hnl := ((hg.ext hx1).ext hx2).nodes.len
  clear hR hg hw1 hw2 hq hq2 hrx hrz hx1 hx2
  obtain ⟨ec, hec⟩ : ∃ ec, ec = chkG g := ⟨_, rfl⟩
  rw [← hec] at HCK HB0 HB1 HB2 HB3
  clear hec HG
  go_enter Tryz.func6, Tryz.ntmps6
  go_upto_region 1 with (fail)
  rw [← HW1.out, ← HQQ.out, ← HQ2.out, ← HW2.out]
  clear HW1 HW2 HQQ HQ2
  have MKG := Lib.hid (fun V (e : Ext w2 V) => (⟨e.cell g0, e.cell g1, e.cell g2, e.cell g3⟩ : (V.cell? ⟨q, 0, none⟩ = some (.slice A g.nodes.length c) ∧ V.cell? ⟨q, 1, none⟩ = some (.slice B g.edges.length d) ∧ V.cell? ⟨q, 2, none⟩ = some (.int .i64 g.nn) ∧ V.cell? ⟨q, 3, none⟩ = some (.int .i64 g.ne))))
  by_cases hc0 : ec = 0
  · replace HB1 := Lib.hid (HB1.out hc0)
    replace HB2 := Lib.hid (HB2.out hc0)
    replace HB3 := Lib.hid (HB3.out hc0)
    clear HB0
    subst hc0
    go_upto_region 4 with (go_at_call 20; ((with_reducible refine (HCK.out).mono ?_); rintro e w3 ⟨rfl, hx3⟩; obtain ⟨g0, g1, g2, g3⟩ := MKG.out _ hx3; clear HCK))
    have HX3 := Lib.hid hx3
    obtain ⟨bd, hbd⟩ : ∃ bd, bd = dirB dir := ⟨_, rfl⟩
    have HBD := Lib.hid hbd
    clear hbd
    go_cut [20] from 21 (fun s20 wx => s20 = .bool bd ∧ wx = w3)
    case first =>
      by_cases d1 : dir = 1
      · have K := Lib.hid (by rw [HBD.out, d1]; rfl : bd = false)
        have g4 : (dir != 1) = false := by rw [d1]; rfl
        have g5 : (dir == 1) = true := by rw [d1]; rfl
        clear d1 HBD
        go_wp2_with fail
        go_meet
        case rel => exact ⟨by rw [K.out], rfl⟩
      · by_cases d2 : dir = 2
        · have K := Lib.hid (by rw [HBD.out, d2]; rfl : bd = false)
          have g4 : (dir != 1) = true := by rw [d2]; rfl
          have g5 : (dir != 2) = false := by rw [d2]; rfl
          clear d1 d2 HBD
          go_wp2_with fail
          go_meet
          case rel => exact ⟨by rw [K.out], rfl⟩
        · have K := Lib.hid (by rw [HBD.out]; unfold dirB; rw [decide_eq_true d1, decide_eq_true d2]; rfl : bd = true)
          have g4 : (dir != 1) = true := bne_iff_ne.2 d1
          have g5 : (dir != 2) = true := bne_iff_ne.2 d2
          clear d1 d2 HBD
          go_wp2_with fail
          go_meet
          case rel => exact ⟨by rw [K.out], rfl⟩
    case rest =>
      obtain ⟨rfl, hwx⟩ := hcut
      subst hwx
      obtain ⟨w4, hw4⟩ : ∃ W, W = wc := ⟨_, rfl⟩
      subst hw4
      cases bd
      · have HD0 := Lib.hid HBD.out.symm
        clear HBD
        go_upto_region 6 with (fail)
        obtain ⟨bn, hbn⟩ : ∃ bn, bn = typE typ := ⟨_, rfl⟩
        have HBN := Lib.hid hbn
        obtain ⟨bt, hbt⟩ : ∃ bt : Bool, bt = decide (typ ≠ ByteArray.empty) := ⟨_, rfl⟩
        have HBT := Lib.hid hbt
        have hte : typ = ByteArray.empty ↔ typ.toList = [] := ⟨fun h => by rw [h, ByteArray.toList_eq]; rfl, fun h => by rw [ByteArray.toList_eq] at h; exact ba_ext h⟩
        have t1 : typ.toList.isEmpty = !bt := by
          rw [hbt]
          by_cases h : typ.toList = []
          · rw [decide_eq_false (show ¬ typ ≠ ByteArray.empty from fun h2 => h2 (hte.2 h)), h]; rfl
          · rw [decide_eq_true (show typ ≠ ByteArray.empty from fun h2 => h (hte.1 h2))]
            cases hl9 : typ.toList with
            | nil => exact absurd hl9 h
            | cons a l => rfl
        have HTE := Lib.hid (⟨fun h => by
          rw [hbt] at h
          exact hte.1 (Decidable.not_not.1 (of_decide_eq_false h)), fun h h2 => by
          rw [hbt] at h
          exact of_decide_eq_true h (hte.2 h2)⟩ : (bt = false → typ.toList = []) ∧ (bt = true → ¬ typ.toList = []))
        clear hte
        have HNM := Lib.hid (g_Name typ w4)
        clear hbn hbt
        go_cut [28] from 29 (fun s28 wx => s28 = .bool bn ∧ wx = w4)
        case first =>
          cases bt
          · have t2 := HTE.out.1 rfl
            have K := Lib.hid (by rw [HBN.out]; unfold typE; rw [← HBT.out]; rfl : bn = false)
            clear HBN HBT HNM HTE
            go_wp2_with fail
            go_meet
            case rel => exact ⟨by rw [K.out], rfl⟩
          · have t2 := HTE.out.2 rfl
            have K0 := Lib.hid (by rw [HBN.out]; unfold typE; rw [← HBT.out]; rfl : bn = !nameB typ)
            generalize nameB typ = nb at *
            cases nb
            · have K := Lib.hid (K0.out.trans (by rfl : _ = true))
              clear HBN HBT K0 HTE
              go_wp2_with (go_at_call 21; ((with_reducible refine (HNM.out).mono ?_); rintro e w5 ⟨rfl, rfl⟩))
              go_meet
              case rel => exact ⟨by rw [K.out], rfl⟩
            · have K := Lib.hid (K0.out.trans (by rfl : _ = false))
              clear HBN HBT K0 HTE
              go_wp2_with (go_at_call 21; ((with_reducible refine (HNM.out).mono ?_); rintro e w5 ⟨rfl, rfl⟩))
              go_meet
              case rel => exact ⟨by rw [K.out], rfl⟩
        case rest =>
          obtain ⟨rfl, hwx⟩ := hcut
          subst hwx
          obtain ⟨w5, hw5⟩ : ∃ W, W = wc := ⟨_, rfl⟩
          subst hw5
          cases bn
          · have HRR := Lib.hid (HB3.out HD0.out HBN.out.symm)
            have HTY := Lib.hid (by unfold typsOf; rfl : typsOf typ = if typ = ByteArray.empty then [] else [typ])
            clear HNM HB1 HB2 HB3 HBN
            go_upto_if 38 with (fail)
            clear t1
            go_cut [9] from 37 (fun s9 wx => ∃ (T : Option Addr) (e : Nat), s9 = .slice T (typsOf typ).length e ∧ Hid (Strs wx (fun _ => True) T (typsOf typ)) ∧ Hid (Ext w2 wx))
            case first =>
              cases bt
              · have t2 := HTE.out.1 rfl
                have K := Lib.hid (HTY.out.trans (if_pos (by have h := HBT.out; simpa using h.symm)))
                clear HBT HTY HTE
                go_wp2_with fail
                go_meet
                case rel => exact ⟨none, 0, by rw [K.out]; rfl, Lib.hid (by rw [K.out]; exact SliceR.nil _ _ _), HX3⟩
              · have t2 := HTE.out.2 rfl
                have K := Lib.hid (HTY.out.trans (if_neg (by have h := HBT.out; simpa using h.symm)))
                have HSX := Lib.hid (HX3.out.trans ((Ext.refl w5).alloc (.cells #[.string typ] 9)))
                have HSS := Lib.hid (Strs.one (w := w5.alloc (.cells #[.string typ] 9)) (b := w5.heap.size) (s := typ) (by go_simp))
                clear HBT HTY HTE
                go_wp2_with fail
                go_meet
                case rel => exact ⟨some ⟨w5.heap.size, 0, none⟩, 1, by rw [K.out]; rfl, Lib.hid (by rw [K.out]; exact HSS.out), HSX⟩
            case rest =>
              obtain ⟨T, e, rfl, HSS, HX5⟩ := hcut
              obtain ⟨w6, hw6⟩ : ∃ W, W = wc := ⟨_, rfl⟩
              subst hw6
              clear HBT HTY HTE HX3 g0 g1 g2 g3 HD0
              obtain ⟨g0, g1, g2, g3⟩ := MKG.out _ HX5.out
              go_wp2_with fail
              go_loopw [10, 44] (fun u10 u W => ∃ (vO : Value) (i : Nat), vO = u10 ∧ u = .int .i64 i ∧ i ≤ g.nodes.length ∧ Hid (OA W w6.heap.size vO (rowsN g (typsOf typ) dir i)) ∧ Hid (Ext w6 W)) (fun _ u _ => g.nodes.length - (intOf u).toNat)
              case atStart => exact ⟨_, 0, rfl, rfl, Nat.zero_le _, Lib.hid (show OA _ _ _ [] from OwnG.nil _ _ _ _ _), Lib.hid (Ext.refl _)⟩
              case round =>
                clear g0 g1 g2 g3
                obtain ⟨vO, i, rfl, rfl, hi, HO, hE⟩ := hrel
                by_cases hlt : i < g.nodes.length
                · obtain ⟨b, o, rfl, hcn⟩ := HNV.out.2 (by omega)
                  obtain ⟨-, n0, LA, lc, PA, pc, n1, -, -, n2, -, -⟩ := hcn i hlt
                  have HEW := Lib.hid (HX5.out.trans hE.out)
                  replace n0 := HEW.out.cell n0
                  replace n1 := HEW.out.cell n1
                  replace n2 := HEW.out.cell n2
                  rw [← getElem!_pos g.nodes i hlt] at n0 n1 n2
                  have HSC := Lib.hid (HRS.out i hlt)
                  have HLN := Lib.hid (HLL.out i (by omega))
                  have HLS := Lib.hid (HSL.out g.nodes[i]!.id)
                  clear hcn
                  generalize g.nodes[i]! = nd at *
                  obtain ⟨y, w7, hy, hw7, a0, a1, a2, hx7⟩ := box_node wr nd.id LA PA nd.labels.length lc nd.props.length pc 54
                  have HW7 := Lib.hid hw7
                  have HY := Lib.hid hy
                  have HST2 := Lib.hid (HST.out nd.id (fun _ => True) T e w7 (HEW.out.trans hx7) (HSS.out.ext (hE.out.trans hx7)))
                  have HX7 := Lib.hid hx7
                  obtain ⟨g0, g1, g2, g3⟩ := MKG.out _ (HEW.out.trans hx7)
                  obtain ⟨L, hL⟩ : ∃ L, L = (stepsL g (typsOf typ) dir nd.id).map (adjOf nd.id) := ⟨_, rfl⟩
                  have hLl : (stepsL g (typsOf typ) dir nd.id).length = L.length := by rw [hL, List.length_map]
                  rw [← hL] at HSC HLS HST2
                  rw [hLl] at HST2
                  have hl8 : (rowsN g (typsOf typ) dir i).length + L.length ≤ 8388608 := by have h1 := HLN.out; have h2 := HLS.out; omega
                  generalize rowsN g (typsOf typ) dir i = K at *
                  clear hL hLl hw7 hy hx7
                  go_upto_region 15 with (fail)
                  rw [← HW7.out, ← HY.out]
                  clear HW7 HY n0 n1 n2
                  go_upto_region 16 with (first | (go_at_call 22; ((with_reducible refine (HST2.out).mono ?_); rintro e9 w8 ⟨A8, c8, rfl, -, hS8, hx8⟩; have HS8 := Lib.hid hS8; clear HST2 hS8)) | (at_builtin; go_loud (refine own_catG T_ka rfl (.tmp 48) (.tmp 54) rfl rfl (OwnG.ext HO.out (HX7.out.trans hx8)) (Nat.le_trans hE.out.le (Nat.le_trans HX7.out.le hx8.le)) A8 L.length c8 L rfl rfl HS8.out.noneLen HS8.out.cellsF (fun _ _ => trivial) hl8 (by decide) ?_); intro v9 w9 hO9 hg9 _; have HO9 := Lib.hid hO9; have HE9 := Lib.hid ((hE.out.trans (HX7.out.trans hx8)).grown hg9 (fun k hk => (OwnG.lt HO.out hk).1)); clear hO9 hg9))
                  clear HO hE g0 g1 g2 g3 a0 a1 a2 hx8 hl8
                  go_wp2_with fail
                  go_roundw
                  case rel => exact ⟨_, i + 1, rfl, by go_num, by omega, Lib.hid (by rw [HSC.out]; exact HO9.out), HE9⟩
                  case measure => simp [intOf]; omega
                · have hke : i = g.nodes.length := by omega
                  have HOF := Lib.hid (by have h := HO.out; rw [hke, HRA.out] at h; exact h : OA wr w6.heap.size vO (rowsG g (typsOf typ) dir))
                  have HGL := Lib.hid (by have h := HLL.out g.nodes.length (Nat.le_refl _); rw [HRA.out] at h; exact h : (rowsG g (typsOf typ) dir).length ≤ 1000000)
                  have HEW := Lib.hid (HX5.out.trans hE.out)
                  clear HO hke HLL HRS HRA HSL HST hE
                  obtain ⟨A9, c9, e9, h9, hV9⟩ := OA.shares HOF.out (by have := HGL.out; omega)
                  have HP9 := Lib.hid (HPK.out A9 _ c9 wr hV9 (by have := HGL.out; omega))
                  subst e9
                  generalize packC (rowsG g (typsOf typ) dir) = Z at *
                  generalize rowsG g (typsOf typ) dir = S at *
                  clear hV9 HPK HOF
                  go_wp2_with (go_at_call 23; ((with_reducible refine (HP9.out).mono ?_); rintro e w7 ⟨A3, B3, C3, D3, k0, k1, k2, k3, rfl, hc7, hx7⟩; obtain ⟨r0, r1, r2, r3⟩ := HRX.out.grown ((HEW.out.trans hx7).gr none) (by simp); obtain ⟨f0, f1, f2, f3⟩ := HRZ.out.grown HRX.out ((HEW.out.trans hx7).gr none) (by simp)))
                  (try simp only [Exit.inBlock, Exit.then])
                  have HX7 := Lib.hid (HEW.out.trans hx7)
                  obtain ⟨w8, hw8⟩ : ∃ W, W = (((w7.setCell ⟨q2, 0, none⟩ (.slice A3 Z.nodes.length k0)).setCell ⟨q2, 1, none⟩ (.slice B3 Z.first.length k1)).setCell ⟨q2, 2, none⟩ (.slice C3 Z.tos.length k2)).setCell ⟨q2, 3, none⟩ (.slice D3 Z.edges.length k3) := ⟨_, rfl⟩
                  have hd := set4 (HRX.out.grown (HX7.out.gr none) (by simp)) (.slice A3 Z.nodes.length k0) (.slice B3 Z.first.length k1) (.slice C3 Z.tos.length k2) (.slice D3 Z.edges.length k3)
                  rw [← hw8] at hd
                  obtain ⟨e0, e1, e2, e3⟩ := hd
                  have HF := Lib.hid (by rw [hw8]; exact ((((HX.out.trans HX7.out).setCell HQ.out _).setCell HQ.out _).setCell HQ.out _).setCell HQ.out _ : Ext w w8)
                  have hnq : ¬ wr.heap.size ≤ q2 := fun h => HQ1.out (Nat.le_trans HEW.out.le h)
                  have HCC := Lib.hid (by rw [hw8]; exact (((hc7.put hnq 0 _).put hnq 1 _).put hnq 2 _).put hnq 3 _ : ColAt w8 (fun b => wr.heap.size ≤ b) A3 B3 C3 D3 Z)
                  have HLW := Lib.hid (Nat.le_trans HX.out.le HEW.out.le)
                  rw [← hw8]
                  clear hw8 r0 r1 r2 r3 f0 f1 f2 f3 hc7 hx7 hnq h9
                  refine bodyPost_ret (v := .tuple #[.agg #[.slice A3 Z.nodes.length k0, .slice B3 Z.first.length k1, .slice C3 Z.tos.length k2, .slice D3 Z.edges.length k3], .int .i64 0]) (by simp [results, Tryz.results6, go_sem, *]) rfl ?_
                  rw [HRR.out]
                  first | exact ⟨A3, B3, C3, D3, k0, k1, k2, k3, rfl, HCC.out.to (fun b hb => Nat.le_trans HLW.out hb), HF.out⟩ | exact ⟨A3, B3, C3, D3, ⟨k0, k1, k2, k3, rfl⟩, HCC.out.to (fun b hb => Nat.le_trans HLW.out hb), HF.out⟩
          · have HNO := Lib.hid (HB2.out HD0.out HBN.out.symm)
            clear HNM t1 HTE g0 g1 g2 g3
            go_upto_region 7 with (fail)
            obtain ⟨r0, r1, r2, r3⟩ := HRX.out.grown (HX3.out.gr none) (by simp)
            obtain ⟨f0, f1, f2, f3⟩ := HRZ.out.grown HRX.out (HX3.out.gr none) (by simp)
            obtain ⟨w8, hw8⟩ : ∃ W, W = (((w5.setCell ⟨q2, 0, none⟩ (.slice none 0 0)).setCell ⟨q2, 1, none⟩ (.slice none 0 0)).setCell ⟨q2, 2, none⟩ (.slice none 0 0)).setCell ⟨q2, 3, none⟩ (.slice none 0 0) := ⟨_, rfl⟩
            have hd := set4 (HRX.out.grown (HX3.out.gr none) (by simp)) (.slice none 0 0) (.slice none 0 0) (.slice none 0 0) (.slice none 0 0)
            rw [← hw8] at hd
            obtain ⟨e0, e1, e2, e3⟩ := hd
            have HF := Lib.hid (by rw [hw8]; exact ((((HX.out.trans HX3.out).setCell HQ.out _).setCell HQ.out _).setCell HQ.out _).setCell HQ.out _ : Ext w w8)
            go_wp2_with fail
            (try simp only [Exit.inBlock, Exit.then])
            rw [← hw8]
            clear hw8 r0 r1 r2 r3 f0 f1 f2 f3
            refine bodyPost_ret (v := .tuple #[.agg #[.slice none 0 0, .slice none 0 0, .slice none 0 0, .slice none 0 0], .int .i64 6]) (by simp [results, Tryz.results6, go_sem, *]) rfl ?_
            rw [HNO.out]
            first | exact ⟨none, none, none, none, 0, 0, 0, 0, rfl, ColAt.none _ _, by first | exact HF.out | exact X1 HF.out⟩ | exact ⟨none, none, none, none, ⟨0, 0, 0, 0, rfl⟩, ColAt.none _ _, by first | exact HF.out | exact X1 HF.out⟩
      · have HNO := Lib.hid (HB1.out HBD.out.symm)
        clear g0 g1 g2 g3
        go_upto_region 5 with (fail)
        obtain ⟨r0, r1, r2, r3⟩ := HRX.out.grown (HX3.out.gr none) (by simp)
        obtain ⟨f0, f1, f2, f3⟩ := HRZ.out.grown HRX.out (HX3.out.gr none) (by simp)
        obtain ⟨w8, hw8⟩ : ∃ W, W = (((w4.setCell ⟨q2, 0, none⟩ (.slice none 0 0)).setCell ⟨q2, 1, none⟩ (.slice none 0 0)).setCell ⟨q2, 2, none⟩ (.slice none 0 0)).setCell ⟨q2, 3, none⟩ (.slice none 0 0) := ⟨_, rfl⟩
        have hd := set4 (HRX.out.grown (HX3.out.gr none) (by simp)) (.slice none 0 0) (.slice none 0 0) (.slice none 0 0) (.slice none 0 0)
        rw [← hw8] at hd
        obtain ⟨e0, e1, e2, e3⟩ := hd
        have HF := Lib.hid (by rw [hw8]; exact ((((HX.out.trans HX3.out).setCell HQ.out _).setCell HQ.out _).setCell HQ.out _).setCell HQ.out _ : Ext w w8)
        go_wp2_with fail
        (try simp only [Exit.inBlock, Exit.then])
        rw [← hw8]
        clear hw8 r0 r1 r2 r3 f0 f1 f2 f3
        refine bodyPost_ret (v := .tuple #[.agg #[.slice none 0 0, .slice none 0 0, .slice none 0 0, .slice none 0 0], .int .i64 1]) (by simp [results, Tryz.results6, go_sem, *]) rfl ?_
        rw [HNO.out]
        first | exact ⟨none, none, none, none, 0, 0, 0, 0, rfl, ColAt.none _ _, by first | exact HF.out | exact X1 HF.out⟩ | exact ⟨none, none, none, none, ⟨0, 0, 0, 0, rfl⟩, ColAt.none _ _, by first | exact HF.out | exact X1 HF.out⟩
  · have HNO := Lib.hid (HB0.out hc0)
    have g : (ec != 0) = true := by rw [bne_iff_ne]; exact hc0
    have gx : (ec == 0) = false := beq_eq_false_iff_ne.2 hc0
    go_upto_region 3 with (go_at_call 20; ((with_reducible refine (HCK.out).mono ?_); rintro e w3 ⟨rfl, hx3⟩; obtain ⟨g0, g1, g2, g3⟩ := MKG.out _ hx3; clear HCK))
    clear g0 g1 g2 g3
    obtain ⟨r0, r1, r2, r3⟩ := HRX.out.grown (hx3.gr none) (by simp)
    obtain ⟨f0, f1, f2, f3⟩ := HRZ.out.grown HRX.out (hx3.gr none) (by simp)
    obtain ⟨w8, hw8⟩ : ∃ W, W = (((w3.setCell ⟨q2, 0, none⟩ (.slice none 0 0)).setCell ⟨q2, 1, none⟩ (.slice none 0 0)).setCell ⟨q2, 2, none⟩ (.slice none 0 0)).setCell ⟨q2, 3, none⟩ (.slice none 0 0) := ⟨_, rfl⟩
    have hd := set4 (HRX.out.grown (hx3.gr none) (by simp)) (.slice none 0 0) (.slice none 0 0) (.slice none 0 0) (.slice none 0 0)
    rw [← hw8] at hd
    obtain ⟨e0, e1, e2, e3⟩ := hd
    have HF := Lib.hid (by rw [hw8]; exact ((((HX.out.trans hx3).setCell HQ.out _).setCell HQ.out _).setCell HQ.out _).setCell HQ.out _ : Ext w w8)
    go_wp2_with fail
    (try simp only [Exit.inBlock, Exit.then])
    rw [← hw8]
    clear hw8 r0 r1 r2 r3 f0 f1 f2 f3
    refine bodyPost_ret (v := .tuple #[.agg #[.slice none 0 0, .slice none 0 0, .slice none 0 0, .slice none 0 0], .int .i64 ec]) (by simp [results, Tryz.results6, go_sem, *]) rfl ?_
    rw [HNO.out]
    first | exact ⟨none, none, none, none, 0, 0, 0, 0, rfl, ColAt.none _ _, by first | exact HF.out | exact X1 HF.out⟩ | exact ⟨none, none, none, none, ⟨0, 0, 0, 0, rfl⟩, ColAt.none _ _, by first | exact HF.out | exact X1 HF.out⟩
end Go.Proofs.YtnheioehadldmaaGreat

/- THE WALK over column.Entries. -/
namespace Go.Proofs.YtnheioehadldmaaGreat
open Go.RowKit
set_option maxRecDepth 100000 in
theorem co_Entries (c : Col) (ok : Nat → Prop) (A B Cx D : Option Addr) (k0 k1 k2 k3 : Nat) (w : World) (hv : ColAt w ok A B Cx D c) (hm : c.tos.length ≤ 8000000) :
    Calls Tryz.prog 19 #[agC c A B Cx D k0 k1 k2 k3] w fun e w' => ∃ A' c', e = .returned (.slice A' (entR c).length c') ∧ (entR c).length ≤ c' ∧ Shares w' (fun b => w.heap.size ≤ b) A' (entR c) ∧ Ext w w' := by
  obtain ⟨q, w1, hq, hw1, ⟨a0, a1, a2, a3⟩, hx⟩ := box_col w c A B Cx D k0 k1 k2 k3 29
  have HW := Lib.hid hw1
  have HQ := Lib.hid hq
  have HX := Lib.hid hx
  have HVA := Lib.hid (co_Valid c ok A B Cx D k0 k1 k2 k3 w1 (hv.ext hx) hm)
  have HFT := Lib.hid (fun (hs : shapeP c) W (e : Ext w1 W) => co_unpack c ok A B Cx D k0 k1 k2 k3 W ((hv.ext hx).ext e) hs hm)
  have HE1 := Lib.hid (fun (h : colB c = true) => (by unfold entR; rw [if_pos h] : entR c = flatC c))
  have HE0 := Lib.hid (fun (h : colB c = false) => (by unfold entR; rw [if_neg (by rw [h]; exact Bool.false_ne_true)] : entR c = []))
  have HSP := Lib.hid (fun (h : colB c = true) => valid_shape (colB_iff.1 h))
  obtain ⟨R, hR⟩ : ∃ R, R = entR c := ⟨_, rfl⟩
  rw [← hR] at HE1 HE0 ⊢
  clear hw1 hq hv hx hR
  unfold agC at HVA HFT ⊢
  go_enter Tryz.func19, Tryz.ntmps19
  go_upto_region 1 with (fail)
  rw [← HW.out, ← HQ.out]
  clear HW HQ
  cases hb : colB c
  · rw [hb] at HVA
    have e := HE0.out hb
    subst e
    clear hb HE0 HE1 HSP HFT
    go_wp2_with (go_at_call 15; ((with_reducible refine (HVA.out).mono ?_); rintro e w2 ⟨rfl, hx2⟩))
    go_ret
    exact ⟨none, 0, rfl, Nat.le_refl _, SliceR.nil _ _ _, HX.out.trans hx2⟩
  · rw [hb] at HVA
    have e := HE1.out hb
    have HF2 := Lib.hid (HFT.out (HSP.out hb))
    rw [← e] at HF2
    clear hb e HE0 HE1 HSP HFT
    go_wp2_with (first | (go_at_call 15; ((with_reducible refine (HVA.out).mono ?_); rintro e w2 ⟨rfl, hx2⟩; replace a0 := hx2.cell a0; replace a1 := hx2.cell a1; replace a2 := hx2.cell a2; replace a3 := hx2.cell a3)) | (go_at_call 44; ((with_reducible refine (HF2.out _ hx2).mono ?_); rintro e w3 ⟨A3, c3, rfl, hc3, hV3, hx3⟩)))
    go_ret
    have hle := Nat.le_trans HX.out.le hx2.le
    exact ⟨A3, c3, rfl, hc3, SliceR.mono hV3 (fun _ _ _ _ hx => ⟨Nat.le_trans hle hx.1, hx.2⟩), HX.out.trans (hx2.trans hx3)⟩
end Go.Proofs.YtnheioehadldmaaGreat

/- ROWS OF BYTES that a call owns; the walk over codec.varint. -/
namespace Go.Proofs.YtnheioehadldmaaGreat
open Go.RowKit
def KB : KindG Nat := ⟨fun x => [.int .u8 (x : Int)], 1, fun _ _ _ => True, fun _ => rfl, fun _ u hu => by rw [List.mem_singleton.1 hu]; rfl, fun _ _ _ _ _ _ _ => trivial⟩
theorem T_kb : ElT Tryz.prog 35 5 KB.size 1 := ⟨Tryz.underlying35, ⟨.int .u8 0, by kernel_rfl, rfl⟩, by decide⟩
abbrev OB (W : World) (base : Nat) (v : Value) (l : List Nat) : Prop := OwnG KB 5 W base (fun _ => False) v l
theorem OB.byts {W : World} {base : Nat} {v : Value} {l : List Nat} (h : OB W base v l) (hm : l.length ≤ 140737488355328) : ∃ A c, v = .slice A l.length c ∧ l.length ≤ c ∧ Byts W (fun b => base ≤ b) A l := by
  obtain ⟨A, c, h1, h2, h3⟩ := OwnG.slice (R := ByteC W (fun b => base ≤ b)) (fun x : Nat => x) h hm (fun g o x hg hc _ => ⟨hg, hc 0 _ rfl⟩)
  exact ⟨A, c, h1, h2, by rw [List.map_id'] at h3; exact h3⟩
theorem or128F : ∀ m : Fin 256, bits .or .u8 ((m.val : Nat) : Int) 128 = ((m.val % 128 + 128 : Nat) : Int) := by decide +kernel
theorem or128 (n : Nat) : bits .or .u8 ((n : Int) % 256) 128 = ((n % 128 + 128 : Nat) : Int) := by
  have h := or128F ⟨n % 256, Nat.mod_lt _ (by decide)⟩
  have e : ((n % 256 : Nat) : Int) = (n : Int) % 256 := by omega
  rw [← e, h, show n % 256 % 128 = n % 128 by omega]
set_option maxRecDepth 100000 in
set_option maxHeartbeats 1600000 in
theorem co_varint (u : Nat) (hu : u < 18446744073709551616) (w : World) :
    Calls Tryz.prog 66 #[.slice none 0 0, .int .u64 (u : Int)] w fun e w' => ∃ v, e = .returned v ∧ OB w' w.heap.size v (vi u) ∧ Ext w w' := by
  have HL := Lib.hid (vi_len10 hu)
  obtain ⟨R, hR⟩ : ∃ R, R = vi u := ⟨_, rfl⟩
  rw [← hR] at HL ⊢
  have HR := Lib.hid hR
  clear hR
  go_enter Tryz.func66, Tryz.ntmps66
  go_wp2_with fail
  go_loopw [0, 1] (fun v0 u1 W => ∃ (vO : Value) (n : Nat) (acc : List Nat), vO = v0 ∧ u1 = .int .u64 (n : Int) ∧ n < 18446744073709551616 ∧ Hid (OB W w.heap.size vO acc) ∧ Hid (acc ++ vi n = R) ∧ Hid (Ext w W)) (fun _ u1 _ => (intOf u1).toNat)
  case atStart => exact ⟨_, u, [], rfl, rfl, hu, Lib.hid (OwnG.nil _ _ _ _ _), Lib.hid HR.out.symm, Lib.hid (Ext.refl _)⟩
  case round =>
    obtain ⟨vO, n, acc, rfl, rfl, hn, HO, HM, hE⟩ := hrel
    have hm8 : acc.length + 1 ≤ 8388608 := by have h1 := congrArg List.length HM.out; rw [List.length_append] at h1; have h2 := HL.out; have h3 := List.length_pos_iff.2 (vi_ne n); omega
    by_cases hge : 128 ≤ n
    · have HM2 := Lib.hid (by have h := HM.out; rw [vi_big hge] at h; rw [List.append_assoc]; exact h : (acc ++ [n % 128 + 128]) ++ vi (n / 128) = R)
      clear HM
      go_upto_region 3 with (at_builtin; go_loud (refine own_pushG (v := vO) (hs := acc) T_kb rfl (.tmp 7) (.tmp 11) rfl wr rfl HO.out hE.out.le (n % 128 + 128 : Nat) trivial (by rw [or128]; rfl) _ rfl rfl hm8 (by decide) ?_); intro v6 w6 hO6 hg6 hd6)
      have hE6 : Ext w w6 := hE.out.grown hg6 (fun b e => (OwnG.lt HO.out e).1)
      have HO6 := Lib.hid hO6
      have HE6 := Lib.hid hE6
      clear hO6 hg6 hd6 hE6
      go_wp2_with fail
      go_roundw
      case rel => exact ⟨_, n / 128, _, rfl, by go_num, by omega, HO6, HM2, HE6⟩
      case measure => simp [intOf]; omega
    · have HM2 := Lib.hid (by have h := HM.out; rw [vi_small (by omega)] at h; exact h : acc ++ [n] = R)
      clear HM
      go_wp2_with (at_builtin; go_loud (refine own_pushG (v := vO) (hs := acc) T_kb rfl (.tmp 15) (.tmp 18) rfl wr rfl HO.out hE.out.le (n : Nat) trivial rfl _ rfl rfl hm8 (by decide) ?_); intro v6 w6 hO6 hg6 hd6)
      rw [HM2.out] at hO6
      have hE6 : Ext w w6 := hE.out.grown hg6 (fun b e => (OwnG.lt HO.out e).1)
      go_ret
      exact ⟨v6, rfl, hO6, hE6⟩
end Go.Proofs.YtnheioehadldmaaGreat
