/- PARTS OF THE WALKS, joined: Gf. -/
import Derived.Test.YtigmdddeplnciaaGreatDoorV06
/- THE WALKS over the reference's edge and Check of a graph. -/
namespace Go.Proofs.YtigmdddeplnciaaGreatDoor
open Go.RowKit
theorem r7_parts0 (P : List PropG) (ok : Nat → Prop) (B : Option Addr) (d : Nat) (w : World) (hp : Props w ok B P) (hs : ∀ p ∈ P, szV p.v) :
    Calls Tryz.prog 107 #[.slice none 0 0, .slice B P.length d] w fun e w' => e = .returned (.int .i64 (partsE [] P)) ∧ Ext w w' :=
  r7_parts [] P ok ok none B 0 d w (SliceR.nil _ _ _) hp hs
set_option maxRecDepth 100000 in
set_option maxHeartbeats 3200000 in
theorem r7_edge (g : GraphG) (ok : Nat → Prop) (A B : Option Addr) (c d : Nat) (i : Nat) (w : World) (hg : GraphAt w ok A B g) (hs : SzG g) (hi : i < g.edges.length) :
    Calls Tryz.prog 65 #[.agg #[.slice A g.nodes.length c, .slice B g.edges.length d, .int .i64 g.nn, .int .i64 g.ne], .int .i64 i] w fun e w' => e = .returned (.int .i64 (edgeE g i)) ∧ Ext w w' := by
  have hm := hg.edges.len
  obtain ⟨b, o, rfl, hc⟩ := hg.edges.at_ hi
  obtain ⟨-, d0, d1, d2, d3, B', d', d4, -, hP⟩ := hc i hi
  obtain ⟨q, w1, hq, hw1, g0, g1, g2, g3, hx1⟩ := box_graph w A (some ⟨b, o, none⟩) c d g 25
  have hq1 : w1.heap.size = q + 1 := by rw [hw1, hq]; simp
  obtain ⟨q2, w2, hq2, hw2, n0, n1, n2, n3, n4, hx2⟩ := box_edge w1 g.edges[i]! B' d' 47
  rw [hq1] at hq2
  subst hq2
  have hgn := hg.nodes
  have HP := Lib.hid (fun W (e : Ext w2 W) => r7_parts0 g.edges[i]!.props ok B' d' W (hP.ext ((hx1.trans hx2).trans e)) (hs.edges _ (mem_bang hi)))
  have HN1 := Lib.hid (fun (_ : Unit) => r7_Node g ok A (some ⟨b, o, none⟩) c d g.edges[i]!.frm w2.drew (hgn.ext ((hx1.trans hx2).drew)))
  have HN2 := Lib.hid (fun W (e : Ext w2 W) => r7_Node g ok A (some ⟨b, o, none⟩) c d g.edges[i]!.to_ W (hgn.ext ((hx1.trans hx2).trans e)))
  have HNM := Lib.hid (fun W => r7_Name g.edges[i]!.typ W)
  have hd0 := hx1.cell d0
  have hd1 := hx1.cell d1
  have hd2 := hx1.cell d2
  have hd3 := hx1.cell d3
  have hd4 := hx1.cell d4
  have G0 := hx2.cell g0
  have G1 := hx2.cell g1
  have G2 := hx2.cell g2
  have G3 := hx2.cell g3
  have hpv : 0 < i → w2.cell? ⟨b, o + (i - 1) * 5, none⟩ = some (.int .i64 g.edges[i - 1]!.id) := fun h => by
    obtain ⟨-, e0, -⟩ := hc (i - 1) (by omega)
    exact hx2.cell (hx1.cell e0)
  obtain ⟨E, hE⟩ : ∃ E, E = edgeE g i := ⟨_, rfl⟩
  rw [← hE]
  have HW1 := Lib.hid hw1
  have HW2 := Lib.hid hw2
  have HG := Lib.hid hq
  have HQ1 := Lib.hid hq1
  have hEx := hx1.trans hx2
  clear hc d0 d1 d2 d3 d4 hg hgn hs hP hw1 hw2 hq hx1 hx2 hq1
  rcases Nat.eq_zero_or_pos i with hz | hz
  · subst hz
    clear hpv
    have HE1 := Lib.hid (fun h => edgeE_1 (g := g) (i := 0) (fun h => absurd h (Nat.lt_irrefl _)) h)
    have HEP := Lib.hid (fun h1 h2 => edgeE_p (g := g) (i := 0) (fun h => absurd h (Nat.lt_irrefl _)) h1 h2)
    rw [← hE] at HE1 HEP
    clear hE
    rw [Nat.zero_mul, Nat.add_zero] at hd0 hd1 hd2 hd3 hd4
    generalize g.edges[0]! = x at *
    generalize partsE [] x.props = z at *
    generalize g.ne = ne at *
    generalize g.nn = nn at *
    generalize hasN g.nodes x.frm = b1 at *
    generalize hasN g.nodes x.to_ = b2 at *
    generalize nameB x.typ = b3 at *
    generalize g.nodes.length = nl at *
    go_enter Tryz.func65, Tryz.ntmps65
    go_upto_region 1 with (fail)
    rw [← HW1.out, ← HG.out]
    clear HW1 HG
    go_upto_region 2 with (fail)
    rw [← HW2.out, HQ1.out]
    clear HW2 HQ1 g0 g1 g2 g3
    have MKR1 := Lib.hid (fun V (e : Ext w2 V) => (e : Ext w2 V))
    refine wp_region_held_drew (S := (fun V => Ext w2 V)) (by kernel_rfl) ?hs1 (fun hHeld => ?go1)
    case hs1 => (exact MKR1.out _ (by solve_by_elim [X0, X1, X2, X3]))
    refine TK 0 (v := ?v2) hHeld ?hy2 ?_
    case hy2 => (intro w _; go_simp <;> rfl)
    (try simp only [PU])
    refine TK 1 (v := ?v3) hHeld ?hy3 ?_
    case hy3 => (intro w _; go_simp <;> first | with_reducible rfl | rw [if_neg (by omega)] | rw [if_pos (by omega)])
    (try simp only [PU])
    refine TK 2 (v := ?v4) hHeld ?hy4 ?_
    case hy4 => (intro w _; go_simp <;> rfl)
    (try simp only [PU])
    refine TN 3 hHeld ?_
    (try simp only [PU])
    refine TN 4 hHeld ?_
    (try simp only [PU])
    refine TN 5 hHeld ?_
    (try simp only [PU])
    refine TN 6 hHeld ?_
    (try simp only [PU])
    refine TN 7 hHeld ?_
    (try simp only [PU])
    refine TN 8 hHeld ?_
    (try simp only [PU])
    refine TN 9 hHeld ?_
    (try simp only [PU])
    refine TN 10 hHeld ?_
    (try simp only [PU])
    refine TN 11 hHeld ?_
    (try simp only [PU])
    refine TN 12 hHeld ?_
    (try simp only [PU])
    refine TK 13 (v := ?v15) hHeld ?hy15 ?_
    case hy15 => (intro w _; go_simp <;> rfl)
    (try simp only [PU])
    refine wpAnyH_done (by kernel_rfl) ?_ _
    clear hHeld
    clear MKR1
    have gE : Ext w2 w2.drew := (Ext.refl _).drew
    have j0 := gE.cell n0
    have j1 := gE.cell n1
    have j2 := gE.cell n2
    have j3 := gE.cell n3
    have j4 := gE.cell n4
    have k0 := gE.cell G0
    have k1 := gE.cell G1
    have k2 := gE.cell G2
    have k3 := gE.cell G3
    by_cases h1 : x.id < 1
    · go_wp2_with fail
      go_ret
      exact ⟨ret_int (HE1.out (.inl h1)).symm, hEx.trans (by solve_by_elim [X0, X1, X2, X3])⟩
    · by_cases h2 : ne ≤ x.id
      · go_wp2_with fail
        go_ret
        exact ⟨ret_int (HE1.out (.inr h2)).symm, hEx.trans (by solve_by_elim [X0, X1, X2, X3])⟩
      · have HZ := Lib.hid (HEP.out (by omega) (by omega))
        have hEw : Ext w2 w2.drew := (Ext.refl _).drew
        clear HE1 HEP
        cases b1
        · go_wp2_with (first | (go_at_call 108; ((with_reducible refine (HN1.out ()).mono ?_); rintro e v1 ⟨⟨i1, L1, nl1, cl1, P1, np1, cp1, rfl⟩, gx1⟩; replace gx1 : Ext w2 v1 := hEw.trans gx1; have m0 := gx1.cell G0; have m1 := gx1.cell G1; have m2 := gx1.cell G2; have m3 := gx1.cell G3; have r0 := gx1.cell n0; have r1 := gx1.cell n1; have r2 := gx1.cell n2; have r3 := gx1.cell n3; have r4 := gx1.cell n4; have e1 := block_lt_of_cell m0; have e2 := block_lt_of_cell r0)) | (go_at_call 108; ((with_reducible refine (HN2.out _ (by solve_by_elim [X0, X1, X2, X3])).mono ?_); rintro e v2 ⟨⟨i2, L2, nl2, cl2, P2, np2, cp2, rfl⟩, gx2⟩; replace gx2 : Ext v1 v2 := Ext.trans (by solve_by_elim [X0, X1, X2, X3]) gx2; have l0 := gx2.cell r0; have l1 := gx2.cell r1; have l2 := gx2.cell r2; have l3 := gx2.cell r3; have l4 := gx2.cell r4; have e3 := block_lt_of_cell l0)))
          go_ret
          exact ⟨ret_int (by rw [HZ.out]; rfl), hEx.trans (Ext.trans gx1 (Ext.trans gx2 (by solve_by_elim [X0, X1, X2, X3])))⟩
        · cases b2
          · go_wp2_with (first | (go_at_call 108; ((with_reducible refine (HN1.out ()).mono ?_); rintro e v1 ⟨⟨i1, L1, nl1, cl1, P1, np1, cp1, rfl⟩, gx1⟩; replace gx1 : Ext w2 v1 := hEw.trans gx1; have m0 := gx1.cell G0; have m1 := gx1.cell G1; have m2 := gx1.cell G2; have m3 := gx1.cell G3; have r0 := gx1.cell n0; have r1 := gx1.cell n1; have r2 := gx1.cell n2; have r3 := gx1.cell n3; have r4 := gx1.cell n4; have e1 := block_lt_of_cell m0; have e2 := block_lt_of_cell r0)) | (go_at_call 108; ((with_reducible refine (HN2.out _ (by solve_by_elim [X0, X1, X2, X3])).mono ?_); rintro e v2 ⟨⟨i2, L2, nl2, cl2, P2, np2, cp2, rfl⟩, gx2⟩; replace gx2 : Ext v1 v2 := Ext.trans (by solve_by_elim [X0, X1, X2, X3]) gx2; have l0 := gx2.cell r0; have l1 := gx2.cell r1; have l2 := gx2.cell r2; have l3 := gx2.cell r3; have l4 := gx2.cell r4; have e3 := block_lt_of_cell l0)))
            go_ret
            exact ⟨ret_int (by rw [HZ.out]; rfl), hEx.trans (Ext.trans gx1 (Ext.trans gx2 (by solve_by_elim [X0, X1, X2, X3])))⟩
          · cases b3
            · go_wp2_with (first | (go_at_call 108; ((with_reducible refine (HN1.out ()).mono ?_); rintro e v1 ⟨⟨i1, L1, nl1, cl1, P1, np1, cp1, rfl⟩, gx1⟩; replace gx1 : Ext w2 v1 := hEw.trans gx1; have m0 := gx1.cell G0; have m1 := gx1.cell G1; have m2 := gx1.cell G2; have m3 := gx1.cell G3; have r0 := gx1.cell n0; have r1 := gx1.cell n1; have r2 := gx1.cell n2; have r3 := gx1.cell n3; have r4 := gx1.cell n4; have e1 := block_lt_of_cell m0; have e2 := block_lt_of_cell r0)) | (go_at_call 108; ((with_reducible refine (HN2.out _ (by solve_by_elim [X0, X1, X2, X3])).mono ?_); rintro e v2 ⟨⟨i2, L2, nl2, cl2, P2, np2, cp2, rfl⟩, gx2⟩; replace gx2 : Ext v1 v2 := Ext.trans (by solve_by_elim [X0, X1, X2, X3]) gx2; have l0 := gx2.cell r0; have l1 := gx2.cell r1; have l2 := gx2.cell r2; have l3 := gx2.cell r3; have l4 := gx2.cell r4; have e3 := block_lt_of_cell l0)) | (go_at_call 109; ((with_reducible refine (HNM.out _).mono ?_); rintro e v3 ⟨rfl, rfl⟩)))
              go_ret
              exact ⟨ret_int (by rw [HZ.out]; rfl), hEx.trans (Ext.trans gx1 (Ext.trans gx2 (by solve_by_elim [X0, X1, X2, X3])))⟩
            · go_wp2_with (first | (go_at_call 108; ((with_reducible refine (HN1.out ()).mono ?_); rintro e v1 ⟨⟨i1, L1, nl1, cl1, P1, np1, cp1, rfl⟩, gx1⟩; replace gx1 : Ext w2 v1 := hEw.trans gx1; have m0 := gx1.cell G0; have m1 := gx1.cell G1; have m2 := gx1.cell G2; have m3 := gx1.cell G3; have r0 := gx1.cell n0; have r1 := gx1.cell n1; have r2 := gx1.cell n2; have r3 := gx1.cell n3; have r4 := gx1.cell n4; have e1 := block_lt_of_cell m0; have e2 := block_lt_of_cell r0)) | (go_at_call 108; ((with_reducible refine (HN2.out _ (by solve_by_elim [X0, X1, X2, X3])).mono ?_); rintro e v2 ⟨⟨i2, L2, nl2, cl2, P2, np2, cp2, rfl⟩, gx2⟩; replace gx2 : Ext v1 v2 := Ext.trans (by solve_by_elim [X0, X1, X2, X3]) gx2; have l0 := gx2.cell r0; have l1 := gx2.cell r1; have l2 := gx2.cell r2; have l3 := gx2.cell r3; have l4 := gx2.cell r4; have e3 := block_lt_of_cell l0)) | (go_at_call 109; ((with_reducible refine (HNM.out _).mono ?_); rintro e v3 ⟨rfl, rfl⟩)) | (go_at_call 107; ((with_reducible refine (HP.out _ (Ext.trans gx1 (Ext.trans gx2 (by solve_by_elim [X0, X1, X2, X3])))).mono ?_); rintro e w8 ⟨rfl, hx8⟩)))
              go_ret
              exact ⟨ret_int (by rw [HZ.out]; rfl), hEx.trans (Ext.trans gx1 (Ext.trans gx2 (Ext.trans (by solve_by_elim [X0, X1, X2, X3]) hx8)))⟩
  · replace hpv := hpv hz
    by_cases hlt : g.edges[i - 1]!.id < g.edges[i]!.id
    · have HE1 := Lib.hid (fun h => edgeE_1 (g := g) (i := i) (fun _ => hlt) h)
      have HEP := Lib.hid (fun h1 h2 => edgeE_p (g := g) (i := i) (fun _ => hlt) h1 h2)
      rw [← hE] at HE1 HEP
      clear hE
      generalize g.edges[i]! = x at *
      generalize g.edges[i - 1]! = y at *
      generalize partsE [] x.props = z at *
      generalize g.ne = ne at *
      generalize g.nn = nn at *
      generalize hasN g.nodes x.frm = b1 at *
      generalize hasN g.nodes x.to_ = b2 at *
      generalize nameB x.typ = b3 at *
      generalize g.nodes.length = nl at *
      have ho : ¬ x.id ≤ y.id := by omega
      clear hlt
      go_enter Tryz.func65, Tryz.ntmps65
      go_upto_region 1 with (fail)
      rw [← HW1.out, ← HG.out]
      clear HW1 HG
      go_upto_region 2 with (fail)
      rw [← HW2.out, HQ1.out]
      clear HW2 HQ1 g0 g1 g2 g3
      have p0 : 0 < i := by omega
      have p1 : (1 : Int) ≤ (i : Int) := by omega
      have p2 : ((i : Int) - 1).toNat = i - 1 := by omega
      have p5 : IntKind.i64.wrap ((i : Int) - 1) = (i : Int) - 1 := IntWalk.i64_in _ (by omega)
      have p6 : ((i : Int) - 1) < (g.edges.length : Int) := by omega
      have MKR2 := Lib.hid (fun V (e : Ext w2 V) => (⟨e.cell G1, e.cell n0, e.cell hpv, e⟩ : V.cell? ⟨q, 1, none⟩ = some (.slice (some ⟨b, o, none⟩) g.edges.length d) ∧ V.cell? ⟨q + 1, 0, none⟩ = some (.int .i64 x.id) ∧ V.cell? ⟨b, o + (i - 1) * 5, none⟩ = some (.int .i64 y.id) ∧ Ext w2 V))
      refine wp_region_held_drew (S := (fun V => V.cell? ⟨q, 1, none⟩ = some (.slice (some ⟨b, o, none⟩) g.edges.length d) ∧ V.cell? ⟨q + 1, 0, none⟩ = some (.int .i64 x.id) ∧ V.cell? ⟨b, o + (i - 1) * 5, none⟩ = some (.int .i64 y.id) ∧ Ext w2 V)) (by kernel_rfl) ?hs16 (fun hHeld => ?go16)
      case hs16 => (exact MKR2.out _ (by solve_by_elim [X0, X1, X2, X3]))
      refine TK 0 (v := ?v17) hHeld ?hy17 ?_
      case hy17 => (intro w _; go_simp <;> rfl)
      (try simp only [PU])
      refine TK 1 (v := ?v18) hHeld ?hy18 ?_
      case hy18 => (intro w _; go_simp <;> first | with_reducible rfl | rw [if_neg (by omega)] | rw [if_pos (by omega)])
      (try simp only [PU])
      refine TK 2 (v := ?v19) hHeld ?hy19 ?_
      case hy19 => (intro w _; go_simp <;> rfl)
      (try simp only [PU])
      refine TK 3 (v := ?v20) hHeld ?hy20 ?_
      case hy20 => (intro w _; go_simp <;> rfl)
      (try simp only [PU])
      refine TK 4 (v := ?v21) hHeld ?hy21 ?_
      case hy21 => (intro w hSw; (try dsimp only at hSw); go_simp <;> first | with_reducible rfl | rw [if_neg (by omega)] | rw [if_pos (by omega)])
      (try simp only [PU])
      refine TK 5 (v := ?v22) hHeld ?hy22 ?_
      case hy22 => (intro w _; go_simp <;> rfl)
      (try simp only [PU])
      refine TK 6 (v := ?v23) hHeld ?hy23 ?_
      case hy23 => (intro w hSw; (try dsimp only at hSw); go_simp <;> first | with_reducible rfl | rw [if_neg (by omega)] | rw [if_pos (by omega)])
      (try simp only [PU])
      refine TK 7 (v := ?v24) hHeld ?hy24 ?_
      case hy24 => (intro w _; go_simp <;> rfl)
      (try simp only [PU])
      refine TK 8 (v := ?v25) hHeld ?hy25 ?_
      case hy25 => (intro w _; go_simp <;> first | with_reducible rfl | rw [if_neg (by omega)] | rw [if_pos (by omega)])
      (try simp only [PU])
      refine TK 9 (v := ?v26) hHeld ?hy26 ?_
      case hy26 => (intro w _; go_simp <;> first | with_reducible rfl | rw [if_neg (by omega)] | rw [if_pos (by omega)])
      (try simp only [PU])
      refine TK 10 (v := ?v27) hHeld ?hy27 ?_
      case hy27 => (intro w _; go_simp <;> rfl)
      (try simp only [PU])
      refine TK 11 (v := ?v28) hHeld ?hy28 ?_
      case hy28 => (intro w hSw; (try dsimp only at hSw); go_simp <;> first | with_reducible rfl | rw [if_neg (by omega)] | rw [if_pos (by omega)])
      (try simp only [PU])
      refine TK 12 (v := ?v29) hHeld ?hy29 ?_
      case hy29 => (intro w _; go_simp <;> first | with_reducible rfl | rw [if_neg (by omega)] | rw [if_pos (by omega)])
      (try simp only [PU])
      refine TK 13 (v := ?v30) hHeld ?hy30 ?_
      case hy30 => (intro w _; go_simp <;> rfl)
      (try simp only [PU])
      refine wpAnyH_done (by kernel_rfl) ?_ _
      clear hHeld
      clear MKR2
      clear p0 p1 p2 p5 p6 ho hpv
      have gE : Ext w2 w2.drew := (Ext.refl _).drew
      have j0 := gE.cell n0
      have j1 := gE.cell n1
      have j2 := gE.cell n2
      have j3 := gE.cell n3
      have j4 := gE.cell n4
      have k0 := gE.cell G0
      have k1 := gE.cell G1
      have k2 := gE.cell G2
      have k3 := gE.cell G3
      by_cases h1 : x.id < 1
      · go_wp2_with fail
        go_ret
        exact ⟨ret_int (HE1.out (.inl h1)).symm, hEx.trans (by solve_by_elim [X0, X1, X2, X3])⟩
      · by_cases h2 : ne ≤ x.id
        · go_wp2_with fail
          go_ret
          exact ⟨ret_int (HE1.out (.inr h2)).symm, hEx.trans (by solve_by_elim [X0, X1, X2, X3])⟩
        · have HZ := Lib.hid (HEP.out (by omega) (by omega))
          have hEw : Ext w2 w2.drew := (Ext.refl _).drew
          clear HE1 HEP
          cases b1
          · go_wp2_with (first | (go_at_call 108; ((with_reducible refine (HN1.out ()).mono ?_); rintro e v1 ⟨⟨i1, L1, nl1, cl1, P1, np1, cp1, rfl⟩, gx1⟩; replace gx1 : Ext w2 v1 := hEw.trans gx1; have m0 := gx1.cell G0; have m1 := gx1.cell G1; have m2 := gx1.cell G2; have m3 := gx1.cell G3; have r0 := gx1.cell n0; have r1 := gx1.cell n1; have r2 := gx1.cell n2; have r3 := gx1.cell n3; have r4 := gx1.cell n4; have e1 := block_lt_of_cell m0; have e2 := block_lt_of_cell r0)) | (go_at_call 108; ((with_reducible refine (HN2.out _ (by solve_by_elim [X0, X1, X2, X3])).mono ?_); rintro e v2 ⟨⟨i2, L2, nl2, cl2, P2, np2, cp2, rfl⟩, gx2⟩; replace gx2 : Ext v1 v2 := Ext.trans (by solve_by_elim [X0, X1, X2, X3]) gx2; have l0 := gx2.cell r0; have l1 := gx2.cell r1; have l2 := gx2.cell r2; have l3 := gx2.cell r3; have l4 := gx2.cell r4; have e3 := block_lt_of_cell l0)))
            go_ret
            exact ⟨ret_int (by rw [HZ.out]; rfl), hEx.trans (Ext.trans gx1 (Ext.trans gx2 (by solve_by_elim [X0, X1, X2, X3])))⟩
          · cases b2
            · go_wp2_with (first | (go_at_call 108; ((with_reducible refine (HN1.out ()).mono ?_); rintro e v1 ⟨⟨i1, L1, nl1, cl1, P1, np1, cp1, rfl⟩, gx1⟩; replace gx1 : Ext w2 v1 := hEw.trans gx1; have m0 := gx1.cell G0; have m1 := gx1.cell G1; have m2 := gx1.cell G2; have m3 := gx1.cell G3; have r0 := gx1.cell n0; have r1 := gx1.cell n1; have r2 := gx1.cell n2; have r3 := gx1.cell n3; have r4 := gx1.cell n4; have e1 := block_lt_of_cell m0; have e2 := block_lt_of_cell r0)) | (go_at_call 108; ((with_reducible refine (HN2.out _ (by solve_by_elim [X0, X1, X2, X3])).mono ?_); rintro e v2 ⟨⟨i2, L2, nl2, cl2, P2, np2, cp2, rfl⟩, gx2⟩; replace gx2 : Ext v1 v2 := Ext.trans (by solve_by_elim [X0, X1, X2, X3]) gx2; have l0 := gx2.cell r0; have l1 := gx2.cell r1; have l2 := gx2.cell r2; have l3 := gx2.cell r3; have l4 := gx2.cell r4; have e3 := block_lt_of_cell l0)))
              go_ret
              exact ⟨ret_int (by rw [HZ.out]; rfl), hEx.trans (Ext.trans gx1 (Ext.trans gx2 (by solve_by_elim [X0, X1, X2, X3])))⟩
            · cases b3
              · go_wp2_with (first | (go_at_call 108; ((with_reducible refine (HN1.out ()).mono ?_); rintro e v1 ⟨⟨i1, L1, nl1, cl1, P1, np1, cp1, rfl⟩, gx1⟩; replace gx1 : Ext w2 v1 := hEw.trans gx1; have m0 := gx1.cell G0; have m1 := gx1.cell G1; have m2 := gx1.cell G2; have m3 := gx1.cell G3; have r0 := gx1.cell n0; have r1 := gx1.cell n1; have r2 := gx1.cell n2; have r3 := gx1.cell n3; have r4 := gx1.cell n4; have e1 := block_lt_of_cell m0; have e2 := block_lt_of_cell r0)) | (go_at_call 108; ((with_reducible refine (HN2.out _ (by solve_by_elim [X0, X1, X2, X3])).mono ?_); rintro e v2 ⟨⟨i2, L2, nl2, cl2, P2, np2, cp2, rfl⟩, gx2⟩; replace gx2 : Ext v1 v2 := Ext.trans (by solve_by_elim [X0, X1, X2, X3]) gx2; have l0 := gx2.cell r0; have l1 := gx2.cell r1; have l2 := gx2.cell r2; have l3 := gx2.cell r3; have l4 := gx2.cell r4; have e3 := block_lt_of_cell l0)) | (go_at_call 109; ((with_reducible refine (HNM.out _).mono ?_); rintro e v3 ⟨rfl, rfl⟩)))
                go_ret
                exact ⟨ret_int (by rw [HZ.out]; rfl), hEx.trans (Ext.trans gx1 (Ext.trans gx2 (by solve_by_elim [X0, X1, X2, X3])))⟩
              · go_wp2_with (first | (go_at_call 108; ((with_reducible refine (HN1.out ()).mono ?_); rintro e v1 ⟨⟨i1, L1, nl1, cl1, P1, np1, cp1, rfl⟩, gx1⟩; replace gx1 : Ext w2 v1 := hEw.trans gx1; have m0 := gx1.cell G0; have m1 := gx1.cell G1; have m2 := gx1.cell G2; have m3 := gx1.cell G3; have r0 := gx1.cell n0; have r1 := gx1.cell n1; have r2 := gx1.cell n2; have r3 := gx1.cell n3; have r4 := gx1.cell n4; have e1 := block_lt_of_cell m0; have e2 := block_lt_of_cell r0)) | (go_at_call 108; ((with_reducible refine (HN2.out _ (by solve_by_elim [X0, X1, X2, X3])).mono ?_); rintro e v2 ⟨⟨i2, L2, nl2, cl2, P2, np2, cp2, rfl⟩, gx2⟩; replace gx2 : Ext v1 v2 := Ext.trans (by solve_by_elim [X0, X1, X2, X3]) gx2; have l0 := gx2.cell r0; have l1 := gx2.cell r1; have l2 := gx2.cell r2; have l3 := gx2.cell r3; have l4 := gx2.cell r4; have e3 := block_lt_of_cell l0)) | (go_at_call 109; ((with_reducible refine (HNM.out _).mono ?_); rintro e v3 ⟨rfl, rfl⟩)) | (go_at_call 107; ((with_reducible refine (HP.out _ (Ext.trans gx1 (Ext.trans gx2 (by solve_by_elim [X0, X1, X2, X3])))).mono ?_); rintro e w8 ⟨rfl, hx8⟩)))
                go_ret
                exact ⟨ret_int (by rw [HZ.out]; rfl), hEx.trans (Ext.trans gx1 (Ext.trans gx2 (Ext.trans (by solve_by_elim [X0, X1, X2, X3]) hx8)))⟩
    · have HR := Lib.hid (hE.trans (edgeE_26 hz (by omega)))
      clear hE HP HN1 HN2
      generalize g.edges[i]! = x at *
      generalize g.edges[i - 1]! = y at *
      have ho : x.id ≤ y.id := by omega
      clear hlt
      go_enter Tryz.func65, Tryz.ntmps65
      go_upto_region 1 with (fail)
      rw [← HW1.out, ← HG.out]
      clear HW1 HG
      go_upto_region 2 with (fail)
      rw [← HW2.out, HQ1.out]
      clear HW2 HQ1 g0 g1 g2 g3
      have p0 : 0 < i := by omega
      have p1 : (1 : Int) ≤ (i : Int) := by omega
      have p2 : ((i : Int) - 1).toNat = i - 1 := by omega
      have p5 : IntKind.i64.wrap ((i : Int) - 1) = (i : Int) - 1 := IntWalk.i64_in _ (by omega)
      have p6 : ((i : Int) - 1) < (g.edges.length : Int) := by omega
      have MKR3 := Lib.hid (fun V (e : Ext w2 V) => (⟨e.cell G1, e.cell n0, e.cell hpv, e⟩ : V.cell? ⟨q, 1, none⟩ = some (.slice (some ⟨b, o, none⟩) g.edges.length d) ∧ V.cell? ⟨q + 1, 0, none⟩ = some (.int .i64 x.id) ∧ V.cell? ⟨b, o + (i - 1) * 5, none⟩ = some (.int .i64 y.id) ∧ Ext w2 V))
      refine wp_region_held_drew (S := (fun V => V.cell? ⟨q, 1, none⟩ = some (.slice (some ⟨b, o, none⟩) g.edges.length d) ∧ V.cell? ⟨q + 1, 0, none⟩ = some (.int .i64 x.id) ∧ V.cell? ⟨b, o + (i - 1) * 5, none⟩ = some (.int .i64 y.id) ∧ Ext w2 V)) (by kernel_rfl) ?hs31 (fun hHeld => ?go31)
      case hs31 => (exact MKR3.out _ (by solve_by_elim [X0, X1, X2, X3]))
      refine TK 0 (v := ?v32) hHeld ?hy32 ?_
      case hy32 => (intro w _; go_simp <;> rfl)
      (try simp only [PU])
      refine TK 1 (v := ?v33) hHeld ?hy33 ?_
      case hy33 => (intro w _; go_simp <;> first | with_reducible rfl | rw [if_neg (by omega)] | rw [if_pos (by omega)])
      (try simp only [PU])
      refine TK 2 (v := ?v34) hHeld ?hy34 ?_
      case hy34 => (intro w _; go_simp <;> rfl)
      (try simp only [PU])
      refine TK 3 (v := ?v35) hHeld ?hy35 ?_
      case hy35 => (intro w _; go_simp <;> rfl)
      (try simp only [PU])
      refine TK 4 (v := ?v36) hHeld ?hy36 ?_
      case hy36 => (intro w hSw; (try dsimp only at hSw); go_simp <;> first | with_reducible rfl | rw [if_neg (by omega)] | rw [if_pos (by omega)])
      (try simp only [PU])
      refine TK 5 (v := ?v37) hHeld ?hy37 ?_
      case hy37 => (intro w _; go_simp <;> rfl)
      (try simp only [PU])
      refine TK 6 (v := ?v38) hHeld ?hy38 ?_
      case hy38 => (intro w hSw; (try dsimp only at hSw); go_simp <;> first | with_reducible rfl | rw [if_neg (by omega)] | rw [if_pos (by omega)])
      (try simp only [PU])
      refine TK 7 (v := ?v39) hHeld ?hy39 ?_
      case hy39 => (intro w _; go_simp <;> rfl)
      (try simp only [PU])
      refine TK 8 (v := ?v40) hHeld ?hy40 ?_
      case hy40 => (intro w _; go_simp <;> first | with_reducible rfl | rw [if_neg (by omega)] | rw [if_pos (by omega)])
      (try simp only [PU])
      refine TK 9 (v := ?v41) hHeld ?hy41 ?_
      case hy41 => (intro w _; go_simp <;> first | with_reducible rfl | rw [if_neg (by omega)] | rw [if_pos (by omega)])
      (try simp only [PU])
      refine TK 10 (v := ?v42) hHeld ?hy42 ?_
      case hy42 => (intro w _; go_simp <;> rfl)
      (try simp only [PU])
      refine TK 11 (v := ?v43) hHeld ?hy43 ?_
      case hy43 => (intro w hSw; (try dsimp only at hSw); go_simp <;> first | with_reducible rfl | rw [if_neg (by omega)] | rw [if_pos (by omega)])
      (try simp only [PU])
      refine TK 12 (v := ?v44) hHeld ?hy44 ?_
      case hy44 => (intro w _; go_simp <;> first | with_reducible rfl | rw [if_neg (by omega)] | rw [if_pos (by omega)])
      (try simp only [PU])
      refine TK 13 (v := ?v45) hHeld ?hy45 ?_
      case hy45 => (intro w _; go_simp <;> rfl)
      (try simp only [PU])
      refine wpAnyH_done (by kernel_rfl) ?_ _
      clear hHeld
      clear MKR3
      go_wp2_with fail
      go_ret
      exact ⟨ret_int HR.out.symm, hEx.trans (by solve_by_elim [X0, X1, X2, X3])⟩
theorem chkG_head {g : GraphG} (h : headE g ≠ 0) : chkG g = headE g := by unfold chkG; rw [if_neg h]
theorem chkG_nodes {g : GraphG} (h : headE g = 0) {z : Int} (hz : nodesE g = z) (h2 : z ≠ 0) : chkG g = z := by unfold chkG; rw [if_pos h, if_neg (by rw [hz]; exact h2), hz]
theorem chkG_edges {g : GraphG} (h : headE g = 0) (h2 : nodesE g = 0) {z : Int} (hz : edgesE g = z) : chkG g = z := by unfold chkG; rw [if_pos h, if_pos h2, hz]
set_option maxRecDepth 100000 in
set_option maxHeartbeats 3200000 in
theorem r7_Check (g : GraphG) (ok : Nat → Prop) (A B : Option Addr) (c d : Nat) (w : World) (hg : GraphAt w ok A B g) (hs : SzG g) :
    Calls Tryz.prog 28 #[.agg #[.slice A g.nodes.length c, .slice B g.edges.length d, .int .i64 g.nn, .int .i64 g.ne]] w fun e w' => e = .returned (.int .i64 (chkG g)) ∧ Ext w w' := by
  have hm := hg.nodes.len
  have hm2 := hg.edges.len
  obtain ⟨q, w1, hq, hw1, g0, g1, g2, g3, hx1⟩ := box_graph w A B c d g 25
  have HW1 := Lib.hid hw1
  have HG := Lib.hid hq
  have HGA := Lib.hid (hg.ext hx1)
  have HSZ := Lib.hid hs
  clear hw1 hq hg hs
  by_cases h1 : 2000 < g.nodes.length ∨ 4000 < g.edges.length
  · have HR := Lib.hid (show chkG g = 4 by have : headE g = 4 := by unfold headE; rw [if_pos h1]
                                           rw [chkG_head (by omega), this])
    rcases h1 with h1 | h1
    all_goals
      go_enter Tryz.func28, Tryz.ntmps28
      go_upto_region 1 with (fail)
      rw [← HW1.out, ← HG.out]
      clear HW1 HG
      go_wp2_with fail
      all_goals
        go_ret
        exact ⟨ret_int HR.out.symm, hx1.trans (by solve_by_elim [X0, X1, X2, X3])⟩
  · have a1 : g.nodes.length ≤ 2000 := by omega
    have a2 : g.edges.length ≤ 4000 := by omega
    by_cases h2 : g.nn < 1 ∨ 1000001 < g.nn ∨ g.ne < 1 ∨ 1000001 < g.ne
    · have HR := Lib.hid (show chkG g = 1 by have : headE g = 1 := by unfold headE; rw [if_neg h1, if_pos h2]
                                             rw [chkG_head (by omega), this])
      clear h1
      rcases h2 with h2 | h2 | h2 | h2
      all_goals
        go_enter Tryz.func28, Tryz.ntmps28
        go_upto_region 1 with (fail)
        rw [← HW1.out, ← HG.out]
        clear HW1 HG
        go_wp2_with fail
        all_goals
          go_ret
          exact ⟨ret_int HR.out.symm, hx1.trans (by solve_by_elim [X0, X1, X2, X3])⟩
    · have HH := Lib.hid (show headE g = 0 by unfold headE; rw [if_neg h1, if_neg h2])
      have b1 : 1 ≤ g.nn := by omega
      have b2 : g.nn ≤ 1000001 := by omega
      have b3 : 1 ≤ g.ne := by omega
      have b4 : g.ne ≤ 1000001 := by omega
      have HR := Lib.hid (fun (z : Int) (hz : nodesE g = z) (h2 : z ≠ 0) => chkG_nodes HH.out hz h2)
      have HRE := Lib.hid (fun (h2 : nodesE g = 0) (z : Int) (hz : edgesE g = z) => chkG_edges HH.out h2 hz)
      have HRA := Lib.hid (fun (h2 : nodesE g = 0) (h3 : edgesE g = 0) => chkG_edges HH.out h2 h3)
      clear h1 h2 HH
      go_enter Tryz.func28, Tryz.ntmps28
      go_upto_region 1 with (fail)
      rw [← HW1.out, ← HG.out]
      clear HW1 HG
      go_wp2_with fail
      go_loopw [3] (fun u W => ∃ k : Nat, u = .int .i64 k ∧ k ≤ g.nodes.length ∧ Hid (∀ t, t < k → nodeE g t = 0) ∧ Ext w1 W) (fun u _ => g.nodes.length - (intOf u).toNat)
      case atStart => exact ⟨0, rfl, Nat.zero_le _, Lib.hid (fun t ht => absurd ht (by omega)), (by solve_by_elim [X0, X1, X2, X3])⟩
      case round =>
        obtain ⟨k, rfl, hk, hgd, hEr⟩ := hrel
        have m0 := hEr.cell g0
        have m1 := hEr.cell g1
        have m2 := hEr.cell g2
        have m3 := hEr.cell g3
        by_cases hlt : k < g.nodes.length
        · have HC := Lib.hid (fun W (e : Ext wr W) => r7_node g ok A B c d k W (HGA.out.ext (hEr.trans e)) HSZ.out hlt)
          have HS := Lib.hid (fun (h : nodeE g k = 0) t (ht : t < k + 1) => (if e : t = k then (by rw [e]; exact h) else hgd.out t (by omega) : nodeE g t = 0))
          have HX := Lib.hid (fun (h : nodeE g k ≠ 0) => firstE_at hgd.out h hlt)
          generalize nodeE g k = z at *
          by_cases he : z = 0
          · have HT := Lib.hid (HS.out he)
            subst he
            clear HS HX
            go_wp2_with (go_at_call 64; ((with_reducible refine (HC.out _ (by solve_by_elim [X0, X1, X2, X3])).mono ?_); rintro e w8 ⟨rfl, hx8⟩))
            go_roundw
            case rel => exact ⟨k + 1, by go_num, by omega, HT, hEr.trans (Ext.trans (by solve_by_elim [X0, X1, X2, X3]) hx8)⟩
            case measure => simp [intOf]; omega
          · have HT := Lib.hid (HX.out he)
            have he2 : (z != 0) = true := bne_iff_ne.2 he
            clear HS HX; have he3 := Lib.hid he; clear he
            go_wp2_with (go_at_call 64; ((with_reducible refine (HC.out _ (by solve_by_elim [X0, X1, X2, X3])).mono ?_); rintro e w8 ⟨rfl, hx8⟩))
            go_ret
            exact ⟨ret_int (HR.out _ HT.out he3.out).symm, (hx1.trans hEr).trans (Ext.trans (by solve_by_elim [X0, X1, X2, X3]) hx8)⟩
        · have HNZ := Lib.hid (show nodesE g = 0 from firstE_zero (fun t ht => hgd.out t (by omega)))
          clear HR hgd
          have hE0 := hEr
          clear hEr
          go_wp2_with fail
          clear m0 m1 m2 m3
          go_loopw [5] (fun u W => ∃ k : Nat, u = .int .i64 k ∧ k ≤ g.edges.length ∧ Hid (∀ t, t < k → edgeE g t = 0) ∧ Ext w1 W) (fun u _ => g.edges.length - (intOf u).toNat)
          case atStart => exact ⟨0, rfl, Nat.zero_le _, Lib.hid (fun t ht => absurd ht (by omega)), hE0⟩
          case round =>
            obtain ⟨k, rfl, hk, hgd, hEr⟩ := hrel
            have m0 := hEr.cell g0
            have m1 := hEr.cell g1
            have m2 := hEr.cell g2
            have m3 := hEr.cell g3
            by_cases hlt : k < g.edges.length
            · have HC := Lib.hid (fun W (e : Ext wr W) => r7_edge g ok A B c d k W (HGA.out.ext (hEr.trans e)) HSZ.out hlt)
              have HS := Lib.hid (fun (h : edgeE g k = 0) t (ht : t < k + 1) => (if e : t = k then (by rw [e]; exact h) else hgd.out t (by omega) : edgeE g t = 0))
              have HX := Lib.hid (fun (h : edgeE g k ≠ 0) => firstE_at hgd.out h hlt)
              generalize edgeE g k = z at *
              by_cases he : z = 0
              · have HT := Lib.hid (HS.out he)
                subst he
                clear HS HX
                go_wp2_with (go_at_call 65; ((with_reducible refine (HC.out _ (by solve_by_elim [X0, X1, X2, X3])).mono ?_); rintro e w8 ⟨rfl, hx8⟩))
                go_roundw
                case rel => exact ⟨k + 1, by go_num, by omega, HT, hEr.trans (Ext.trans (by solve_by_elim [X0, X1, X2, X3]) hx8)⟩
                case measure => simp [intOf]; omega
              · have HT := Lib.hid (HX.out he)
                have he2 : (z != 0) = true := bne_iff_ne.2 he
                clear he HS HX
                go_wp2_with (go_at_call 65; ((with_reducible refine (HC.out _ (by solve_by_elim [X0, X1, X2, X3])).mono ?_); rintro e w8 ⟨rfl, hx8⟩))
                go_ret
                exact ⟨ret_int (HRE.out HNZ.out _ HT.out).symm, (hx1.trans hEr).trans (Ext.trans (by solve_by_elim [X0, X1, X2, X3]) hx8)⟩
            · have HT := Lib.hid (HRA.out HNZ.out (firstE_zero (fun t ht => hgd.out t (by omega))))
              go_wp2_with fail
              go_ret
              exact ⟨ret_int HT.out.symm, hx1.trans hEr⟩
end Go.Proofs.YtigmdddeplnciaaGreatDoor
