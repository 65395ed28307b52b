/- PARTS OF THE WALKS, joined: RkF, Stage. -/
import Derived.Test.YtlkpmbkmmfoakaaGreatDoorV12
import Derived.Test.YtlkpmbkmmfoakaaGreatDoorV00
import Derived.Deep.RegionHeld
/- THE WALK over the reference's in: what a node gets by its edges. -/
namespace Go.Proofs.YtlkpmbkmmfoakaaGreatDoor
open Go.RowKit
theorem box_frac (w : World) (a b : Int) (t : TypeId) : ∃ (q : Nat) (w1 : World), q = w.heap.size ∧ w1 = w.alloc (.cells #[.int .i64 a, .int .i64 b] t) ∧ w1.cell? ⟨q, 0, none⟩ = some (.int .i64 a) ∧ w1.cell? ⟨q, 1, none⟩ = some (.int .i64 b) ∧ w1.frozen? ⟨q, 0, none⟩ = false ∧ w1.frozen? ⟨q, 1, none⟩ = false ∧ Ext w w1 :=
  ⟨_, _, rfl, rfl, by go_simp, by go_simp, by go_simp, by go_simp, (Ext.refl _).alloc _⟩
set_option maxRecDepth 100000 in
set_option maxHeartbeats 3200000 in
theorem r51_in (g : GraphG) (types : List ByteArray) (l : List Sh) (id : Int) (ok ok' ok2 : Nat → Prop) (A B T S' : Option Addr) (c d e f : Nat) (w : World) (hg : Edges w ok B g.edges) (ht : Strs w ok' T types) (hl : Shares w ok2 S' l) :
    Calls Tryz.prog 28 #[.agg #[.slice A g.nodes.length c, .slice B g.edges.length d, .int .i64 g.nn, .int .i64 g.ne], .slice T types.length e, .slice S' l.length f, .int .i64 id] w (TellsO (inO types (fun i => degN types g.edges i) l g.edges id) w) := by
  have hm := hg.len
  obtain ⟨q, w2, hq, hw2, g0, g1, g2, g3, z0, z1, y0, y1, hx2⟩ : ∃ (q : Nat) (w2 : World), q = w.heap.size ∧ w2 = (w.alloc (.cells #[.slice A g.nodes.length c, .slice B g.edges.length d, .int .i64 g.nn, .int .i64 g.ne] 25)).alloc (.cells #[.int .i64 0, .int .i64 0] 28) ∧ w2.cell? ⟨q, 0, none⟩ = some (.slice A g.nodes.length c) ∧ w2.cell? ⟨q, 1, none⟩ = some (.slice B g.edges.length d) ∧ w2.cell? ⟨q, 2, none⟩ = some (.int .i64 g.nn) ∧ w2.cell? ⟨q, 3, none⟩ = some (.int .i64 g.ne) ∧ w2.cell? ⟨q + 1, 0, none⟩ = some (.int .i64 0) ∧ w2.cell? ⟨q + 1, 1, none⟩ = some (.int .i64 0) ∧ w2.frozen? ⟨q + 1, 0, none⟩ = false ∧ w2.frozen? ⟨q + 1, 1, none⟩ = false ∧ Ext w w2 :=
    ⟨_, _, rfl, rfl, by go_simp, by go_simp, by go_simp, by go_simp, by go_simp, by go_simp, by go_simp, by go_simp, (by with_reducible repeat (first | exact Ext.refl _ | assumption | refine Ext.drew ?_ | refine Ext.drewN ?_ _ | refine Ext.alloc ?_ _))⟩
  have HW := Lib.hid hw2
  have HG := Lib.hid hq
  have HE := Lib.hid (hg.ext hx2)
  have HLE := Lib.hid (show w.heap.size ≤ q + 1 by omega)
  obtain ⟨D, hD⟩ : ∃ D : Int → Nat, D = fun i => degN types g.edges i := ⟨_, rfl⟩
  have HD' := Lib.hid (fun i W (e' : Ext w2 W) => (by have h := r51_degree g types i ok ok' A B T c d e W (hg.ext (hx2.trans e')) (ht.ext (hx2.trans e')); rw [show degN types g.edges i = D i by rw [hD]] at h; exact h : Calls Tryz.prog 51 #[.agg #[.slice A g.nodes.length c, .slice B g.edges.length d, .int .i64 g.nn, .int .i64 g.ne], .slice T types.length e, .int .i64 i] W fun e w' => e = .returned (.int .i64 (D i : Int)) ∧ Ext W w'))
  have HHT := Lib.hid (fun x W B' m' d' (h : Ext w2 W) => r7_HasType types x ok' T B' e m' d' W (ht.ext (hx2.trans h)))
  have HSHR := Lib.hid (fun i W (e' : Ext w2 W) => r51_share l i ok2 S' f W (hl.ext (hx2.trans e')))
  rw [← hD]
  obtain ⟨RV, hRV⟩ : ∃ RV, RV = inO types D l g.edges id := ⟨_, rfl⟩
  have HRN := Lib.hid (fun k (h : inO types D l (g.edges.take k) id = none) => (by rw [hRV]; exact inO_none h : RV = none))
  have HRE := Lib.hid (fun k (hk : g.edges.length ≤ k) => (by rw [hRV, List.take_of_length_le hk] : inO types D l (g.edges.take k) id = RV))
  have HSN := Lib.hid (inO_snoc types D l g.edges id)
  rw [← hRV]
  clear hw2 hq hg ht hl hD hRV
  go_enter Tryz.func28, Tryz.ntmps28
  go_upto_region 1 with (fail)
  rw [← HW.out, ← HG.out]
  clear HW HG
  go_wp2_with (go_at_call 26; ((with_reducible refine (r51_whole _ _).mono ?_); rintro e w3 ⟨rfl, hx3⟩; have k0 := hx3.cell g0; have k1 := hx3.cell g1; have k2 := hx3.cell g2; have k3 := hx3.cell g3; have kz0 := hx3.cell z0; have kz1 := hx3.cell z1; have l0 := frozen_ext hx3 z0 y0; have l1 := frozen_ext hx3 z1 y1; have hlt3 := block_lt_of_cell k0; have hlt4 := block_lt_of_cell kz0))
  obtain ⟨g8, w4, hg8, hw4, c0, c1, f0, f1, hx34⟩ := box_frac w3 0 1 28
  have hle8 : w3.heap.size ≤ g8 := by omega
  rw [← hw4, ← hg8]
  clear hw4 hg8 hlt3 hlt4
  go_loopw [11] (fun u W => ∃ (k : Nat) (S : Fr), u = .int .i64 k ∧ k ≤ g.edges.length ∧ Hid (inO types D l (g.edges.take k) id = some S) ∧ Ext w3 W ∧ W.cell? ⟨g8, 0, none⟩ = some (.int .i64 S.1) ∧ W.cell? ⟨g8, 1, none⟩ = some (.int .i64 S.2) ∧ W.frozen? ⟨g8, 0, none⟩ = false ∧ W.frozen? ⟨g8, 1, none⟩ = false) (fun u _ => g.edges.length - (intOf u).toNat)
  case atStart => exact ⟨0, (0, 1), rfl, Nat.zero_le _, Lib.hid rfl, hx34, c0, c1, f0, f1⟩
  case round =>
    clear c0 c1 f0 f1 hx34
    obtain ⟨k, S, rfl, hk, hS, hE, c0, c1, f0, f1⟩ := hrel
    have i0 := hE.cell k0
    have i1 := hE.cell k1
    have i2 := hE.cell k2
    have i3 := hE.cell k3
    by_cases hlt : k < g.edges.length
    · obtain ⟨b, o, rfl, hc⟩ := HE.out.at_ hlt
      obtain ⟨-, d0, d1, d2, d3, B', d', d4, -, -⟩ := hc k hlt
      replace d0 := hE.cell (hx3.cell d0)
      replace d1 := hE.cell (hx3.cell d1)
      replace d2 := hE.cell (hx3.cell d2)
      replace d3 := hE.cell (hx3.cell d3)
      replace d4 := hE.cell (hx3.cell d4)
      have HST := Lib.hid (HSN.out k hlt)
      rw [hS.out] at HST
      have HX := Lib.hid (fun (h : inO types D l (g.edges.take (k + 1)) id = none) => HRN.out _ h)
      obtain ⟨q5, w5, hq5, hw5, n0, n1, n2, n3, n4, hx5⟩ := box_edge wr g.edges[k]! B' d' 60
      have HC := Lib.hid (fun W (e' : Ext w5 W) => HHT.out g.edges[k]! W B' g.edges[k]!.props.length d' ((hx3.trans (hE.trans hx5)).trans e'))
      have HDG := Lib.hid (fun W (e' : Ext w5 W) => HD'.out g.edges[k]!.frm W ((hx3.trans (hE.trans hx5)).trans e'))
      have HSH := Lib.hid (fun W (e' : Ext w5 W) => HSHR.out g.edges[k]!.frm W ((hx3.trans (hE.trans hx5)).trans e'))
      have HW5 := Lib.hid hw5
      have HQ5 := Lib.hid hq5
      have hE5 := hE.trans hx5
      have hS' := hS.out
      clear hc HSN HRN HRE HD' HHT HSHR hw5 hq5 hS
      generalize g.edges[k]! = x at *
      generalize hty : typB types x.typ = ty at *
      have HTY := Lib.hid hty
      clear hty
      generalize hdg : D x.frm = dg at *
      have HDGE := Lib.hid hdg
      clear hdg
      generalize hsh : shareOf l x.frm = sh at *
      have HSHE := Lib.hid hsh
      clear hsh
      have c0' := hx5.cell c0
      have c1' := hx5.cell c1
      have f0' := frozen_ext hx5 c0 f0
      have f1' := frozen_ext hx5 c1 f1
      have j0 := hx5.cell i0
      have j1 := hx5.cell i1
      have j2 := hx5.cell i2
      have j3 := hx5.cell i3
      go_upto_region 6 with (fail)
      rw [← HW5.out, ← HQ5.out]
      clear HW5 HQ5 i0 i1 i2 i3 c0 c1 f0 f1 d0 d1 d2 d3 d4 hx5
      by_cases hto : x.to_ = id
      · have he2 : (x.to_ != id) = false := by rw [hto]; exact bne_self_eq_false' (a := id)
        cases ty
        · have HT := Lib.hid (show inO types D l (g.edges.take (k + 1)) id = some S by rw [HST.out]; unfold inStep; rw [if_neg (fun h => by rw [HTY.out] at h; cases h.2)])
          clear HST HX hS' hto
          go_wp2_with (go_at_call 54; ((with_reducible refine (HC.out _ (by with_reducible repeat (first | exact Ext.refl _ | assumption | refine Ext.drew ?_ | refine Ext.drewN ?_ _ | refine Ext.alloc ?_ _))).mono ?_); rintro e w6 ⟨rfl, hx6⟩; have m0 := hx6.cell c0'; have m1 := hx6.cell c1'; have fm0 := frozen_ext hx6 c0' f0'; have fm1 := frozen_ext hx6 c1' f1'))
          go_roundw
          case rel => exact ⟨k + 1, S, by go_num, by omega, HT, hE5.trans hx6, m0, m1, fm0, fm1⟩
          case measure => simp [intOf]; omega
        · have HIN := Lib.hid (show inO types D l (g.edges.take (k + 1)) id = (divO sh ((dg : Int), 1)).bind (fun q => addO S q) by rw [HST.out]; unfold inStep; rw [if_pos ⟨hto, HTY.out⟩, Option.bind_some, HDGE.out, HSHE.out])
          have HS := Lib.hid (fun (fq : Fr) (f : Fr) (h1 : divO sh ((dg : Int), 1) = some fq) (h : addO S fq = some f) => (by rw [HIN.out, h1, Option.bind_some]; exact h : inO types D l (g.edges.take (k + 1)) id = some f))
          have HNO1 := Lib.hid (fun (h : divO sh ((dg : Int), 1) = none) => HX.out (by rw [HIN.out, h]; rfl))
          have HNO2 := Lib.hid (fun (fq : Fr) (h1 : divO sh ((dg : Int), 1) = some fq) (h : addO S fq = none) => HX.out (by rw [HIN.out, h1, Option.bind_some]; exact h))
          have HDV := Lib.hid (fun W => q3_Div sh ((dg : Int), 1) W)
          dsimp only at HDV
          generalize divO sh ((dg : Int), 1) = dv at *
          clear HIN HST HX hS' hto HTY HDGE HSHE
          go_upto_region 7 with (go_at_call 54; ((with_reducible refine (HC.out _ (by with_reducible repeat (first | exact Ext.refl _ | assumption | refine Ext.drew ?_ | refine Ext.drewN ?_ _ | refine Ext.alloc ?_ _))).mono ?_); rintro e w6 ⟨rfl, hx6⟩; replace f0' := frozen_ext hx6 c0' f0'; replace f1' := frozen_ext hx6 c1' f1'; replace c0' := hx6.cell c0'; replace c1' := hx6.cell c1'; replace j0 := hx6.cell j0; replace j1 := hx6.cell j1; replace j2 := hx6.cell j2; replace j3 := hx6.cell j3; replace n0 := hx6.cell n0; replace n1 := hx6.cell n1; have hEx := hE5.trans hx6))
          have MKA := Lib.hid (fun V (e : Ext w6 V) => (⟨e.cell j0, e.cell j1, e.cell j2, e.cell j3, e.cell n1, e⟩ : V.cell? ⟨q, 0, none⟩ = some (.slice A g.nodes.length c) ∧ V.cell? ⟨q, 1, none⟩ = some (.slice (some ⟨b, o, none⟩) g.edges.length d) ∧ V.cell? ⟨q, 2, none⟩ = some (.int .i64 g.nn) ∧ V.cell? ⟨q, 3, none⟩ = some (.int .i64 g.ne) ∧ V.cell? ⟨q5, 1, none⟩ = some (.int .i64 x.frm) ∧ Ext w6 V))
          have MKB := Lib.hid (fun V gg u0 u1 (hgg : w6.heap.size ≤ gg) (e : Ext w6 V) => (⟨((cell_other (by have := block_lt_of_cell j0; simp at this; omega)).trans ((cell_other (by have := block_lt_of_cell j0; simp at this; omega)).trans (e.cell j0))), ((cell_other (by have := block_lt_of_cell j1; simp at this; omega)).trans ((cell_other (by have := block_lt_of_cell j1; simp at this; omega)).trans (e.cell j1))), ((cell_other (by have := block_lt_of_cell j2; simp at this; omega)).trans ((cell_other (by have := block_lt_of_cell j2; simp at this; omega)).trans (e.cell j2))), ((cell_other (by have := block_lt_of_cell j3; simp at this; omega)).trans ((cell_other (by have := block_lt_of_cell j3; simp at this; omega)).trans (e.cell j3))), ((cell_other (by have := block_lt_of_cell n1; simp at this; omega)).trans ((cell_other (by have := block_lt_of_cell n1; simp at this; omega)).trans (e.cell n1))), (Ext.setCell (Ext.setCell e hgg _) hgg _)⟩ : ((V.setCell ⟨gg, 0, none⟩ u0).setCell ⟨gg, 1, none⟩ u1).cell? ⟨q, 0, none⟩ = some (.slice A g.nodes.length c) ∧ ((V.setCell ⟨gg, 0, none⟩ u0).setCell ⟨gg, 1, none⟩ u1).cell? ⟨q, 1, none⟩ = some (.slice (some ⟨b, o, none⟩) g.edges.length d) ∧ ((V.setCell ⟨gg, 0, none⟩ u0).setCell ⟨gg, 1, none⟩ u1).cell? ⟨q, 2, none⟩ = some (.int .i64 g.nn) ∧ ((V.setCell ⟨gg, 0, none⟩ u0).setCell ⟨gg, 1, none⟩ u1).cell? ⟨q, 3, none⟩ = some (.int .i64 g.ne) ∧ ((V.setCell ⟨gg, 0, none⟩ u0).setCell ⟨gg, 1, none⟩ u1).cell? ⟨q5, 1, none⟩ = some (.int .i64 x.frm) ∧ Ext w6 ((V.setCell ⟨gg, 0, none⟩ u0).setCell ⟨gg, 1, none⟩ u1)))
          go_upto_region 7 with (fail)
          go_cut [13, 14] from 18 to 67 (fun p r wx => ∃ (gx : Nat) (a b : Int), p = .pointer (some ⟨gx, 0, none⟩) ∧ r = .bool dv.isSome ∧ Hid (∀ f, dv = some f → f = (a, b)) ∧ wx.cell? ⟨gx, 0, none⟩ = some (.int .i64 a) ∧ wx.cell? ⟨gx, 1, none⟩ = some (.int .i64 b) ∧ Ext w6 wx)
          case first =>
            refine wp_region_held_drew (S := (fun V => V.cell? ⟨q, 0, none⟩ = some (.slice A g.nodes.length c) ∧ V.cell? ⟨q, 1, none⟩ = some (.slice (some ⟨b, o, none⟩) g.edges.length d) ∧ V.cell? ⟨q, 2, none⟩ = some (.int .i64 g.nn) ∧ V.cell? ⟨q, 3, none⟩ = some (.int .i64 g.ne) ∧ V.cell? ⟨q5, 1, none⟩ = some (.int .i64 x.frm) ∧ Ext w6 V)) (by kernel_rfl) ?hs5001 (fun hHeld => ?go5001)
            case hs5001 => (first | with_reducible exact MKB.out _ _ _ _ (by first | exact Nat.le_refl _ | exact Ext.le (by with_reducible repeat (first | exact Ext.refl _ | assumption | refine Ext.drew ?_ | refine Ext.drewN ?_ _ | refine Ext.alloc ?_ _))) (by with_reducible repeat (first | exact Ext.refl _ | assumption | refine Ext.drew ?_ | refine Ext.drewN ?_ _ | refine Ext.alloc ?_ _)) | exact MKA.out _ (by with_reducible repeat (first | exact Ext.refl _ | assumption | refine Ext.drew ?_ | refine Ext.drewN ?_ _ | refine Ext.alloc ?_ _)))
            refine wpAnyH_take (i := 0) (oi := ⟨(some 41), (.move (.tmp 2)), 29, "ref.go:88", #[], none⟩) (v := ?v5002) rfl (by kernel_rfl) (by kernel_rfl) (by kernel_rfl) (fun _ _ _ h => h) (Or.inl ⟨rfl, ?hy5002⟩) hHeld ?rest5002
            case hy5002 => (intro w _; go_simp <;> rfl)
            (try simp only [PU])
            refine wpAnyH_take (i := 1) (oi := ⟨(some 42), (.fieldAddr 60 (.tmp 12) 1), 0, "ref.go:88", #[], none⟩) (v := ?v5003) rfl (by kernel_rfl) (by kernel_rfl) (by kernel_rfl) (fun _ _ _ h => h) (Or.inl ⟨rfl, ?hy5003⟩) hHeld ?rest5003
            case hy5003 => (intro w _; go_simp <;> rfl)
            (try simp only [PU])
            refine wpAnyH_take (i := 2) (oi := ⟨(some 43), (.load 3 (.tmp 42)), 3, "ref.go:88", #[⟨1, .data⟩], none⟩) (v := ?v5004) rfl (by kernel_rfl) (by kernel_rfl) (by kernel_rfl) (fun _ _ _ h => h) (Or.inl ⟨rfl, ?hy5004⟩) hHeld ?rest5004
            case hy5004 => (intro w hSw; (try dsimp only at hSw); go_simp <;> first | with_reducible rfl | rw [if_neg (by omega)] | rw [if_pos (by omega)])
            (try simp only [PU])
            refine wpAnyH_take (i := 4) (oi := ⟨(some 45), (.load 25 (.tmp 4)), 25, "ref.go:88", #[], none⟩) (v := ?v5005) rfl (by kernel_rfl) (by kernel_rfl) (by kernel_rfl) (fun _ _ _ h => h) (Or.inl ⟨rfl, ?hy5005⟩) hHeld ?rest5005
            case hy5005 => (intro w hSw; (try dsimp only at hSw); go_simp <;> first | with_reducible rfl | rw [if_neg (by omega)] | rw [if_pos (by omega)])
            (try simp only [PU])
            refine wpAnyH_take (i := 5) (oi := ⟨(some 46), (.move (.tmp 1)), 26, "ref.go:88", #[], none⟩) (v := ?v5006) rfl (by kernel_rfl) (by kernel_rfl) (by kernel_rfl) (fun _ _ _ h => h) (Or.inl ⟨rfl, ?hy5006⟩) hHeld ?rest5006
            case hy5006 => (intro w _; go_simp <;> rfl)
            (try simp only [PU])
            refine wpAnyH_take (i := 6) (oi := ⟨(some 47), (.fieldAddr 60 (.tmp 12) 1), 0, "ref.go:88", #[], none⟩) (v := ?v5007) rfl (by kernel_rfl) (by kernel_rfl) (by kernel_rfl) (fun _ _ _ h => h) (Or.inl ⟨rfl, ?hy5007⟩) hHeld ?rest5007
            case hy5007 => (intro w _; go_simp <;> rfl)
            (try simp only [PU])
            refine wpAnyH_take (i := 7) (oi := ⟨(some 48), (.load 3 (.tmp 47)), 3, "ref.go:88", #[⟨6, .data⟩], none⟩) (v := ?v5008) rfl (by kernel_rfl) (by kernel_rfl) (by kernel_rfl) (fun _ _ _ h => h) (Or.inl ⟨rfl, ?hy5008⟩) hHeld ?rest5008
            case hy5008 => (intro w hSw; (try dsimp only at hSw); go_simp <;> first | with_reducible rfl | rw [if_neg (by omega)] | rw [if_pos (by omega)])
            (try simp only [PU])
            refine wpAnyH_ready (rs := [3, 14]) (by kernel_rfl) (by simp) ?_
            refine AllReadyH.cons (o := ⟨(some 44), (.call { callee := (.value (.func 55)), args := #[(.tmp 41), (.tmp 43)], argTypes := #[29, 3] }), 28, "ref.go:88", #[⟨0, .data⟩, ⟨2, .data⟩], none⟩) rfl (fun K hK => ?step5009x0) ?more5009x0
            case more5009x0 =>
              refine AllReadyH.cons (o := ⟨(some 13), (.alloc 28), 0, "ref.go:88", #[], none⟩) rfl (fun K hK => ?step5009x1) ?more5009x1
              case more5009x1 => exact AllReadyH.nil
              go_simp
              refine hK.out _ _ ?hS5009x1 (fun hHeld5009 => ?rest5009x1)
              case hS5009x1 => first | (first | with_reducible exact MKB.out _ _ _ _ (by first | exact Nat.le_refl _ | exact Ext.le (by with_reducible repeat (first | exact Ext.refl _ | assumption | refine Ext.drew ?_ | refine Ext.drewN ?_ _ | refine Ext.alloc ?_ _))) (by with_reducible repeat (first | exact Ext.refl _ | assumption | refine Ext.drew ?_ | refine Ext.drewN ?_ _ | refine Ext.alloc ?_ _)) | exact MKA.out _ (by with_reducible repeat (first | exact Ext.refl _ | assumption | refine Ext.drew ?_ | refine Ext.drewN ?_ _ | refine Ext.alloc ?_ _))) | ((try dsimp only); (first | with_reducible exact MKB.out _ _ _ _ (by first | exact Nat.le_refl _ | exact Ext.le (by with_reducible repeat (first | exact Ext.refl _ | assumption | refine Ext.drew ?_ | refine Ext.drewN ?_ _ | refine Ext.alloc ?_ _))) (by with_reducible repeat (first | exact Ext.refl _ | assumption | refine Ext.drew ?_ | refine Ext.drewN ?_ _ | refine Ext.alloc ?_ _)) | exact MKA.out _ (by with_reducible repeat (first | exact Ext.refl _ | assumption | refine Ext.drew ?_ | refine Ext.drewN ?_ _ | refine Ext.alloc ?_ _))))
              clear hK K
              clear hHeld
              (try simp only [PU])
              refine wpAnyH_ready (rs := [3]) (by kernel_rfl) (by simp) ?_
              refine AllReadyH.cons (o := ⟨(some 44), (.call { callee := (.value (.func 55)), args := #[(.tmp 41), (.tmp 43)], argTypes := #[29, 3] }), 28, "ref.go:88", #[⟨0, .data⟩, ⟨2, .data⟩], none⟩) rfl (fun K hK => ?step5010x0) ?more5010x0
              case more5010x0 => exact AllReadyH.nil
              go_simp
              (refine (HSH.out _ (hx6.trans (by with_reducible repeat (first | exact Ext.refl _ | assumption | refine Ext.drew ?_ | refine Ext.drewN ?_ _ | refine Ext.alloc ?_ _)))).mono ?_; rintro e v1 ⟨rfl, hv1⟩; have zz0 := hv1.cell (p := ⟨w6.heap.size, 0, none⟩) (v := (.int .i64 0)) (by go_simp); have zz1 := hv1.cell (p := ⟨w6.heap.size, 1, none⟩) (v := (.int .i64 0)) (by go_simp); have yy0 := frozen_ext hv1 (p := ⟨w6.heap.size, 0, none⟩) (v := (.int .i64 0)) (by go_simp) (by go_simp); have yy1 := frozen_ext hv1 (p := ⟨w6.heap.size, 1, none⟩) (v := (.int .i64 0)) (by go_simp) (by go_simp); replace hv1 : Ext w6 v1 := Ext.trans (by with_reducible repeat (first | exact Ext.refl _ | assumption | refine Ext.drew ?_ | refine Ext.drewN ?_ _ | refine Ext.alloc ?_ _)) hv1)
              refine hK.out _ _ ?hS5010x0 (fun hHeld5010 => ?rest5010x0)
              case hS5010x0 => first | (first | with_reducible exact MKB.out _ _ _ _ (by first | exact Nat.le_refl _ | exact Ext.le (by with_reducible repeat (first | exact Ext.refl _ | assumption | refine Ext.drew ?_ | refine Ext.drewN ?_ _ | refine Ext.alloc ?_ _))) (by with_reducible repeat (first | exact Ext.refl _ | assumption | refine Ext.drew ?_ | refine Ext.drewN ?_ _ | refine Ext.alloc ?_ _)) | exact MKA.out _ (by with_reducible repeat (first | exact Ext.refl _ | assumption | refine Ext.drew ?_ | refine Ext.drewN ?_ _ | refine Ext.alloc ?_ _))) | ((try dsimp only); (first | with_reducible exact MKB.out _ _ _ _ (by first | exact Nat.le_refl _ | exact Ext.le (by with_reducible repeat (first | exact Ext.refl _ | assumption | refine Ext.drew ?_ | refine Ext.drewN ?_ _ | refine Ext.alloc ?_ _))) (by with_reducible repeat (first | exact Ext.refl _ | assumption | refine Ext.drew ?_ | refine Ext.drewN ?_ _ | refine Ext.alloc ?_ _)) | exact MKA.out _ (by with_reducible repeat (first | exact Ext.refl _ | assumption | refine Ext.drew ?_ | refine Ext.drewN ?_ _ | refine Ext.alloc ?_ _))))
              clear hK K
              clear hHeld5009
              (try simp only [PU])
              refine wpAnyH_ready (rs := [8]) (by kernel_rfl) (by simp) ?_
              refine AllReadyH.cons (o := ⟨(some 49), (.call { callee := (.value (.func 51)), args := #[(.tmp 45), (.tmp 46), (.tmp 48)], argTypes := #[25, 26, 3] }), 3, "ref.go:88", #[⟨4, .data⟩, ⟨5, .data⟩, ⟨7, .data⟩, ⟨3, .chain⟩], none⟩) rfl (fun K hK => ?step5011x0) ?more5011x0
              case more5011x0 => exact AllReadyH.nil
              go_simp
              (refine (HDG.out _ (hx6.trans (by with_reducible repeat (first | exact Ext.refl _ | assumption | refine Ext.drew ?_ | refine Ext.drewN ?_ _ | refine Ext.alloc ?_ _)))).mono ?_; rintro e v2 ⟨rfl, hv2⟩; replace yy0 := frozen_ext hv2 zz0 yy0; replace zz0 := hv2.cell zz0; replace yy1 := frozen_ext hv2 zz1 yy1; replace zz1 := hv2.cell zz1; replace hv2 : Ext w6 v2 := Ext.trans (by with_reducible repeat (first | exact Ext.refl _ | assumption | refine Ext.drew ?_ | refine Ext.drewN ?_ _ | refine Ext.alloc ?_ _)) hv2)
              refine hK.out _ _ ?hS5011x0 (fun hHeld5011 => ?rest5011x0)
              case hS5011x0 => first | (first | with_reducible exact MKB.out _ _ _ _ (by first | exact Nat.le_refl _ | exact Ext.le (by with_reducible repeat (first | exact Ext.refl _ | assumption | refine Ext.drew ?_ | refine Ext.drewN ?_ _ | refine Ext.alloc ?_ _))) (by with_reducible repeat (first | exact Ext.refl _ | assumption | refine Ext.drew ?_ | refine Ext.drewN ?_ _ | refine Ext.alloc ?_ _)) | exact MKA.out _ (by with_reducible repeat (first | exact Ext.refl _ | assumption | refine Ext.drew ?_ | refine Ext.drewN ?_ _ | refine Ext.alloc ?_ _))) | ((try dsimp only); (first | with_reducible exact MKB.out _ _ _ _ (by first | exact Nat.le_refl _ | exact Ext.le (by with_reducible repeat (first | exact Ext.refl _ | assumption | refine Ext.drew ?_ | refine Ext.drewN ?_ _ | refine Ext.alloc ?_ _))) (by with_reducible repeat (first | exact Ext.refl _ | assumption | refine Ext.drew ?_ | refine Ext.drewN ?_ _ | refine Ext.alloc ?_ _)) | exact MKA.out _ (by with_reducible repeat (first | exact Ext.refl _ | assumption | refine Ext.drew ?_ | refine Ext.drewN ?_ _ | refine Ext.alloc ?_ _))))
              clear hK K
              clear hHeld5010
              (try simp only [PU])
              refine wpAnyH_ready (rs := [9]) (by kernel_rfl) (by simp) ?_
              refine AllReadyH.cons (o := ⟨(some 50), (.call { callee := (.value (.func 26)), args := #[(.tmp 49)], argTypes := #[3] }), 28, "ref.go:88", #[⟨8, .data⟩, ⟨8, .chain⟩], none⟩) rfl (fun K hK => ?step5012x0) ?more5012x0
              case more5012x0 => exact AllReadyH.nil
              go_simp
              (refine (r51_whole _ _).mono ?_; rintro e v3 ⟨rfl, hv3⟩; replace yy0 := frozen_ext hv3 zz0 yy0; replace zz0 := hv3.cell zz0; replace yy1 := frozen_ext hv3 zz1 yy1; replace zz1 := hv3.cell zz1; replace hv3 : Ext w6 v3 := Ext.trans (by with_reducible repeat (first | exact Ext.refl _ | assumption | refine Ext.drew ?_ | refine Ext.drewN ?_ _ | refine Ext.alloc ?_ _)) hv3)
              refine hK.out _ _ ?hS5012x0 (fun hHeld5012 => ?rest5012x0)
              case hS5012x0 => first | (first | with_reducible exact MKB.out _ _ _ _ (by first | exact Nat.le_refl _ | exact Ext.le (by with_reducible repeat (first | exact Ext.refl _ | assumption | refine Ext.drew ?_ | refine Ext.drewN ?_ _ | refine Ext.alloc ?_ _))) (by with_reducible repeat (first | exact Ext.refl _ | assumption | refine Ext.drew ?_ | refine Ext.drewN ?_ _ | refine Ext.alloc ?_ _)) | exact MKA.out _ (by with_reducible repeat (first | exact Ext.refl _ | assumption | refine Ext.drew ?_ | refine Ext.drewN ?_ _ | refine Ext.alloc ?_ _))) | ((try dsimp only); (first | with_reducible exact MKB.out _ _ _ _ (by first | exact Nat.le_refl _ | exact Ext.le (by with_reducible repeat (first | exact Ext.refl _ | assumption | refine Ext.drew ?_ | refine Ext.drewN ?_ _ | refine Ext.alloc ?_ _))) (by with_reducible repeat (first | exact Ext.refl _ | assumption | refine Ext.drew ?_ | refine Ext.drewN ?_ _ | refine Ext.alloc ?_ _)) | exact MKA.out _ (by with_reducible repeat (first | exact Ext.refl _ | assumption | refine Ext.drew ?_ | refine Ext.drewN ?_ _ | refine Ext.alloc ?_ _))))
              clear hK K
              clear hHeld5011
              (try simp only [PU])
              refine wpAnyH_ready (rs := [10]) (by kernel_rfl) (by simp) ?_
              refine AllReadyH.cons (o := ⟨(some 51), (.call { callee := (.value (.func 27)), args := #[(.tmp 44), (.tmp 50)], argTypes := #[28, 28] }), 41, "ref.go:88", #[⟨3, .data⟩, ⟨9, .data⟩, ⟨9, .chain⟩], none⟩) rfl (fun K hK => ?step5013x0) ?more5013x0
              case more5013x0 => exact AllReadyH.nil
              go_simp
              (refine (HDV.out _).mono ?_; rintro e v4 ⟨⟨qa, qb, rfl, hqv⟩, hv4⟩; have HQV := Lib.hid hqv; clear hqv; replace yy0 := frozen_ext hv4 zz0 yy0; replace zz0 := hv4.cell zz0; replace yy1 := frozen_ext hv4 zz1 yy1; replace zz1 := hv4.cell zz1; replace hv4 : Ext w6 v4 := Ext.trans (by with_reducible repeat (first | exact Ext.refl _ | assumption | refine Ext.drew ?_ | refine Ext.drewN ?_ _ | refine Ext.alloc ?_ _)) hv4)
              refine hK.out _ _ ?hS5013x0 (fun hHeld5013 => ?rest5013x0)
              case hS5013x0 => first | (first | with_reducible exact MKB.out _ _ _ _ (by first | exact Nat.le_refl _ | exact Ext.le (by with_reducible repeat (first | exact Ext.refl _ | assumption | refine Ext.drew ?_ | refine Ext.drewN ?_ _ | refine Ext.alloc ?_ _))) (by with_reducible repeat (first | exact Ext.refl _ | assumption | refine Ext.drew ?_ | refine Ext.drewN ?_ _ | refine Ext.alloc ?_ _)) | exact MKA.out _ (by with_reducible repeat (first | exact Ext.refl _ | assumption | refine Ext.drew ?_ | refine Ext.drewN ?_ _ | refine Ext.alloc ?_ _))) | ((try dsimp only); (first | with_reducible exact MKB.out _ _ _ _ (by first | exact Nat.le_refl _ | exact Ext.le (by with_reducible repeat (first | exact Ext.refl _ | assumption | refine Ext.drew ?_ | refine Ext.drewN ?_ _ | refine Ext.alloc ?_ _))) (by with_reducible repeat (first | exact Ext.refl _ | assumption | refine Ext.drew ?_ | refine Ext.drewN ?_ _ | refine Ext.alloc ?_ _)) | exact MKA.out _ (by with_reducible repeat (first | exact Ext.refl _ | assumption | refine Ext.drew ?_ | refine Ext.drewN ?_ _ | refine Ext.alloc ?_ _))))
              clear hK K
              clear hHeld5012
              (try simp only [PU])
              refine wpAnyH_take (i := 11) (oi := ⟨(some 40), (.move (.tmp 51)), 41, "ref.go:88", #[⟨10, .data⟩], none⟩) (v := ?v5014) rfl (by kernel_rfl) (by kernel_rfl) (by kernel_rfl) (fun _ _ _ h => h) (Or.inl ⟨rfl, ?hy5014⟩) hHeld5013 ?rest5014
              case hy5014 => (intro w _; go_simp <;> rfl)
              (try simp only [PU])
              refine wpAnyH_take (i := 12) (oi := ⟨(some 52), (.extract (.tmp 40) 0), 28, "ref.go:88", #[⟨11, .data⟩], none⟩) (v := ?v5015) rfl (by kernel_rfl) (by kernel_rfl) (by kernel_rfl) (fun _ _ _ h => h) (Or.inl ⟨rfl, ?hy5015⟩) hHeld5013 ?rest5015
              case hy5015 => (intro w _; go_simp <;> rfl)
              (try simp only [PU])
              refine wpAnyH_take (i := 13) (oi := ⟨(some 53), (.extract (.tmp 40) 1), 4, "ref.go:88", #[⟨11, .data⟩, ⟨15, (.gcOnly Departure.lateStores)⟩], none⟩) (v := ?v5016) rfl (by kernel_rfl) (by kernel_rfl) (by kernel_rfl) (fun _ _ _ h => h) (Or.inl ⟨rfl, ?hy5016⟩) hHeld5013 ?rest5016
              case hy5016 => (intro w _; go_simp <;> rfl)
              (try simp only [PU])
              refine wpAnyH_ready (rs := [15]) (by kernel_rfl) (by simp) ?_
              refine AllReadyH.cons (o := ⟨none, (.store 28 (.tmp 13) (.tmp 52)), 0, "ref.go:88", #[⟨14, .data⟩, ⟨12, .data⟩, ⟨10, .chain⟩, ⟨0, .phase⟩, ⟨1, .phase⟩, ⟨2, .phase⟩, ⟨3, .phase⟩, ⟨4, .phase⟩, ⟨5, .phase⟩, ⟨6, .phase⟩, ⟨7, .phase⟩, ⟨8, .phase⟩, ⟨9, .phase⟩, ⟨10, .phase⟩, ⟨11, .phase⟩, ⟨12, .phase⟩, ⟨13, (.textOnly Departure.lateStores)⟩, ⟨14, .phase⟩], none⟩) rfl (fun K hK => ?step5017x0) ?more5017x0
              case more5017x0 => exact AllReadyH.nil
              go_simp
              refine hK.out _ _ ?hS5017x0 (fun hHeld5017 => ?rest5017x0)
              case hS5017x0 => first | (first | with_reducible exact MKB.out _ _ _ _ (by first | exact Nat.le_refl _ | exact Ext.le (by with_reducible repeat (first | exact Ext.refl _ | assumption | refine Ext.drew ?_ | refine Ext.drewN ?_ _ | refine Ext.alloc ?_ _))) (by with_reducible repeat (first | exact Ext.refl _ | assumption | refine Ext.drew ?_ | refine Ext.drewN ?_ _ | refine Ext.alloc ?_ _)) | exact MKA.out _ (by with_reducible repeat (first | exact Ext.refl _ | assumption | refine Ext.drew ?_ | refine Ext.drewN ?_ _ | refine Ext.alloc ?_ _))) | ((try dsimp only); (first | with_reducible exact MKB.out _ _ _ _ (by first | exact Nat.le_refl _ | exact Ext.le (by with_reducible repeat (first | exact Ext.refl _ | assumption | refine Ext.drew ?_ | refine Ext.drewN ?_ _ | refine Ext.alloc ?_ _))) (by with_reducible repeat (first | exact Ext.refl _ | assumption | refine Ext.drew ?_ | refine Ext.drewN ?_ _ | refine Ext.alloc ?_ _)) | exact MKA.out _ (by with_reducible repeat (first | exact Ext.refl _ | assumption | refine Ext.drew ?_ | refine Ext.drewN ?_ _ | refine Ext.alloc ?_ _))))
              clear hK K
              clear hHeld5013
              refine wpAnyH_take (i := 16) (oi := ⟨(some 14), (.assign (.tmp 53)), 4, "ref.go:88", #[⟨13, .data⟩, ⟨15, .chain⟩, ⟨0, .phase⟩, ⟨1, .phase⟩, ⟨2, .phase⟩, ⟨3, .phase⟩, ⟨4, .phase⟩, ⟨5, .phase⟩, ⟨6, .phase⟩, ⟨7, .phase⟩, ⟨8, .phase⟩, ⟨9, .phase⟩, ⟨10, .phase⟩, ⟨11, .phase⟩, ⟨12, .phase⟩, ⟨13, .phase⟩, ⟨14, .phase⟩, ⟨15, .phase⟩], none⟩) (v := ?v5018) rfl (by kernel_rfl) (by kernel_rfl) (by kernel_rfl) (fun _ _ _ h => h) (Or.inl ⟨rfl, ?hy5018⟩) hHeld5017 ?rest5018
              case hy5018 => (intro w _; go_simp <;> first | with_reducible rfl | rw [if_neg (by omega)] | rw [if_pos (by omega)])
              (try simp only [PU])
              refine wpAnyH_done (by kernel_rfl) ?_ _
              clear hHeld5017
              go_wp2_with fail
              go_meet
              case rel => exact ⟨w6.heap.size, qa, qb, rfl, rfl, HQV, by go_simp, by go_simp, (Ext.setCell (Ext.setCell (by with_reducible repeat (first | exact Ext.refl _ | assumption | refine Ext.drew ?_ | refine Ext.drewN ?_ _ | refine Ext.alloc ?_ _)) (by first | exact Nat.le_refl _ | exact Ext.le (by with_reducible repeat (first | exact Ext.refl _ | assumption | refine Ext.drew ?_ | refine Ext.drewN ?_ _ | refine Ext.alloc ?_ _))) _) (by first | exact Nat.le_refl _ | exact Ext.le (by with_reducible repeat (first | exact Ext.refl _ | assumption | refine Ext.drew ?_ | refine Ext.drewN ?_ _ | refine Ext.alloc ?_ _))) _)⟩
            go_simp
            (refine (HSH.out _ (hx6.trans (by with_reducible repeat (first | exact Ext.refl _ | assumption | refine Ext.drew ?_ | refine Ext.drewN ?_ _ | refine Ext.alloc ?_ _)))).mono ?_; rintro e v1 ⟨rfl, hv1⟩; replace hv1 : Ext w6 v1 := Ext.trans (by with_reducible repeat (first | exact Ext.refl _ | assumption | refine Ext.drew ?_ | refine Ext.drewN ?_ _ | refine Ext.alloc ?_ _)) hv1)
            refine hK.out _ _ ?hS5009x0 (fun hHeld5009 => ?rest5009x0)
            case hS5009x0 => first | (first | with_reducible exact MKB.out _ _ _ _ (by first | exact Nat.le_refl _ | exact Ext.le (by with_reducible repeat (first | exact Ext.refl _ | assumption | refine Ext.drew ?_ | refine Ext.drewN ?_ _ | refine Ext.alloc ?_ _))) (by with_reducible repeat (first | exact Ext.refl _ | assumption | refine Ext.drew ?_ | refine Ext.drewN ?_ _ | refine Ext.alloc ?_ _)) | exact MKA.out _ (by with_reducible repeat (first | exact Ext.refl _ | assumption | refine Ext.drew ?_ | refine Ext.drewN ?_ _ | refine Ext.alloc ?_ _))) | ((try dsimp only); (first | with_reducible exact MKB.out _ _ _ _ (by first | exact Nat.le_refl _ | exact Ext.le (by with_reducible repeat (first | exact Ext.refl _ | assumption | refine Ext.drew ?_ | refine Ext.drewN ?_ _ | refine Ext.alloc ?_ _))) (by with_reducible repeat (first | exact Ext.refl _ | assumption | refine Ext.drew ?_ | refine Ext.drewN ?_ _ | refine Ext.alloc ?_ _)) | exact MKA.out _ (by with_reducible repeat (first | exact Ext.refl _ | assumption | refine Ext.drew ?_ | refine Ext.drewN ?_ _ | refine Ext.alloc ?_ _))))
            clear hK K
            clear hHeld
            (try simp only [PU])
            refine wpAnyH_ready (rs := [8, 14]) (by kernel_rfl) (by simp) ?_
            refine AllReadyH.cons (o := ⟨(some 49), (.call { callee := (.value (.func 51)), args := #[(.tmp 45), (.tmp 46), (.tmp 48)], argTypes := #[25, 26, 3] }), 3, "ref.go:88", #[⟨4, .data⟩, ⟨5, .data⟩, ⟨7, .data⟩, ⟨3, .chain⟩], none⟩) rfl (fun K hK => ?step5019x0) ?more5019x0
            case more5019x0 =>
              refine AllReadyH.cons (o := ⟨(some 13), (.alloc 28), 0, "ref.go:88", #[], none⟩) rfl (fun K hK => ?step5019x1) ?more5019x1
              case more5019x1 => exact AllReadyH.nil
              go_simp
              refine hK.out _ _ ?hS5019x1 (fun hHeld5019 => ?rest5019x1)
              case hS5019x1 => first | (first | with_reducible exact MKB.out _ _ _ _ (by first | exact Nat.le_refl _ | exact Ext.le (by with_reducible repeat (first | exact Ext.refl _ | assumption | refine Ext.drew ?_ | refine Ext.drewN ?_ _ | refine Ext.alloc ?_ _))) (by with_reducible repeat (first | exact Ext.refl _ | assumption | refine Ext.drew ?_ | refine Ext.drewN ?_ _ | refine Ext.alloc ?_ _)) | exact MKA.out _ (by with_reducible repeat (first | exact Ext.refl _ | assumption | refine Ext.drew ?_ | refine Ext.drewN ?_ _ | refine Ext.alloc ?_ _))) | ((try dsimp only); (first | with_reducible exact MKB.out _ _ _ _ (by first | exact Nat.le_refl _ | exact Ext.le (by with_reducible repeat (first | exact Ext.refl _ | assumption | refine Ext.drew ?_ | refine Ext.drewN ?_ _ | refine Ext.alloc ?_ _))) (by with_reducible repeat (first | exact Ext.refl _ | assumption | refine Ext.drew ?_ | refine Ext.drewN ?_ _ | refine Ext.alloc ?_ _)) | exact MKA.out _ (by with_reducible repeat (first | exact Ext.refl _ | assumption | refine Ext.drew ?_ | refine Ext.drewN ?_ _ | refine Ext.alloc ?_ _))))
              clear hK K
              clear hHeld5009
              (try simp only [PU])
              refine wpAnyH_ready (rs := [8]) (by kernel_rfl) (by simp) ?_
              refine AllReadyH.cons (o := ⟨(some 49), (.call { callee := (.value (.func 51)), args := #[(.tmp 45), (.tmp 46), (.tmp 48)], argTypes := #[25, 26, 3] }), 3, "ref.go:88", #[⟨4, .data⟩, ⟨5, .data⟩, ⟨7, .data⟩, ⟨3, .chain⟩], none⟩) rfl (fun K hK => ?step5020x0) ?more5020x0
              case more5020x0 => exact AllReadyH.nil
              go_simp
              (refine (HDG.out _ (hx6.trans (by with_reducible repeat (first | exact Ext.refl _ | assumption | refine Ext.drew ?_ | refine Ext.drewN ?_ _ | refine Ext.alloc ?_ _)))).mono ?_; rintro e v2 ⟨rfl, hv2⟩; have zz0 := hv2.cell (p := ⟨v1.heap.size, 0, none⟩) (v := (.int .i64 0)) (by go_simp); have zz1 := hv2.cell (p := ⟨v1.heap.size, 1, none⟩) (v := (.int .i64 0)) (by go_simp); have yy0 := frozen_ext hv2 (p := ⟨v1.heap.size, 0, none⟩) (v := (.int .i64 0)) (by go_simp) (by go_simp); have yy1 := frozen_ext hv2 (p := ⟨v1.heap.size, 1, none⟩) (v := (.int .i64 0)) (by go_simp) (by go_simp); replace hv2 : Ext w6 v2 := Ext.trans (by with_reducible repeat (first | exact Ext.refl _ | assumption | refine Ext.drew ?_ | refine Ext.drewN ?_ _ | refine Ext.alloc ?_ _)) hv2)
              refine hK.out _ _ ?hS5020x0 (fun hHeld5020 => ?rest5020x0)
              case hS5020x0 => first | (first | with_reducible exact MKB.out _ _ _ _ (by first | exact Nat.le_refl _ | exact Ext.le (by with_reducible repeat (first | exact Ext.refl _ | assumption | refine Ext.drew ?_ | refine Ext.drewN ?_ _ | refine Ext.alloc ?_ _))) (by with_reducible repeat (first | exact Ext.refl _ | assumption | refine Ext.drew ?_ | refine Ext.drewN ?_ _ | refine Ext.alloc ?_ _)) | exact MKA.out _ (by with_reducible repeat (first | exact Ext.refl _ | assumption | refine Ext.drew ?_ | refine Ext.drewN ?_ _ | refine Ext.alloc ?_ _))) | ((try dsimp only); (first | with_reducible exact MKB.out _ _ _ _ (by first | exact Nat.le_refl _ | exact Ext.le (by with_reducible repeat (first | exact Ext.refl _ | assumption | refine Ext.drew ?_ | refine Ext.drewN ?_ _ | refine Ext.alloc ?_ _))) (by with_reducible repeat (first | exact Ext.refl _ | assumption | refine Ext.drew ?_ | refine Ext.drewN ?_ _ | refine Ext.alloc ?_ _)) | exact MKA.out _ (by with_reducible repeat (first | exact Ext.refl _ | assumption | refine Ext.drew ?_ | refine Ext.drewN ?_ _ | refine Ext.alloc ?_ _))))
              clear hK K
              clear hHeld5019
              (try simp only [PU])
              refine wpAnyH_ready (rs := [9]) (by kernel_rfl) (by simp) ?_
              refine AllReadyH.cons (o := ⟨(some 50), (.call { callee := (.value (.func 26)), args := #[(.tmp 49)], argTypes := #[3] }), 28, "ref.go:88", #[⟨8, .data⟩, ⟨8, .chain⟩], none⟩) rfl (fun K hK => ?step5021x0) ?more5021x0
              case more5021x0 => exact AllReadyH.nil
              go_simp
              (refine (r51_whole _ _).mono ?_; rintro e v3 ⟨rfl, hv3⟩; replace yy0 := frozen_ext hv3 zz0 yy0; replace zz0 := hv3.cell zz0; replace yy1 := frozen_ext hv3 zz1 yy1; replace zz1 := hv3.cell zz1; replace hv3 : Ext w6 v3 := Ext.trans (by with_reducible repeat (first | exact Ext.refl _ | assumption | refine Ext.drew ?_ | refine Ext.drewN ?_ _ | refine Ext.alloc ?_ _)) hv3)
              refine hK.out _ _ ?hS5021x0 (fun hHeld5021 => ?rest5021x0)
              case hS5021x0 => first | (first | with_reducible exact MKB.out _ _ _ _ (by first | exact Nat.le_refl _ | exact Ext.le (by with_reducible repeat (first | exact Ext.refl _ | assumption | refine Ext.drew ?_ | refine Ext.drewN ?_ _ | refine Ext.alloc ?_ _))) (by with_reducible repeat (first | exact Ext.refl _ | assumption | refine Ext.drew ?_ | refine Ext.drewN ?_ _ | refine Ext.alloc ?_ _)) | exact MKA.out _ (by with_reducible repeat (first | exact Ext.refl _ | assumption | refine Ext.drew ?_ | refine Ext.drewN ?_ _ | refine Ext.alloc ?_ _))) | ((try dsimp only); (first | with_reducible exact MKB.out _ _ _ _ (by first | exact Nat.le_refl _ | exact Ext.le (by with_reducible repeat (first | exact Ext.refl _ | assumption | refine Ext.drew ?_ | refine Ext.drewN ?_ _ | refine Ext.alloc ?_ _))) (by with_reducible repeat (first | exact Ext.refl _ | assumption | refine Ext.drew ?_ | refine Ext.drewN ?_ _ | refine Ext.alloc ?_ _)) | exact MKA.out _ (by with_reducible repeat (first | exact Ext.refl _ | assumption | refine Ext.drew ?_ | refine Ext.drewN ?_ _ | refine Ext.alloc ?_ _))))
              clear hK K
              clear hHeld5020
              (try simp only [PU])
              refine wpAnyH_ready (rs := [10]) (by kernel_rfl) (by simp) ?_
              refine AllReadyH.cons (o := ⟨(some 51), (.call { callee := (.value (.func 27)), args := #[(.tmp 44), (.tmp 50)], argTypes := #[28, 28] }), 41, "ref.go:88", #[⟨3, .data⟩, ⟨9, .data⟩, ⟨9, .chain⟩], none⟩) rfl (fun K hK => ?step5022x0) ?more5022x0
              case more5022x0 => exact AllReadyH.nil
              go_simp
              (refine (HDV.out _).mono ?_; rintro e v4 ⟨⟨qa, qb, rfl, hqv⟩, hv4⟩; have HQV := Lib.hid hqv; clear hqv; replace yy0 := frozen_ext hv4 zz0 yy0; replace zz0 := hv4.cell zz0; replace yy1 := frozen_ext hv4 zz1 yy1; replace zz1 := hv4.cell zz1; replace hv4 : Ext w6 v4 := Ext.trans (by with_reducible repeat (first | exact Ext.refl _ | assumption | refine Ext.drew ?_ | refine Ext.drewN ?_ _ | refine Ext.alloc ?_ _)) hv4)
              refine hK.out _ _ ?hS5022x0 (fun hHeld5022 => ?rest5022x0)
              case hS5022x0 => first | (first | with_reducible exact MKB.out _ _ _ _ (by first | exact Nat.le_refl _ | exact Ext.le (by with_reducible repeat (first | exact Ext.refl _ | assumption | refine Ext.drew ?_ | refine Ext.drewN ?_ _ | refine Ext.alloc ?_ _))) (by with_reducible repeat (first | exact Ext.refl _ | assumption | refine Ext.drew ?_ | refine Ext.drewN ?_ _ | refine Ext.alloc ?_ _)) | exact MKA.out _ (by with_reducible repeat (first | exact Ext.refl _ | assumption | refine Ext.drew ?_ | refine Ext.drewN ?_ _ | refine Ext.alloc ?_ _))) | ((try dsimp only); (first | with_reducible exact MKB.out _ _ _ _ (by first | exact Nat.le_refl _ | exact Ext.le (by with_reducible repeat (first | exact Ext.refl _ | assumption | refine Ext.drew ?_ | refine Ext.drewN ?_ _ | refine Ext.alloc ?_ _))) (by with_reducible repeat (first | exact Ext.refl _ | assumption | refine Ext.drew ?_ | refine Ext.drewN ?_ _ | refine Ext.alloc ?_ _)) | exact MKA.out _ (by with_reducible repeat (first | exact Ext.refl _ | assumption | refine Ext.drew ?_ | refine Ext.drewN ?_ _ | refine Ext.alloc ?_ _))))
              clear hK K
              clear hHeld5021
              (try simp only [PU])
              refine wpAnyH_take (i := 11) (oi := ⟨(some 40), (.move (.tmp 51)), 41, "ref.go:88", #[⟨10, .data⟩], none⟩) (v := ?v5023) rfl (by kernel_rfl) (by kernel_rfl) (by kernel_rfl) (fun _ _ _ h => h) (Or.inl ⟨rfl, ?hy5023⟩) hHeld5022 ?rest5023
              case hy5023 => (intro w _; go_simp <;> rfl)
              (try simp only [PU])
              refine wpAnyH_take (i := 12) (oi := ⟨(some 52), (.extract (.tmp 40) 0), 28, "ref.go:88", #[⟨11, .data⟩], none⟩) (v := ?v5024) rfl (by kernel_rfl) (by kernel_rfl) (by kernel_rfl) (fun _ _ _ h => h) (Or.inl ⟨rfl, ?hy5024⟩) hHeld5022 ?rest5024
              case hy5024 => (intro w _; go_simp <;> rfl)
              (try simp only [PU])
              refine wpAnyH_take (i := 13) (oi := ⟨(some 53), (.extract (.tmp 40) 1), 4, "ref.go:88", #[⟨11, .data⟩, ⟨15, (.gcOnly Departure.lateStores)⟩], none⟩) (v := ?v5025) rfl (by kernel_rfl) (by kernel_rfl) (by kernel_rfl) (fun _ _ _ h => h) (Or.inl ⟨rfl, ?hy5025⟩) hHeld5022 ?rest5025
              case hy5025 => (intro w _; go_simp <;> rfl)
              (try simp only [PU])
              refine wpAnyH_ready (rs := [15]) (by kernel_rfl) (by simp) ?_
              refine AllReadyH.cons (o := ⟨none, (.store 28 (.tmp 13) (.tmp 52)), 0, "ref.go:88", #[⟨14, .data⟩, ⟨12, .data⟩, ⟨10, .chain⟩, ⟨0, .phase⟩, ⟨1, .phase⟩, ⟨2, .phase⟩, ⟨3, .phase⟩, ⟨4, .phase⟩, ⟨5, .phase⟩, ⟨6, .phase⟩, ⟨7, .phase⟩, ⟨8, .phase⟩, ⟨9, .phase⟩, ⟨10, .phase⟩, ⟨11, .phase⟩, ⟨12, .phase⟩, ⟨13, (.textOnly Departure.lateStores)⟩, ⟨14, .phase⟩], none⟩) rfl (fun K hK => ?step5026x0) ?more5026x0
              case more5026x0 => exact AllReadyH.nil
              go_simp
              refine hK.out _ _ ?hS5026x0 (fun hHeld5026 => ?rest5026x0)
              case hS5026x0 => first | (first | with_reducible exact MKB.out _ _ _ _ (by first | exact Nat.le_refl _ | exact Ext.le (by with_reducible repeat (first | exact Ext.refl _ | assumption | refine Ext.drew ?_ | refine Ext.drewN ?_ _ | refine Ext.alloc ?_ _))) (by with_reducible repeat (first | exact Ext.refl _ | assumption | refine Ext.drew ?_ | refine Ext.drewN ?_ _ | refine Ext.alloc ?_ _)) | exact MKA.out _ (by with_reducible repeat (first | exact Ext.refl _ | assumption | refine Ext.drew ?_ | refine Ext.drewN ?_ _ | refine Ext.alloc ?_ _))) | ((try dsimp only); (first | with_reducible exact MKB.out _ _ _ _ (by first | exact Nat.le_refl _ | exact Ext.le (by with_reducible repeat (first | exact Ext.refl _ | assumption | refine Ext.drew ?_ | refine Ext.drewN ?_ _ | refine Ext.alloc ?_ _))) (by with_reducible repeat (first | exact Ext.refl _ | assumption | refine Ext.drew ?_ | refine Ext.drewN ?_ _ | refine Ext.alloc ?_ _)) | exact MKA.out _ (by with_reducible repeat (first | exact Ext.refl _ | assumption | refine Ext.drew ?_ | refine Ext.drewN ?_ _ | refine Ext.alloc ?_ _))))
              clear hK K
              clear hHeld5022
              refine wpAnyH_take (i := 16) (oi := ⟨(some 14), (.assign (.tmp 53)), 4, "ref.go:88", #[⟨13, .data⟩, ⟨15, .chain⟩, ⟨0, .phase⟩, ⟨1, .phase⟩, ⟨2, .phase⟩, ⟨3, .phase⟩, ⟨4, .phase⟩, ⟨5, .phase⟩, ⟨6, .phase⟩, ⟨7, .phase⟩, ⟨8, .phase⟩, ⟨9, .phase⟩, ⟨10, .phase⟩, ⟨11, .phase⟩, ⟨12, .phase⟩, ⟨13, .phase⟩, ⟨14, .phase⟩, ⟨15, .phase⟩], none⟩) (v := ?v5027) rfl (by kernel_rfl) (by kernel_rfl) (by kernel_rfl) (fun _ _ _ h => h) (Or.inl ⟨rfl, ?hy5027⟩) hHeld5026 ?rest5027
              case hy5027 => (intro w _; go_simp <;> first | with_reducible rfl | rw [if_neg (by omega)] | rw [if_pos (by omega)])
              (try simp only [PU])
              refine wpAnyH_done (by kernel_rfl) ?_ _
              clear hHeld5026
              go_wp2_with fail
              go_meet
              case rel => exact ⟨v1.heap.size, qa, qb, rfl, rfl, HQV, by go_simp, by go_simp, (Ext.setCell (Ext.setCell (by with_reducible repeat (first | exact Ext.refl _ | assumption | refine Ext.drew ?_ | refine Ext.drewN ?_ _ | refine Ext.alloc ?_ _)) (by first | exact Nat.le_refl _ | exact Ext.le (by with_reducible repeat (first | exact Ext.refl _ | assumption | refine Ext.drew ?_ | refine Ext.drewN ?_ _ | refine Ext.alloc ?_ _))) _) (by first | exact Nat.le_refl _ | exact Ext.le (by with_reducible repeat (first | exact Ext.refl _ | assumption | refine Ext.drew ?_ | refine Ext.drewN ?_ _ | refine Ext.alloc ?_ _))) _)⟩
            go_simp
            (refine (HDG.out _ (hx6.trans (by with_reducible repeat (first | exact Ext.refl _ | assumption | refine Ext.drew ?_ | refine Ext.drewN ?_ _ | refine Ext.alloc ?_ _)))).mono ?_; rintro e v2 ⟨rfl, hv2⟩; replace hv2 : Ext w6 v2 := Ext.trans (by with_reducible repeat (first | exact Ext.refl _ | assumption | refine Ext.drew ?_ | refine Ext.drewN ?_ _ | refine Ext.alloc ?_ _)) hv2)
            refine hK.out _ _ ?hS5019x0 (fun hHeld5019 => ?rest5019x0)
            case hS5019x0 => first | (first | with_reducible exact MKB.out _ _ _ _ (by first | exact Nat.le_refl _ | exact Ext.le (by with_reducible repeat (first | exact Ext.refl _ | assumption | refine Ext.drew ?_ | refine Ext.drewN ?_ _ | refine Ext.alloc ?_ _))) (by with_reducible repeat (first | exact Ext.refl _ | assumption | refine Ext.drew ?_ | refine Ext.drewN ?_ _ | refine Ext.alloc ?_ _)) | exact MKA.out _ (by with_reducible repeat (first | exact Ext.refl _ | assumption | refine Ext.drew ?_ | refine Ext.drewN ?_ _ | refine Ext.alloc ?_ _))) | ((try dsimp only); (first | with_reducible exact MKB.out _ _ _ _ (by first | exact Nat.le_refl _ | exact Ext.le (by with_reducible repeat (first | exact Ext.refl _ | assumption | refine Ext.drew ?_ | refine Ext.drewN ?_ _ | refine Ext.alloc ?_ _))) (by with_reducible repeat (first | exact Ext.refl _ | assumption | refine Ext.drew ?_ | refine Ext.drewN ?_ _ | refine Ext.alloc ?_ _)) | exact MKA.out _ (by with_reducible repeat (first | exact Ext.refl _ | assumption | refine Ext.drew ?_ | refine Ext.drewN ?_ _ | refine Ext.alloc ?_ _))))
            clear hK K
            clear hHeld5009
            (try simp only [PU])
            refine wpAnyH_ready (rs := [9, 14]) (by kernel_rfl) (by simp) ?_
            refine AllReadyH.cons (o := ⟨(some 50), (.call { callee := (.value (.func 26)), args := #[(.tmp 49)], argTypes := #[3] }), 28, "ref.go:88", #[⟨8, .data⟩, ⟨8, .chain⟩], none⟩) rfl (fun K hK => ?step5028x0) ?more5028x0
            case more5028x0 =>
              refine AllReadyH.cons (o := ⟨(some 13), (.alloc 28), 0, "ref.go:88", #[], none⟩) rfl (fun K hK => ?step5028x1) ?more5028x1
              case more5028x1 => exact AllReadyH.nil
              go_simp
              refine hK.out _ _ ?hS5028x1 (fun hHeld5028 => ?rest5028x1)
              case hS5028x1 => first | (first | with_reducible exact MKB.out _ _ _ _ (by first | exact Nat.le_refl _ | exact Ext.le (by with_reducible repeat (first | exact Ext.refl _ | assumption | refine Ext.drew ?_ | refine Ext.drewN ?_ _ | refine Ext.alloc ?_ _))) (by with_reducible repeat (first | exact Ext.refl _ | assumption | refine Ext.drew ?_ | refine Ext.drewN ?_ _ | refine Ext.alloc ?_ _)) | exact MKA.out _ (by with_reducible repeat (first | exact Ext.refl _ | assumption | refine Ext.drew ?_ | refine Ext.drewN ?_ _ | refine Ext.alloc ?_ _))) | ((try dsimp only); (first | with_reducible exact MKB.out _ _ _ _ (by first | exact Nat.le_refl _ | exact Ext.le (by with_reducible repeat (first | exact Ext.refl _ | assumption | refine Ext.drew ?_ | refine Ext.drewN ?_ _ | refine Ext.alloc ?_ _))) (by with_reducible repeat (first | exact Ext.refl _ | assumption | refine Ext.drew ?_ | refine Ext.drewN ?_ _ | refine Ext.alloc ?_ _)) | exact MKA.out _ (by with_reducible repeat (first | exact Ext.refl _ | assumption | refine Ext.drew ?_ | refine Ext.drewN ?_ _ | refine Ext.alloc ?_ _))))
              clear hK K
              clear hHeld5019
              (try simp only [PU])
              refine wpAnyH_ready (rs := [9]) (by kernel_rfl) (by simp) ?_
              refine AllReadyH.cons (o := ⟨(some 50), (.call { callee := (.value (.func 26)), args := #[(.tmp 49)], argTypes := #[3] }), 28, "ref.go:88", #[⟨8, .data⟩, ⟨8, .chain⟩], none⟩) rfl (fun K hK => ?step5029x0) ?more5029x0
              case more5029x0 => exact AllReadyH.nil
              go_simp
              (refine (r51_whole _ _).mono ?_; rintro e v3 ⟨rfl, hv3⟩; have zz0 := hv3.cell (p := ⟨v2.heap.size, 0, none⟩) (v := (.int .i64 0)) (by go_simp); have zz1 := hv3.cell (p := ⟨v2.heap.size, 1, none⟩) (v := (.int .i64 0)) (by go_simp); have yy0 := frozen_ext hv3 (p := ⟨v2.heap.size, 0, none⟩) (v := (.int .i64 0)) (by go_simp) (by go_simp); have yy1 := frozen_ext hv3 (p := ⟨v2.heap.size, 1, none⟩) (v := (.int .i64 0)) (by go_simp) (by go_simp); replace hv3 : Ext w6 v3 := Ext.trans (by with_reducible repeat (first | exact Ext.refl _ | assumption | refine Ext.drew ?_ | refine Ext.drewN ?_ _ | refine Ext.alloc ?_ _)) hv3)
              refine hK.out _ _ ?hS5029x0 (fun hHeld5029 => ?rest5029x0)
              case hS5029x0 => first | (first | with_reducible exact MKB.out _ _ _ _ (by first | exact Nat.le_refl _ | exact Ext.le (by with_reducible repeat (first | exact Ext.refl _ | assumption | refine Ext.drew ?_ | refine Ext.drewN ?_ _ | refine Ext.alloc ?_ _))) (by with_reducible repeat (first | exact Ext.refl _ | assumption | refine Ext.drew ?_ | refine Ext.drewN ?_ _ | refine Ext.alloc ?_ _)) | exact MKA.out _ (by with_reducible repeat (first | exact Ext.refl _ | assumption | refine Ext.drew ?_ | refine Ext.drewN ?_ _ | refine Ext.alloc ?_ _))) | ((try dsimp only); (first | with_reducible exact MKB.out _ _ _ _ (by first | exact Nat.le_refl _ | exact Ext.le (by with_reducible repeat (first | exact Ext.refl _ | assumption | refine Ext.drew ?_ | refine Ext.drewN ?_ _ | refine Ext.alloc ?_ _))) (by with_reducible repeat (first | exact Ext.refl _ | assumption | refine Ext.drew ?_ | refine Ext.drewN ?_ _ | refine Ext.alloc ?_ _)) | exact MKA.out _ (by with_reducible repeat (first | exact Ext.refl _ | assumption | refine Ext.drew ?_ | refine Ext.drewN ?_ _ | refine Ext.alloc ?_ _))))
              clear hK K
              clear hHeld5028
              (try simp only [PU])
              refine wpAnyH_ready (rs := [10]) (by kernel_rfl) (by simp) ?_
              refine AllReadyH.cons (o := ⟨(some 51), (.call { callee := (.value (.func 27)), args := #[(.tmp 44), (.tmp 50)], argTypes := #[28, 28] }), 41, "ref.go:88", #[⟨3, .data⟩, ⟨9, .data⟩, ⟨9, .chain⟩], none⟩) rfl (fun K hK => ?step5030x0) ?more5030x0
              case more5030x0 => exact AllReadyH.nil
              go_simp
              (refine (HDV.out _).mono ?_; rintro e v4 ⟨⟨qa, qb, rfl, hqv⟩, hv4⟩; have HQV := Lib.hid hqv; clear hqv; replace yy0 := frozen_ext hv4 zz0 yy0; replace zz0 := hv4.cell zz0; replace yy1 := frozen_ext hv4 zz1 yy1; replace zz1 := hv4.cell zz1; replace hv4 : Ext w6 v4 := Ext.trans (by with_reducible repeat (first | exact Ext.refl _ | assumption | refine Ext.drew ?_ | refine Ext.drewN ?_ _ | refine Ext.alloc ?_ _)) hv4)
              refine hK.out _ _ ?hS5030x0 (fun hHeld5030 => ?rest5030x0)
              case hS5030x0 => first | (first | with_reducible exact MKB.out _ _ _ _ (by first | exact Nat.le_refl _ | exact Ext.le (by with_reducible repeat (first | exact Ext.refl _ | assumption | refine Ext.drew ?_ | refine Ext.drewN ?_ _ | refine Ext.alloc ?_ _))) (by with_reducible repeat (first | exact Ext.refl _ | assumption | refine Ext.drew ?_ | refine Ext.drewN ?_ _ | refine Ext.alloc ?_ _)) | exact MKA.out _ (by with_reducible repeat (first | exact Ext.refl _ | assumption | refine Ext.drew ?_ | refine Ext.drewN ?_ _ | refine Ext.alloc ?_ _))) | ((try dsimp only); (first | with_reducible exact MKB.out _ _ _ _ (by first | exact Nat.le_refl _ | exact Ext.le (by with_reducible repeat (first | exact Ext.refl _ | assumption | refine Ext.drew ?_ | refine Ext.drewN ?_ _ | refine Ext.alloc ?_ _))) (by with_reducible repeat (first | exact Ext.refl _ | assumption | refine Ext.drew ?_ | refine Ext.drewN ?_ _ | refine Ext.alloc ?_ _)) | exact MKA.out _ (by with_reducible repeat (first | exact Ext.refl _ | assumption | refine Ext.drew ?_ | refine Ext.drewN ?_ _ | refine Ext.alloc ?_ _))))
              clear hK K
              clear hHeld5029
              (try simp only [PU])
              refine wpAnyH_take (i := 11) (oi := ⟨(some 40), (.move (.tmp 51)), 41, "ref.go:88", #[⟨10, .data⟩], none⟩) (v := ?v5031) rfl (by kernel_rfl) (by kernel_rfl) (by kernel_rfl) (fun _ _ _ h => h) (Or.inl ⟨rfl, ?hy5031⟩) hHeld5030 ?rest5031
              case hy5031 => (intro w _; go_simp <;> rfl)
              (try simp only [PU])
              refine wpAnyH_take (i := 12) (oi := ⟨(some 52), (.extract (.tmp 40) 0), 28, "ref.go:88", #[⟨11, .data⟩], none⟩) (v := ?v5032) rfl (by kernel_rfl) (by kernel_rfl) (by kernel_rfl) (fun _ _ _ h => h) (Or.inl ⟨rfl, ?hy5032⟩) hHeld5030 ?rest5032
              case hy5032 => (intro w _; go_simp <;> rfl)
              (try simp only [PU])
              refine wpAnyH_take (i := 13) (oi := ⟨(some 53), (.extract (.tmp 40) 1), 4, "ref.go:88", #[⟨11, .data⟩, ⟨15, (.gcOnly Departure.lateStores)⟩], none⟩) (v := ?v5033) rfl (by kernel_rfl) (by kernel_rfl) (by kernel_rfl) (fun _ _ _ h => h) (Or.inl ⟨rfl, ?hy5033⟩) hHeld5030 ?rest5033
              case hy5033 => (intro w _; go_simp <;> rfl)
              (try simp only [PU])
              refine wpAnyH_ready (rs := [15]) (by kernel_rfl) (by simp) ?_
              refine AllReadyH.cons (o := ⟨none, (.store 28 (.tmp 13) (.tmp 52)), 0, "ref.go:88", #[⟨14, .data⟩, ⟨12, .data⟩, ⟨10, .chain⟩, ⟨0, .phase⟩, ⟨1, .phase⟩, ⟨2, .phase⟩, ⟨3, .phase⟩, ⟨4, .phase⟩, ⟨5, .phase⟩, ⟨6, .phase⟩, ⟨7, .phase⟩, ⟨8, .phase⟩, ⟨9, .phase⟩, ⟨10, .phase⟩, ⟨11, .phase⟩, ⟨12, .phase⟩, ⟨13, (.textOnly Departure.lateStores)⟩, ⟨14, .phase⟩], none⟩) rfl (fun K hK => ?step5034x0) ?more5034x0
              case more5034x0 => exact AllReadyH.nil
              go_simp
              refine hK.out _ _ ?hS5034x0 (fun hHeld5034 => ?rest5034x0)
              case hS5034x0 => first | (first | with_reducible exact MKB.out _ _ _ _ (by first | exact Nat.le_refl _ | exact Ext.le (by with_reducible repeat (first | exact Ext.refl _ | assumption | refine Ext.drew ?_ | refine Ext.drewN ?_ _ | refine Ext.alloc ?_ _))) (by with_reducible repeat (first | exact Ext.refl _ | assumption | refine Ext.drew ?_ | refine Ext.drewN ?_ _ | refine Ext.alloc ?_ _)) | exact MKA.out _ (by with_reducible repeat (first | exact Ext.refl _ | assumption | refine Ext.drew ?_ | refine Ext.drewN ?_ _ | refine Ext.alloc ?_ _))) | ((try dsimp only); (first | with_reducible exact MKB.out _ _ _ _ (by first | exact Nat.le_refl _ | exact Ext.le (by with_reducible repeat (first | exact Ext.refl _ | assumption | refine Ext.drew ?_ | refine Ext.drewN ?_ _ | refine Ext.alloc ?_ _))) (by with_reducible repeat (first | exact Ext.refl _ | assumption | refine Ext.drew ?_ | refine Ext.drewN ?_ _ | refine Ext.alloc ?_ _)) | exact MKA.out _ (by with_reducible repeat (first | exact Ext.refl _ | assumption | refine Ext.drew ?_ | refine Ext.drewN ?_ _ | refine Ext.alloc ?_ _))))
              clear hK K
              clear hHeld5030
              refine wpAnyH_take (i := 16) (oi := ⟨(some 14), (.assign (.tmp 53)), 4, "ref.go:88", #[⟨13, .data⟩, ⟨15, .chain⟩, ⟨0, .phase⟩, ⟨1, .phase⟩, ⟨2, .phase⟩, ⟨3, .phase⟩, ⟨4, .phase⟩, ⟨5, .phase⟩, ⟨6, .phase⟩, ⟨7, .phase⟩, ⟨8, .phase⟩, ⟨9, .phase⟩, ⟨10, .phase⟩, ⟨11, .phase⟩, ⟨12, .phase⟩, ⟨13, .phase⟩, ⟨14, .phase⟩, ⟨15, .phase⟩], none⟩) (v := ?v5035) rfl (by kernel_rfl) (by kernel_rfl) (by kernel_rfl) (fun _ _ _ h => h) (Or.inl ⟨rfl, ?hy5035⟩) hHeld5034 ?rest5035
              case hy5035 => (intro w _; go_simp <;> first | with_reducible rfl | rw [if_neg (by omega)] | rw [if_pos (by omega)])
              (try simp only [PU])
              refine wpAnyH_done (by kernel_rfl) ?_ _
              clear hHeld5034
              go_wp2_with fail
              go_meet
              case rel => exact ⟨v2.heap.size, qa, qb, rfl, rfl, HQV, by go_simp, by go_simp, (Ext.setCell (Ext.setCell (by with_reducible repeat (first | exact Ext.refl _ | assumption | refine Ext.drew ?_ | refine Ext.drewN ?_ _ | refine Ext.alloc ?_ _)) (by first | exact Nat.le_refl _ | exact Ext.le (by with_reducible repeat (first | exact Ext.refl _ | assumption | refine Ext.drew ?_ | refine Ext.drewN ?_ _ | refine Ext.alloc ?_ _))) _) (by first | exact Nat.le_refl _ | exact Ext.le (by with_reducible repeat (first | exact Ext.refl _ | assumption | refine Ext.drew ?_ | refine Ext.drewN ?_ _ | refine Ext.alloc ?_ _))) _)⟩
            go_simp
            (refine (r51_whole _ _).mono ?_; rintro e v3 ⟨rfl, hv3⟩; replace hv3 : Ext w6 v3 := Ext.trans (by with_reducible repeat (first | exact Ext.refl _ | assumption | refine Ext.drew ?_ | refine Ext.drewN ?_ _ | refine Ext.alloc ?_ _)) hv3)
            refine hK.out _ _ ?hS5028x0 (fun hHeld5028 => ?rest5028x0)
            case hS5028x0 => first | (first | with_reducible exact MKB.out _ _ _ _ (by first | exact Nat.le_refl _ | exact Ext.le (by with_reducible repeat (first | exact Ext.refl _ | assumption | refine Ext.drew ?_ | refine Ext.drewN ?_ _ | refine Ext.alloc ?_ _))) (by with_reducible repeat (first | exact Ext.refl _ | assumption | refine Ext.drew ?_ | refine Ext.drewN ?_ _ | refine Ext.alloc ?_ _)) | exact MKA.out _ (by with_reducible repeat (first | exact Ext.refl _ | assumption | refine Ext.drew ?_ | refine Ext.drewN ?_ _ | refine Ext.alloc ?_ _))) | ((try dsimp only); (first | with_reducible exact MKB.out _ _ _ _ (by first | exact Nat.le_refl _ | exact Ext.le (by with_reducible repeat (first | exact Ext.refl _ | assumption | refine Ext.drew ?_ | refine Ext.drewN ?_ _ | refine Ext.alloc ?_ _))) (by with_reducible repeat (first | exact Ext.refl _ | assumption | refine Ext.drew ?_ | refine Ext.drewN ?_ _ | refine Ext.alloc ?_ _)) | exact MKA.out _ (by with_reducible repeat (first | exact Ext.refl _ | assumption | refine Ext.drew ?_ | refine Ext.drewN ?_ _ | refine Ext.alloc ?_ _))))
            clear hK K
            clear hHeld5019
            (try simp only [PU])
            refine wpAnyH_ready (rs := [10, 14]) (by kernel_rfl) (by simp) ?_
            refine AllReadyH.cons (o := ⟨(some 51), (.call { callee := (.value (.func 27)), args := #[(.tmp 44), (.tmp 50)], argTypes := #[28, 28] }), 41, "ref.go:88", #[⟨3, .data⟩, ⟨9, .data⟩, ⟨9, .chain⟩], none⟩) rfl (fun K hK => ?step5036x0) ?more5036x0
            case more5036x0 =>
              refine AllReadyH.cons (o := ⟨(some 13), (.alloc 28), 0, "ref.go:88", #[], none⟩) rfl (fun K hK => ?step5036x1) ?more5036x1
              case more5036x1 => exact AllReadyH.nil
              go_simp
              refine hK.out _ _ ?hS5036x1 (fun hHeld5036 => ?rest5036x1)
              case hS5036x1 => first | (first | with_reducible exact MKB.out _ _ _ _ (by first | exact Nat.le_refl _ | exact Ext.le (by with_reducible repeat (first | exact Ext.refl _ | assumption | refine Ext.drew ?_ | refine Ext.drewN ?_ _ | refine Ext.alloc ?_ _))) (by with_reducible repeat (first | exact Ext.refl _ | assumption | refine Ext.drew ?_ | refine Ext.drewN ?_ _ | refine Ext.alloc ?_ _)) | exact MKA.out _ (by with_reducible repeat (first | exact Ext.refl _ | assumption | refine Ext.drew ?_ | refine Ext.drewN ?_ _ | refine Ext.alloc ?_ _))) | ((try dsimp only); (first | with_reducible exact MKB.out _ _ _ _ (by first | exact Nat.le_refl _ | exact Ext.le (by with_reducible repeat (first | exact Ext.refl _ | assumption | refine Ext.drew ?_ | refine Ext.drewN ?_ _ | refine Ext.alloc ?_ _))) (by with_reducible repeat (first | exact Ext.refl _ | assumption | refine Ext.drew ?_ | refine Ext.drewN ?_ _ | refine Ext.alloc ?_ _)) | exact MKA.out _ (by with_reducible repeat (first | exact Ext.refl _ | assumption | refine Ext.drew ?_ | refine Ext.drewN ?_ _ | refine Ext.alloc ?_ _))))
              clear hK K
              clear hHeld5028
              (try simp only [PU])
              refine wpAnyH_ready (rs := [10]) (by kernel_rfl) (by simp) ?_
              refine AllReadyH.cons (o := ⟨(some 51), (.call { callee := (.value (.func 27)), args := #[(.tmp 44), (.tmp 50)], argTypes := #[28, 28] }), 41, "ref.go:88", #[⟨3, .data⟩, ⟨9, .data⟩, ⟨9, .chain⟩], none⟩) rfl (fun K hK => ?step5037x0) ?more5037x0
              case more5037x0 => exact AllReadyH.nil
              go_simp
              (refine (HDV.out _).mono ?_; rintro e v4 ⟨⟨qa, qb, rfl, hqv⟩, hv4⟩; have HQV := Lib.hid hqv; clear hqv; have zz0 := hv4.cell (p := ⟨v3.heap.size, 0, none⟩) (v := (.int .i64 0)) (by go_simp); have zz1 := hv4.cell (p := ⟨v3.heap.size, 1, none⟩) (v := (.int .i64 0)) (by go_simp); have yy0 := frozen_ext hv4 (p := ⟨v3.heap.size, 0, none⟩) (v := (.int .i64 0)) (by go_simp) (by go_simp); have yy1 := frozen_ext hv4 (p := ⟨v3.heap.size, 1, none⟩) (v := (.int .i64 0)) (by go_simp) (by go_simp); replace hv4 : Ext w6 v4 := Ext.trans (by with_reducible repeat (first | exact Ext.refl _ | assumption | refine Ext.drew ?_ | refine Ext.drewN ?_ _ | refine Ext.alloc ?_ _)) hv4)
              refine hK.out _ _ ?hS5037x0 (fun hHeld5037 => ?rest5037x0)
              case hS5037x0 => first | (first | with_reducible exact MKB.out _ _ _ _ (by first | exact Nat.le_refl _ | exact Ext.le (by with_reducible repeat (first | exact Ext.refl _ | assumption | refine Ext.drew ?_ | refine Ext.drewN ?_ _ | refine Ext.alloc ?_ _))) (by with_reducible repeat (first | exact Ext.refl _ | assumption | refine Ext.drew ?_ | refine Ext.drewN ?_ _ | refine Ext.alloc ?_ _)) | exact MKA.out _ (by with_reducible repeat (first | exact Ext.refl _ | assumption | refine Ext.drew ?_ | refine Ext.drewN ?_ _ | refine Ext.alloc ?_ _))) | ((try dsimp only); (first | with_reducible exact MKB.out _ _ _ _ (by first | exact Nat.le_refl _ | exact Ext.le (by with_reducible repeat (first | exact Ext.refl _ | assumption | refine Ext.drew ?_ | refine Ext.drewN ?_ _ | refine Ext.alloc ?_ _))) (by with_reducible repeat (first | exact Ext.refl _ | assumption | refine Ext.drew ?_ | refine Ext.drewN ?_ _ | refine Ext.alloc ?_ _)) | exact MKA.out _ (by with_reducible repeat (first | exact Ext.refl _ | assumption | refine Ext.drew ?_ | refine Ext.drewN ?_ _ | refine Ext.alloc ?_ _))))
              clear hK K
              clear hHeld5036
              (try simp only [PU])
              refine wpAnyH_take (i := 11) (oi := ⟨(some 40), (.move (.tmp 51)), 41, "ref.go:88", #[⟨10, .data⟩], none⟩) (v := ?v5038) rfl (by kernel_rfl) (by kernel_rfl) (by kernel_rfl) (fun _ _ _ h => h) (Or.inl ⟨rfl, ?hy5038⟩) hHeld5037 ?rest5038
              case hy5038 => (intro w _; go_simp <;> rfl)
              (try simp only [PU])
              refine wpAnyH_take (i := 12) (oi := ⟨(some 52), (.extract (.tmp 40) 0), 28, "ref.go:88", #[⟨11, .data⟩], none⟩) (v := ?v5039) rfl (by kernel_rfl) (by kernel_rfl) (by kernel_rfl) (fun _ _ _ h => h) (Or.inl ⟨rfl, ?hy5039⟩) hHeld5037 ?rest5039
              case hy5039 => (intro w _; go_simp <;> rfl)
              (try simp only [PU])
              refine wpAnyH_take (i := 13) (oi := ⟨(some 53), (.extract (.tmp 40) 1), 4, "ref.go:88", #[⟨11, .data⟩, ⟨15, (.gcOnly Departure.lateStores)⟩], none⟩) (v := ?v5040) rfl (by kernel_rfl) (by kernel_rfl) (by kernel_rfl) (fun _ _ _ h => h) (Or.inl ⟨rfl, ?hy5040⟩) hHeld5037 ?rest5040
              case hy5040 => (intro w _; go_simp <;> rfl)
              (try simp only [PU])
              refine wpAnyH_ready (rs := [15]) (by kernel_rfl) (by simp) ?_
              refine AllReadyH.cons (o := ⟨none, (.store 28 (.tmp 13) (.tmp 52)), 0, "ref.go:88", #[⟨14, .data⟩, ⟨12, .data⟩, ⟨10, .chain⟩, ⟨0, .phase⟩, ⟨1, .phase⟩, ⟨2, .phase⟩, ⟨3, .phase⟩, ⟨4, .phase⟩, ⟨5, .phase⟩, ⟨6, .phase⟩, ⟨7, .phase⟩, ⟨8, .phase⟩, ⟨9, .phase⟩, ⟨10, .phase⟩, ⟨11, .phase⟩, ⟨12, .phase⟩, ⟨13, (.textOnly Departure.lateStores)⟩, ⟨14, .phase⟩], none⟩) rfl (fun K hK => ?step5041x0) ?more5041x0
              case more5041x0 => exact AllReadyH.nil
              go_simp
              refine hK.out _ _ ?hS5041x0 (fun hHeld5041 => ?rest5041x0)
              case hS5041x0 => first | (first | with_reducible exact MKB.out _ _ _ _ (by first | exact Nat.le_refl _ | exact Ext.le (by with_reducible repeat (first | exact Ext.refl _ | assumption | refine Ext.drew ?_ | refine Ext.drewN ?_ _ | refine Ext.alloc ?_ _))) (by with_reducible repeat (first | exact Ext.refl _ | assumption | refine Ext.drew ?_ | refine Ext.drewN ?_ _ | refine Ext.alloc ?_ _)) | exact MKA.out _ (by with_reducible repeat (first | exact Ext.refl _ | assumption | refine Ext.drew ?_ | refine Ext.drewN ?_ _ | refine Ext.alloc ?_ _))) | ((try dsimp only); (first | with_reducible exact MKB.out _ _ _ _ (by first | exact Nat.le_refl _ | exact Ext.le (by with_reducible repeat (first | exact Ext.refl _ | assumption | refine Ext.drew ?_ | refine Ext.drewN ?_ _ | refine Ext.alloc ?_ _))) (by with_reducible repeat (first | exact Ext.refl _ | assumption | refine Ext.drew ?_ | refine Ext.drewN ?_ _ | refine Ext.alloc ?_ _)) | exact MKA.out _ (by with_reducible repeat (first | exact Ext.refl _ | assumption | refine Ext.drew ?_ | refine Ext.drewN ?_ _ | refine Ext.alloc ?_ _))))
              clear hK K
              clear hHeld5037
              refine wpAnyH_take (i := 16) (oi := ⟨(some 14), (.assign (.tmp 53)), 4, "ref.go:88", #[⟨13, .data⟩, ⟨15, .chain⟩, ⟨0, .phase⟩, ⟨1, .phase⟩, ⟨2, .phase⟩, ⟨3, .phase⟩, ⟨4, .phase⟩, ⟨5, .phase⟩, ⟨6, .phase⟩, ⟨7, .phase⟩, ⟨8, .phase⟩, ⟨9, .phase⟩, ⟨10, .phase⟩, ⟨11, .phase⟩, ⟨12, .phase⟩, ⟨13, .phase⟩, ⟨14, .phase⟩, ⟨15, .phase⟩], none⟩) (v := ?v5042) rfl (by kernel_rfl) (by kernel_rfl) (by kernel_rfl) (fun _ _ _ h => h) (Or.inl ⟨rfl, ?hy5042⟩) hHeld5041 ?rest5042
              case hy5042 => (intro w _; go_simp <;> first | with_reducible rfl | rw [if_neg (by omega)] | rw [if_pos (by omega)])
              (try simp only [PU])
              refine wpAnyH_done (by kernel_rfl) ?_ _
              clear hHeld5041
              go_wp2_with fail
              go_meet
              case rel => exact ⟨v3.heap.size, qa, qb, rfl, rfl, HQV, by go_simp, by go_simp, (Ext.setCell (Ext.setCell (by with_reducible repeat (first | exact Ext.refl _ | assumption | refine Ext.drew ?_ | refine Ext.drewN ?_ _ | refine Ext.alloc ?_ _)) (by first | exact Nat.le_refl _ | exact Ext.le (by with_reducible repeat (first | exact Ext.refl _ | assumption | refine Ext.drew ?_ | refine Ext.drewN ?_ _ | refine Ext.alloc ?_ _))) _) (by first | exact Nat.le_refl _ | exact Ext.le (by with_reducible repeat (first | exact Ext.refl _ | assumption | refine Ext.drew ?_ | refine Ext.drewN ?_ _ | refine Ext.alloc ?_ _))) _)⟩
            go_simp
            (refine (HDV.out _).mono ?_; rintro e v4 ⟨⟨qa, qb, rfl, hqv⟩, hv4⟩; have HQV := Lib.hid hqv; clear hqv; replace hv4 : Ext w6 v4 := Ext.trans (by with_reducible repeat (first | exact Ext.refl _ | assumption | refine Ext.drew ?_ | refine Ext.drewN ?_ _ | refine Ext.alloc ?_ _)) hv4)
            refine hK.out _ _ ?hS5036x0 (fun hHeld5036 => ?rest5036x0)
            case hS5036x0 => first | (first | with_reducible exact MKB.out _ _ _ _ (by first | exact Nat.le_refl _ | exact Ext.le (by with_reducible repeat (first | exact Ext.refl _ | assumption | refine Ext.drew ?_ | refine Ext.drewN ?_ _ | refine Ext.alloc ?_ _))) (by with_reducible repeat (first | exact Ext.refl _ | assumption | refine Ext.drew ?_ | refine Ext.drewN ?_ _ | refine Ext.alloc ?_ _)) | exact MKA.out _ (by with_reducible repeat (first | exact Ext.refl _ | assumption | refine Ext.drew ?_ | refine Ext.drewN ?_ _ | refine Ext.alloc ?_ _))) | ((try dsimp only); (first | with_reducible exact MKB.out _ _ _ _ (by first | exact Nat.le_refl _ | exact Ext.le (by with_reducible repeat (first | exact Ext.refl _ | assumption | refine Ext.drew ?_ | refine Ext.drewN ?_ _ | refine Ext.alloc ?_ _))) (by with_reducible repeat (first | exact Ext.refl _ | assumption | refine Ext.drew ?_ | refine Ext.drewN ?_ _ | refine Ext.alloc ?_ _)) | exact MKA.out _ (by with_reducible repeat (first | exact Ext.refl _ | assumption | refine Ext.drew ?_ | refine Ext.drewN ?_ _ | refine Ext.alloc ?_ _))))
            clear hK K
            clear hHeld5028
            (try simp only [PU])
            refine wpAnyH_take (i := 11) (oi := ⟨(some 40), (.move (.tmp 51)), 41, "ref.go:88", #[⟨10, .data⟩], none⟩) (v := ?v5043) rfl (by kernel_rfl) (by kernel_rfl) (by kernel_rfl) (fun _ _ _ h => h) (Or.inl ⟨rfl, ?hy5043⟩) hHeld5036 ?rest5043
            case hy5043 => (intro w _; go_simp <;> rfl)
            (try simp only [PU])
            refine wpAnyH_take (i := 12) (oi := ⟨(some 52), (.extract (.tmp 40) 0), 28, "ref.go:88", #[⟨11, .data⟩], none⟩) (v := ?v5044) rfl (by kernel_rfl) (by kernel_rfl) (by kernel_rfl) (fun _ _ _ h => h) (Or.inl ⟨rfl, ?hy5044⟩) hHeld5036 ?rest5044
            case hy5044 => (intro w _; go_simp <;> rfl)
            (try simp only [PU])
            refine wpAnyH_take (i := 13) (oi := ⟨(some 53), (.extract (.tmp 40) 1), 4, "ref.go:88", #[⟨11, .data⟩, ⟨15, (.gcOnly Departure.lateStores)⟩], none⟩) (v := ?v5045) rfl (by kernel_rfl) (by kernel_rfl) (by kernel_rfl) (fun _ _ _ h => h) (Or.inl ⟨rfl, ?hy5045⟩) hHeld5036 ?rest5045
            case hy5045 => (intro w _; go_simp <;> rfl)
            (try simp only [PU])
            refine wpAnyH_ready (rs := [14]) (by kernel_rfl) (by simp) ?_
            refine AllReadyH.cons (o := ⟨(some 13), (.alloc 28), 0, "ref.go:88", #[], none⟩) rfl (fun K hK => ?step5046x0) ?more5046x0
            case more5046x0 => exact AllReadyH.nil
            go_simp
            refine hK.out _ _ ?hS5046x0 (fun hHeld5046 => ?rest5046x0)
            case hS5046x0 => first | (first | with_reducible exact MKB.out _ _ _ _ (by first | exact Nat.le_refl _ | exact Ext.le (by with_reducible repeat (first | exact Ext.refl _ | assumption | refine Ext.drew ?_ | refine Ext.drewN ?_ _ | refine Ext.alloc ?_ _))) (by with_reducible repeat (first | exact Ext.refl _ | assumption | refine Ext.drew ?_ | refine Ext.drewN ?_ _ | refine Ext.alloc ?_ _)) | exact MKA.out _ (by with_reducible repeat (first | exact Ext.refl _ | assumption | refine Ext.drew ?_ | refine Ext.drewN ?_ _ | refine Ext.alloc ?_ _))) | ((try dsimp only); (first | with_reducible exact MKB.out _ _ _ _ (by first | exact Nat.le_refl _ | exact Ext.le (by with_reducible repeat (first | exact Ext.refl _ | assumption | refine Ext.drew ?_ | refine Ext.drewN ?_ _ | refine Ext.alloc ?_ _))) (by with_reducible repeat (first | exact Ext.refl _ | assumption | refine Ext.drew ?_ | refine Ext.drewN ?_ _ | refine Ext.alloc ?_ _)) | exact MKA.out _ (by with_reducible repeat (first | exact Ext.refl _ | assumption | refine Ext.drew ?_ | refine Ext.drewN ?_ _ | refine Ext.alloc ?_ _))))
            clear hK K
            clear hHeld5036
            (try simp only [PU])
            refine wpAnyH_ready (rs := [15]) (by kernel_rfl) (by simp) ?_
            refine AllReadyH.cons (o := ⟨none, (.store 28 (.tmp 13) (.tmp 52)), 0, "ref.go:88", #[⟨14, .data⟩, ⟨12, .data⟩, ⟨10, .chain⟩, ⟨0, .phase⟩, ⟨1, .phase⟩, ⟨2, .phase⟩, ⟨3, .phase⟩, ⟨4, .phase⟩, ⟨5, .phase⟩, ⟨6, .phase⟩, ⟨7, .phase⟩, ⟨8, .phase⟩, ⟨9, .phase⟩, ⟨10, .phase⟩, ⟨11, .phase⟩, ⟨12, .phase⟩, ⟨13, (.textOnly Departure.lateStores)⟩, ⟨14, .phase⟩], none⟩) rfl (fun K hK => ?step5047x0) ?more5047x0
            case more5047x0 => exact AllReadyH.nil
            go_simp
            refine hK.out _ _ ?hS5047x0 (fun hHeld5047 => ?rest5047x0)
            case hS5047x0 => first | (first | with_reducible exact MKB.out _ _ _ _ (by first | exact Nat.le_refl _ | exact Ext.le (by with_reducible repeat (first | exact Ext.refl _ | assumption | refine Ext.drew ?_ | refine Ext.drewN ?_ _ | refine Ext.alloc ?_ _))) (by with_reducible repeat (first | exact Ext.refl _ | assumption | refine Ext.drew ?_ | refine Ext.drewN ?_ _ | refine Ext.alloc ?_ _)) | exact MKA.out _ (by with_reducible repeat (first | exact Ext.refl _ | assumption | refine Ext.drew ?_ | refine Ext.drewN ?_ _ | refine Ext.alloc ?_ _))) | ((try dsimp only); (first | with_reducible exact MKB.out _ _ _ _ (by first | exact Nat.le_refl _ | exact Ext.le (by with_reducible repeat (first | exact Ext.refl _ | assumption | refine Ext.drew ?_ | refine Ext.drewN ?_ _ | refine Ext.alloc ?_ _))) (by with_reducible repeat (first | exact Ext.refl _ | assumption | refine Ext.drew ?_ | refine Ext.drewN ?_ _ | refine Ext.alloc ?_ _)) | exact MKA.out _ (by with_reducible repeat (first | exact Ext.refl _ | assumption | refine Ext.drew ?_ | refine Ext.drewN ?_ _ | refine Ext.alloc ?_ _))))
            clear hK K
            clear hHeld5046
            refine wpAnyH_take (i := 16) (oi := ⟨(some 14), (.assign (.tmp 53)), 4, "ref.go:88", #[⟨13, .data⟩, ⟨15, .chain⟩, ⟨0, .phase⟩, ⟨1, .phase⟩, ⟨2, .phase⟩, ⟨3, .phase⟩, ⟨4, .phase⟩, ⟨5, .phase⟩, ⟨6, .phase⟩, ⟨7, .phase⟩, ⟨8, .phase⟩, ⟨9, .phase⟩, ⟨10, .phase⟩, ⟨11, .phase⟩, ⟨12, .phase⟩, ⟨13, .phase⟩, ⟨14, .phase⟩, ⟨15, .phase⟩], none⟩) (v := ?v5048) rfl (by kernel_rfl) (by kernel_rfl) (by kernel_rfl) (fun _ _ _ h => h) (Or.inl ⟨rfl, ?hy5048⟩) hHeld5047 ?rest5048
            case hy5048 => (intro w _; go_simp <;> first | with_reducible rfl | rw [if_neg (by omega)] | rw [if_pos (by omega)])
            (try simp only [PU])
            refine wpAnyH_done (by kernel_rfl) ?_ _
            clear hHeld5047
            go_wp2_with fail
            go_meet
            case rel => exact ⟨v4.heap.size, qa, qb, rfl, rfl, HQV, by go_simp, by go_simp, (by with_reducible repeat (first | exact Ext.refl _ | assumption | refine Ext.drew ?_ | refine Ext.drewN ?_ _ | refine Ext.alloc ?_ _))⟩
          case rest =>
            clear MKA MKB
            obtain ⟨g13, qa, qb, rfl, rfl, HQV, e0, e1, hx6⟩ := hcut
            have m0 := hx6.cell c0'
            have m1 := hx6.cell c1'
            have fm0 := frozen_ext hx6 c0' f0'
            have fm1 := frozen_ext hx6 c1' f1'
            have HB6 := hEx.trans hx6
            have HAD := Lib.hid (fun W => q3_Add S (qa, qb) W)
            dsimp only at HAD
            go_upto_region 9 with (go_at_call 29; ((with_reducible refine (HAD.out _).mono ?_); rintro e w7 ⟨⟨sa, sb, rfl, hsv⟩, hx7⟩))
            have HSV := Lib.hid hsv
            clear hsv
            obtain ⟨g15, w8, hg15, hw8, s0, s1, -, -, hx8⟩ := box_frac w7 sa sb 28
            rw [← hw8, ← hg15]
            have HB8 := HB6.trans (hx7.trans hx8)
            have hx68 := hx7.trans hx8
            have n0 := hx68.cell m0
            have n1 := hx68.cell m1
            have fn0 := frozen_ext hx68 m0 fm0
            have fn1 := frozen_ext hx68 m1 fm1
            have r0 := HB8.cell kz0
            have r1 := HB8.cell kz1
            have t0 := frozen_ext HB8 kz0 l0
            have t1 := frozen_ext HB8 kz1 l1
            clear m0 m1 fm0 fm1 hg15 hw8 hx7 hx8 hx68 hx6 HB6
            cases hv : dv with
            | none =>
              have HT := Lib.hid (HNO1.out hv)
              rw [hv] at *
              clear HAD HS HNO1 HNO2
              go_wp2_with fail
              refine bodyPost_ret (v := .tuple #[.agg #[.int .i64 sa, .int .i64 sb], .bool false]) (by simp [results, Tryz.results28, go_sem, *]) rfl ?_
              exact ⟨⟨sa, sb, by rw [HT.out]; rfl, fun f hf => by rw [HT.out] at hf; cases hf⟩, (((hx2.trans hx3).trans HB8).setCell HLE.out _).setCell HLE.out _⟩
            | some fv =>
              obtain rfl := HQV.out fv hv
              have HNO := Lib.hid (fun h => HNO2.out _ hv h)
              have HS2 := Lib.hid (fun f h => HS.out _ f hv h)
              rw [hv] at *
              clear HAD HS HNO1 HNO2 hv HQV
              generalize addO S (qa, qb) = av at *
              cases hv : av with
              | none =>
                have HT := Lib.hid (HNO.out hv)
                rw [hv] at *
                clear HNO HS2
                go_wp2_with fail
                refine bodyPost_ret (v := .tuple #[.agg #[.int .i64 sa, .int .i64 sb], .bool false]) (by simp [results, Tryz.results28, go_sem, *]) rfl ?_
                exact ⟨⟨sa, sb, by rw [HT.out]; rfl, fun f hf => by rw [HT.out] at hf; cases hf⟩, (((hx2.trans hx3).trans HB8).setCell HLE.out _).setCell HLE.out _⟩
              | some fv =>
                have HT := Lib.hid (HS2.out _ hv)
                obtain rfl := HSV.out fv hv
                rw [hv] at *
                clear HNO HS2 HSV hv
                go_wp2_with fail
                go_roundw
                case rel => exact ⟨k + 1, (sa, sb), by go_num, by omega, HT, (HB8.setCell (by omega) _).setCell (by omega) _, by go_simp, by go_simp, by rw [World.frozen?_setCell, World.frozen?_setCell]; exact fn0, by rw [World.frozen?_setCell, World.frozen?_setCell]; exact fn1⟩
                case measure => simp [intOf]; omega
      · have he2 : (x.to_ != id) = true := bne_iff_ne.2 hto
        have HT := Lib.hid (show inO types D l (g.edges.take (k + 1)) id = some S by rw [HST.out]; unfold inStep; rw [if_neg (fun h => hto h.1)])
        clear HST HX hS' hto
        go_wp2_with fail
        go_roundw
        case rel => exact ⟨k + 1, S, by go_num, by omega, HT, hE5, c0', c1', f0', f1'⟩
        case measure => simp [intOf]; omega
    · have HT := Lib.hid (show RV = some S by rw [← HRE.out k (by omega)]; exact hS.out)
      have r0 := hE.cell kz0
      have r1 := hE.cell kz1
      have s0 := frozen_ext hE kz0 l0
      have s1 := frozen_ext hE kz1 l1
      clear HSN HRN HRE HD' hS
      go_wp2_with fail
      refine bodyPost_ret (v := .tuple #[.agg #[.int .i64 S.1, .int .i64 S.2], .bool true]) (by simp [results, Tryz.results28, go_sem, *]) rfl ?_
      exact ⟨⟨S.1, S.2, by rw [HT.out]; rfl, fun f hf => by rw [HT.out] at hf; exact (Option.some.inj hf).symm⟩, (((hx2.trans hx3).trans hE).setCell HLE.out _).setCell HLE.out _⟩
end Go.Proofs.YtlkpmbkmmfoakaaGreatDoor

/- A DRAWN REGION THAT READS CELLS FIRST AND WRITES THEM LATER: what the reads need is kept only until operation E comes up. -/
namespace Go.Proofs.YtlkpmbkmmfoakaaGreatDoor
open Go.RowKit
section
variable {P : Program} {ops : Array Oper} {Q : Exit → Act → World → Prop} {md : Region.Mode} {S : World → Prop} {E : Nat}
/-- any order; S holds behind each operation that comes up ahead of E -/
def AnyE (P : Program) (md : Region.Mode) (ops : Array Oper) (Q : Exit → Act → World → Prop) (S : World → Prop) (E : Nat) : Nat → Array Bool → Act → World → Prop
  | 0, l, a, w => Region.ready md ops l = [] ∧ Q .normal a w
  | f + 1, l, a, w => (Region.ready md ops l = [] → Q .normal a w) ∧
    ∀ i ∈ Region.ready md ops l, wpOp P ops Q i (fun a' w' => ((l.setIfInBounds i true).getD E false = false → S w') ∧ AnyE P md ops Q S E f (l.setIfInBounds i true) a' w') a w
theorem AnyE.any : ∀ (f : Nat) (l : Array Bool) (a : Act) (w : World), AnyE P md ops Q S E f l a w → wpAny P md ops Q f l a w
  | 0, _, _, _, h => h
  | f + 1, _, _, _, h => ⟨h.1, fun i hi => wpOp_mono (fun a' w' hk => AnyE.any f _ a' w' hk.2) (h.2 i hi)⟩
theorem AnyE.start {id : Nat} {a : Act} {w : World} (hm : P.follows .mixedOrders = true) (hS : S w.drew) (h : S w.drew → AnyE P .any ops Q S E ops.size (Array.replicate ops.size false) a w.drew) : (Code.region id ops true).wp P Q a w :=
  wp_region_any hm (AnyE.any _ _ _ _ (h hS))
theorem AnyE.done {l : Array Bool} {a : Act} {w : World} (hr : Region.ready md ops l = []) (h : Q .normal a w) : ∀ f, AnyE P md ops Q S E f l a w
  | 0 => ⟨hr, h⟩
  | _ + 1 => ⟨fun _ => h, fun i hi => by rw [hr] at hi; cases hi⟩
/-- does E wait for i -/
def waitsOn (md : Region.Mode) (ops : Array Oper) (E i : Nat) : Bool := match ops[E]? with
  | some o => o.after.any (fun e => Region.binds md e && e.on == i)
  | none => false
theorem AnyE.first {i : Nat} {oi : Oper} {v : Value} (hi : ops[i]? = some oi) (hs : Region.noSelect ops = true) (hQ : ∀ c a w, Q (.panic c) (a.put oi.dst v) w → Q (.panic c) a w) (hE : waitsOn md ops E i = true) (hne : i ≠ E) (hlE : ∀ l : Array Bool, l.getD i true = false → E ∈ Region.ready md ops l → False) :
    ∀ (f : Nat) (l : Array Bool) (a : Act) (w : World), (∀ j oj, ops[j]? = some oj → j ≠ i → l.getD j true = false → (∀ e ∈ oj.after, Region.binds md e = true → e.on ≠ i) → oi.apart ops oj = true) →
      i ∈ Region.ready md ops l → l.getD E false = false → YieldsIf P ops S oi v a → S w → AnyE P md ops Q S E f (l.setIfInBounds i true) (a.put oi.dst v) w → AnyE P md ops Q S E (f + 1) l a w := by
  intro f
  induction f with
  | zero =>
    intro l a w _ hr _ hy hS H
    refine ⟨fun h => absurd hr (by rw [h]; exact List.not_mem_nil), fun j hj => ?_⟩
    rcases Nat.decEq j i with hji | hji
    · have hk := ready_mono hj hji
      rw [H.1] at hk
      exact absurd hk List.not_mem_nil
    · subst hji
      exact hy.wpOp hi hS ⟨fun _ => hS, H⟩
  | succ f ih =>
    intro l a w hfree hr hlf hy hS H
    refine ⟨fun h => absurd hr (by rw [h]; exact List.not_mem_nil), fun j hj => ?_⟩
    rcases Nat.decEq j i with hji | hji
    · have hun := (mem_ready.1 hr).1
      have hjE : j ≠ E := fun e => hlE l hun (e ▸ hj)
      obtain ⟨hjun, oj, hoj, hall⟩ := mem_ready.1 hj
      have hno : ∀ e ∈ oj.after, Region.binds md e = true → e.on ≠ i := fun e he hb heq => by
        have h1 := hall e he hb
        rw [heq] at h1
        rcases Nat.lt_or_ge i l.size with hlt | hge
        · simp [hlt] at hun h1
          exact Bool.noConfusion (hun.symm.trans h1)
        · simp [Array.getElem?_eq_none hge] at h1
      have h2 := wpOp_putIf hoj (hfree j oj hoj hji hjun hno) (fun cs b => Region.noSelect_spec hs i oi cs b hi) (fun cs b => Region.noSelect_spec hs j oj cs b hoj) hQ hy (H.2 j (ready_mono hj hji))
      refine wpOp_mono (fun a' w' hk => ?_) h2
      have hS' : S w' := hk.2.1 (by rw [getD_set_ne false hjE, getD_set_ne false hne]; exact hlf)
      refine ⟨fun _ => hS', ih (l.setIfInBounds j true) a' w' (fun k ok hok hki hunk hnok => ?_) (ready_mono hr (fun e => hji e.symm)) (by rw [getD_set_ne false hjE]; exact hlf) hk.1 hS' ?_⟩
      · refine hfree k ok hok hki ?_ hnok
        rcases Nat.decEq j k with hjk | hjk
        · rw [getD_set_ne true hjk] at hunk; exact hunk
        · subst hjk; exact hjun
      · rw [Array.setIfInBounds_comm _ _ hji]
        exact hk.2.2
    · subst hji
      exact hy.wpOp hi hS ⟨fun _ => hS, H⟩
theorem AnyE.firstP {i : Nat} {oi : Oper} {v : Value} (hi : ops[i]? = some oi) (hs : Region.noSelect ops = true) (hQ : ∀ c a w, Q (.panic c) (a.put oi.dst v) w → Q (.panic c) a w) (hne : i ≠ E) :
    ∀ (f : Nat) (l : Array Bool) (a : Act) (w : World), (∀ j oj, ops[j]? = some oj → j ≠ i → l.getD j true = false → (∀ e ∈ oj.after, Region.binds md e = true → e.on ≠ i) → oi.apart ops oj = true) →
      i ∈ Region.ready md ops l → YieldsIf P ops (fun _ => True) oi v a → (l.getD E false = false → S w) → AnyE P md ops Q S E f (l.setIfInBounds i true) (a.put oi.dst v) w → AnyE P md ops Q S E (f + 1) l a w := by
  intro f
  induction f with
  | zero =>
    intro l a w _ hr hy hS H
    refine ⟨fun h => absurd hr (by rw [h]; exact List.not_mem_nil), fun j hj => ?_⟩
    rcases Nat.decEq j i with hji | hji
    · have hk := ready_mono hj hji
      rw [H.1] at hk
      exact absurd hk List.not_mem_nil
    · subst hji
      exact hy.wpOp hi trivial ⟨fun h => hS (by rw [getD_set_ne false hne] at h; exact h), H⟩
  | succ f ih =>
    intro l a w hfree hr hy hS H
    refine ⟨fun h => absurd hr (by rw [h]; exact List.not_mem_nil), fun j hj => ?_⟩
    rcases Nat.decEq j i with hji | hji
    · have hun := (mem_ready.1 hr).1
      obtain ⟨hjun, oj, hoj, hall⟩ := mem_ready.1 hj
      have hno : ∀ e ∈ oj.after, Region.binds md e = true → e.on ≠ i := fun e he hb heq => by
        have h1 := hall e he hb
        rw [heq] at h1
        rcases Nat.lt_or_ge i l.size with hlt | hge
        · simp [hlt] at hun h1
          exact Bool.noConfusion (hun.symm.trans h1)
        · simp [Array.getElem?_eq_none hge] at h1
      have h2 := wpOp_putIf hoj (hfree j oj hoj hji hjun hno) (fun cs b => Region.noSelect_spec hs i oi cs b hi) (fun cs b => Region.noSelect_spec hs j oj cs b hoj) hQ hy (H.2 j (ready_mono hj hji))
      refine wpOp_mono (fun a' w' hk => ?_) h2
      have hS' : (l.setIfInBounds j true).getD E false = false → S w' := fun h => hk.2.1 (by rw [Array.setIfInBounds_comm _ _ (fun e => hji e.symm), getD_set_ne false hne]; exact h)
      refine ⟨hS', ih (l.setIfInBounds j true) a' w' (fun k ok hok hki hunk hnok => ?_) (ready_mono hr (fun e => hji e.symm)) hk.1 hS' ?_⟩
      · refine hfree k ok hok hki ?_ hnok
        rcases Nat.decEq j k with hjk | hjk
        · rw [getD_set_ne true hjk] at hunk; exact hunk
        · subst hjk; exact hjun
      · rw [Array.setIfInBounds_comm _ _ hji]
        exact hk.2.2
    · subst hji
      exact hy.wpOp hi trivial ⟨fun h => hS (by rw [getD_set_ne false hne] at h; exact h), H⟩
theorem waits_not {i : Nat} (h : waitsOn md ops E i = true) : ∀ l : Array Bool, l.getD i true = false → E ∈ Region.ready md ops l → False := fun l hl hr => by
  obtain ⟨-, o, ho, hall⟩ := mem_ready.1 hr
  unfold waitsOn at h
  rw [ho] at h
  obtain ⟨k, hk, he⟩ := Array.any_eq_true.1 h
  rw [Bool.and_eq_true] at he
  have h1 := hall o.after[k] (Array.getElem_mem hk) he.1
  rw [show o.after[k].on = i by simpa using he.2] at h1
  rcases Nat.lt_or_ge i l.size with hlt | hge
  · simp [hlt] at hl h1
    exact Bool.noConfusion (hl.symm.trans h1)
  · simp [Array.getElem?_eq_none hge] at h1
theorem AnyE.take {i : Nat} {oi : Oper} {v : Value} {f : Nat} {l : Array Bool} {a : Act} {w : World} (hi : ops[i]? = some oi) (hs : Region.noSelect ops = true) (hf : Region.free md ops l i = true) (hr : (Region.ready md ops l).contains i = true)
    (hQ : ∀ c a w, Q (.panic c) (a.put oi.dst v) w → Q (.panic c) a w) (hE : waitsOn md ops E i = true) (hne : (i == E) = false) (hl : l.getD E false = false) (hy : YieldsIf P ops S oi v a) (hS : S w)
    (h : AnyE P md ops Q S E f (l.setIfInBounds i true) (a.put oi.dst v) w) : AnyE P md ops Q S E (f + 1) l a w :=
  AnyE.first hi hs hQ hE (by simpa using hne) (waits_not hE) f l a w (Region.free_spec hi hf) (by simpa using hr) hl hy hS h
theorem AnyE.takeP {i : Nat} {oi : Oper} {v : Value} {f : Nat} {l : Array Bool} {a : Act} {w : World} (hi : ops[i]? = some oi) (hs : Region.noSelect ops = true) (hf : Region.free md ops l i = true) (hr : (Region.ready md ops l).contains i = true)
    (hQ : ∀ c a w, Q (.panic c) (a.put oi.dst v) w → Q (.panic c) a w) (hne : (i == E) = false) (hy : YieldsIf P ops (fun _ => True) oi v a) (hS : l.getD E false = false → S w)
    (h : AnyE P md ops Q S E f (l.setIfInBounds i true) (a.put oi.dst v) w) : AnyE P md ops Q S E (f + 1) l a w :=
  AnyE.firstP hi hs hQ (by simpa using hne) f l a w (Region.free_spec hi hf) (by simpa using hr) hy hS h
/-- each of those that may come up -/
def AllE (P : Program) (md : Region.Mode) (ops : Array Oper) (Q : Exit → Act → World → Prop) (S : World → Prop) (E : Nat) (f : Nat) (l : Array Bool) (a : Act) (w : World) (rs : List Nat) : Prop :=
  ∀ i ∈ rs, wpOp P ops Q i (fun a' w' => ((l.setIfInBounds i true).getD E false = false → S w') ∧ AnyE P md ops Q S E f (l.setIfInBounds i true) a' w') a w
theorem AllE.nil {f : Nat} {l : Array Bool} {a : Act} {w : World} : AllE P md ops Q S E f l a w [] := fun _ h => absurd h List.not_mem_nil
theorem AllE.cons {f : Nat} {l : Array Bool} {a : Act} {w : World} {i : Nat} {o : Oper} {rs : List Nat} (ho : ops[i]? = some o)
    (h : ∀ K : Act → World → Prop, Shut (∀ a w, ((l.setIfInBounds i true).getD E false = false → S w) → (((l.setIfInBounds i true).getD E false = false → S w) → AnyE P md ops Q S E f (l.setIfInBounds i true) a w) → K a w) → if Region.wanted o (yielded ops a.tmps) = true then Oper.wp P o a w K Q else K (a.put o.dst undef) w)
    (hs : AllE P md ops Q S E f l a w rs) : AllE P md ops Q S E f l a w (i :: rs) := fun j hj => by
  rcases List.mem_cons.1 hj with rfl | hj
  · exact wpOp_step ho (fun K hK => h K (fun a w h1 h2 => hK a w ⟨h1, h2 h1⟩))
  · exact hs j hj
theorem AnyE.ready {rs : List Nat} {f : Nat} {l : Array Bool} {a : Act} {w : World} (hr : Region.ready md ops l = rs) (hne : rs ≠ []) (h : AllE P md ops Q S E f l a w rs) : AnyE P md ops Q S E (f + 1) l a w := by
  subst hr
  exact ⟨fun e => absurd e hne, h⟩
end
end Go.Proofs.YtlkpmbkmmfoakaaGreatDoor
