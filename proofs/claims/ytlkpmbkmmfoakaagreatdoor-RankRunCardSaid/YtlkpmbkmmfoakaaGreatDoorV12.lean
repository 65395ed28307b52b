/- PARTS OF THE WALKS, joined: RkD, RkE. -/
import Derived.Test.YtlkpmbkmmfoakaaGreatDoorV11
/- THE WALKS over Start. -/
namespace Go.Proofs.YtlkpmbkmmfoakaaGreatDoor
open Go.RowKit
theorem start_snoc (l : List NodeG) (n : Int) (k : Nat) (h : k < l.length) : ((l.take (k + 1)).map (fun x => (⟨x.id, 1, n⟩ : Sh))).flatMap Sh.cells = ((l.take k).map (fun x => (⟨x.id, 1, n⟩ : Sh))).flatMap Sh.cells ++ [.int .i64 l[k]!.id, .int .i64 1, .int .i64 n] := by
  rw [List.take_succ_eq_append_getElem h, List.map_append, List.flatMap_append, getElem!_pos l k h]; rfl
theorem startR_ok {g : GraphG} (h : chkG g = 0) : startR g = g.nodes.map (fun x => ⟨x.id, 1, (g.nodes.length : Int)⟩) := by unfold startR; rw [if_pos h]
theorem startR_no {g : GraphG} (h : chkG g ≠ 0) : startR g = [] := by unfold startR; rw [if_neg h]
theorem chkG_len {g : GraphG} (h : chkG g = 0) : g.nodes.length ≤ 2000 ∧ g.edges.length ≤ 4000 := by
  unfold chkG at h
  split at h
  · rename_i h1
    unfold headE at h1
    split at h1
    · cases h1
    · rename_i h2; omega
  · rename_i h1; exact absurd h h1
set_option maxRecDepth 100000 in
set_option maxHeartbeats 1600000 in
theorem rk_Start (g : GraphG) (ok : Nat → Prop) (A B : Option Addr) (c d : Nat) (w : World) (hg : GraphAt w ok A B g) :
    Calls Tryz.prog 10 #[.agg #[.slice A g.nodes.length c, .slice B g.edges.length d, .int .i64 g.nn, .int .i64 g.ne]] w fun e w' => ∃ A' c', e = .returned (.slice A' (startR g).length c') ∧ (startR g).length ≤ c' ∧ Shares w' (fun b => w.heap.size ≤ b) A' (startR g) ∧ Ext w w' := by
  obtain ⟨q, w1, hq, hw1, g0, g1, g2, g3, hx1⟩ := box_graph w A B c d g 25
  have HW1 := Lib.hid hw1
  have HG := Lib.hid hq
  have HC := Lib.hid (fun W (e : Ext w W) => gr_Check g ok A B c d W (hg.ext e))
  have HN := Lib.hid (hg.nodes.ext hx1)
  have hle1 : w.heap.size ≤ w1.heap.size := hx1.le
  by_cases h0 : chkG g = 0
  · rw [h0] at HC
    obtain ⟨hn, -⟩ := chkG_len h0
    have HR := Lib.hid (startR_ok h0)
    have HSN := Lib.hid (start_snoc g.nodes (g.nodes.length : Int))
    have HS0 := Lib.hid (fun W => World.ownsRow_nil W w1.heap.size 46 3)
    have h2 : (0 : Int) ≠ 0 → False := fun h => h rfl
    clear hw1 hq hg h0 h2
    go_enter Tryz.func10, Tryz.ntmps10
    go_upto_region 1 with (fail)
    rw [← HW1.out, ← HG.out]
    clear HW1 HG
    go_wp2_with (go_at_call 17; ((with_reducible refine (HC.out _ hx1).mono ?_); rintro e w2 ⟨rfl, hx2⟩; have k0 := hx2.cell g0; have k1 := hx2.cell g1; have k2 := hx2.cell g2; have k3 := hx2.cell g3))
    have hE0 := hx2
    go_loopw [3, 12] (fun v u W => ∃ k : Nat, u = .int .i64 k ∧ k ≤ g.nodes.length ∧ Hid (W.ownsRow w1.heap.size 46 3 v k (((g.nodes.take k).map (fun x => (⟨x.id, 1, (g.nodes.length : Int)⟩ : Sh))).flatMap Sh.cells)) ∧ Hid (Ext w1 W)) (fun _ u _ => g.nodes.length - (intOf u).toNat)
    case atStart => exact ⟨0, rfl, Nat.zero_le _, Lib.hid (HS0.out _), Lib.hid hE0⟩
    case round =>
      clear HS0 k0 k1 k2 k3 hE0
      obtain ⟨k, rfl, hk, hown, hE⟩ := hrel
      have k0 := hE.out.cell g0
      have k1 := hE.out.cell g1
      have k2 := hE.out.cell g2
      have k3 := hE.out.cell g3
      by_cases hlt : k < g.nodes.length
      · obtain ⟨b, o, rfl, hc⟩ := HN.out.at_ hlt
        obtain ⟨-, d0, A', c', B', d', d1, -, -, d2, -, -⟩ := hc k hlt
        have D0 := Lib.hid d0
        replace d0 := hE.out.cell d0
        replace d1 := hE.out.cell d1
        replace d2 := hE.out.cell d2
        have MK1 := Lib.hid (fun V (e : Ext wr V) => (⟨e.cell k0, e.cell d0, hE.out.trans e⟩ : V.cell? ⟨q, 0, none⟩ = some (.slice (some ⟨b, o, none⟩) g.nodes.length c) ∧ V.cell? ⟨b, o + k * 3, none⟩ = some (.int .i64 g.nodes[k]!.id) ∧ Ext w1 V))
        have HS := Lib.hid (HSN.out k hlt)
        clear hc HSN
        generalize g.nodes[k]! = x at *
        have hown' := hown.out
        have hE' := hE.out
        have hkb : k + 1 ≤ 8388608 := by omega
        clear hown hE
        obtain ⟨q2, w3, hq2, hw3, n0, n1, n2, hx3⟩ := box_node wr x.id A' B' x.labels.length c' x.props.length d' 58
        have HW3 := Lib.hid hw3
        have HQ3 := Lib.hid hq2
        have j0 := hx3.cell k0
        clear hw3 hq2
        go_upto_region 7 with (fail)
        rw [← HW3.out, ← HQ3.out]
        clear HW3 HQ3 k0 k1 k2 k3
        have hown3 := own_ext hown' hx3
        have hE3 := hE'.trans hx3
        go_wp2_with (at_builtin; refine own_pushF El_share rfl (.tmp 16) (.tmp 24) rfl w1 w3 _ k _ [.int .i64 x.id, .int .i64 1, .int .i64 (g.nodes.length : Int)] rfl hown3 hE3 rfl rfl rfl (by simp [Value.oneCell']) hkb (by decide) ?_; intro v2 w9 hown2 HE9x hF9; clear hF9)
        have HO2 := Lib.hid (show w9.ownsRow w1.heap.size 46 3 v2 (k + 1) (((g.nodes.take (k + 1)).map (fun x => (⟨x.id, 1, (g.nodes.length : Int)⟩ : Sh))).flatMap Sh.cells) by rw [HS.out]; exact hown2)
        have HE9 := Lib.hid HE9x
        go_roundw
        case rel => exact ⟨k + 1, by go_num, by omega, HO2, HE9⟩
        case measure => simp [intOf]; omega
      · obtain ⟨A9, c9, rfl, h9, hS9⟩ := shares_of_own (l := startR g) (by rw [HR.out]; have := hown.out; rwa [List.take_of_length_le (by omega)] at this) (by rw [HR.out, List.length_map]; omega) (by rw [HR.out, List.length_map]; omega)
        have hE' := hE.out
        clear hown hE HR
        go_wp2_with fail
        go_ret
        exact ⟨A9, c9, rfl, h9, hS9.keep (fun _ _ _ hb hc => ⟨hc, Nat.le_trans hle1 hb⟩), hx1.trans hE'⟩
  · have hz : (chkG g != 0) = true := bne_iff_ne.2 h0
    have HR := Lib.hid (startR_no h0)
    generalize chkG g = z at *
    clear hw1 hq hg h0
    rw [HR.out]
    go_enter Tryz.func10, Tryz.ntmps10
    go_upto_region 1 with (fail)
    rw [← HW1.out, ← HG.out]
    clear HW1 HG
    go_wp2_with (go_at_call 17; ((with_reducible refine (HC.out _ hx1).mono ?_); rintro e w2 ⟨rfl, hx2⟩))
    go_ret
    exact ⟨none, 0, rfl, Nat.le_refl _, SliceR.nil _ _ _, hx1.trans hx2⟩
set_option maxRecDepth 100000 in
set_option maxHeartbeats 1600000 in
theorem r51_Start (g : GraphG) (ok : Nat → Prop) (A B : Option Addr) (c d : Nat) (w : World) (hg : GraphAt w ok A B g) (hs : SzG g) :
    Calls Tryz.prog 11 #[.agg #[.slice A g.nodes.length c, .slice B g.edges.length d, .int .i64 g.nn, .int .i64 g.ne]] w fun e w' => ∃ A' c', e = .returned (.slice A' (startR g).length c') ∧ (startR g).length ≤ c' ∧ Shares w' (fun b => w.heap.size ≤ b) A' (startR g) ∧ Ext w w' := by
  obtain ⟨q, w1, hq, hw1, g0, g1, g2, g3, hx1⟩ := box_graph w A B c d g 25
  have HW1 := Lib.hid hw1
  have HG := Lib.hid hq
  have HC := Lib.hid (fun W (e : Ext w W) => r7_Check g ok A B c d W (hg.ext e) hs)
  have HN := Lib.hid (hg.nodes.ext hx1)
  have hle1 : w.heap.size ≤ w1.heap.size := hx1.le
  by_cases h0 : chkG g = 0
  · rw [h0] at HC
    obtain ⟨hn, -⟩ := chkG_len h0
    have HR := Lib.hid (startR_ok h0)
    have HSN := Lib.hid (start_snoc g.nodes (g.nodes.length : Int))
    have HS0 := Lib.hid (fun W => World.ownsRow_nil W w1.heap.size 46 3)
    have h2 : (0 : Int) ≠ 0 → False := fun h => h rfl
    clear hw1 hq hg h0 h2 hs
    go_enter Tryz.func11, Tryz.ntmps11
    go_upto_region 1 with (fail)
    rw [← HW1.out, ← HG.out]
    clear HW1 HG
    go_wp2_with (go_at_call 21; ((with_reducible refine (HC.out _ hx1).mono ?_); rintro e w2 ⟨rfl, hx2⟩; have k0 := hx2.cell g0; have k1 := hx2.cell g1; have k2 := hx2.cell g2; have k3 := hx2.cell g3))
    have hE0 := hx2
    go_loopw [3, 4] (fun v u W => ∃ k : Nat, u = .int .i64 k ∧ k ≤ g.nodes.length ∧ Hid (W.ownsRow w1.heap.size 46 3 v k (((g.nodes.take k).map (fun x => (⟨x.id, 1, (g.nodes.length : Int)⟩ : Sh))).flatMap Sh.cells)) ∧ Hid (Ext w1 W)) (fun _ u _ => g.nodes.length - (intOf u).toNat)
    case atStart => exact ⟨0, rfl, Nat.zero_le _, Lib.hid (HS0.out _), Lib.hid hE0⟩
    case round =>
      clear HS0 k0 k1 k2 k3 hE0
      obtain ⟨k, rfl, hk, hown, hE⟩ := hrel
      have k0 := hE.out.cell g0
      have k1 := hE.out.cell g1
      have k2 := hE.out.cell g2
      have k3 := hE.out.cell g3
      by_cases hlt : k < g.nodes.length
      · obtain ⟨b, o, rfl, hc⟩ := HN.out.at_ hlt
        obtain ⟨-, d0, A', c', B', d', d1, -, -, d2, -, -⟩ := hc k hlt
        have D0 := Lib.hid d0
        replace d0 := hE.out.cell d0
        replace d1 := hE.out.cell d1
        replace d2 := hE.out.cell d2
        have MK1 := Lib.hid (fun V (e : Ext wr V) => (⟨e.cell k0, e.cell d0, hE.out.trans e⟩ : V.cell? ⟨q, 0, none⟩ = some (.slice (some ⟨b, o, none⟩) g.nodes.length c) ∧ V.cell? ⟨b, o + k * 3, none⟩ = some (.int .i64 g.nodes[k]!.id) ∧ Ext w1 V))
        have HS := Lib.hid (HSN.out k hlt)
        clear hc HSN
        generalize g.nodes[k]! = x at *
        have hown' := hown.out
        have hE' := hE.out
        have hkb : k + 1 ≤ 8388608 := by omega
        clear hown hE
        have HE2 := Lib.hid hE'
        have HO3 := Lib.hid hown'
        clear hown'
        have q1 : (k : Int) < (g.nodes.length : Int) := by omega
        go_upto_region 7 with (fail)
        refine wp_region_held_drew (S := (fun V => V.cell? ⟨q, 0, none⟩ = some (.slice (some ⟨b, o, none⟩) g.nodes.length c) ∧ V.cell? ⟨b, o + k * 3, none⟩ = some (.int .i64 x.id) ∧ Ext w1 V)) (by kernel_rfl) ?hs1 (fun hHeld => ?go1)
        case hs1 => (first | exact ⟨hx9.cell g0, hx9.cell D0.out, hx9⟩ | exact MK1.out _ (by with_reducible repeat (first | exact Ext.refl _ | assumption | refine Ext.drew ?_ | refine Ext.drewN ?_ _ | refine Ext.alloc ?_ _)))
        refine wpAnyH_take (i := 0) (oi := ⟨(some 15), (.move (.tmp 3)), 29, "ref.go:17", #[], none⟩) (v := ?v2) rfl (by kernel_rfl) (by kernel_rfl) (by kernel_rfl) (fun _ _ _ h => h) (Or.inl ⟨rfl, ?hy2⟩) hHeld ?rest2
        case hy2 => (intro w _; go_simp <;> rfl)
        (try simp only [PU])
        refine wpAnyH_take (i := 1) (oi := ⟨(some 16), (.fieldAddr 25 (.tmp 1) 0), 0, "ref.go:17", #[], none⟩) (v := ?v3) rfl (by kernel_rfl) (by kernel_rfl) (by kernel_rfl) (fun _ _ _ h => h) (Or.inl ⟨rfl, ?hy3⟩) hHeld ?rest3
        case hy3 => (intro w _; go_simp <;> rfl)
        (try simp only [PU])
        refine wpAnyH_take (i := 2) (oi := ⟨(some 17), (.load 22 (.tmp 16)), 22, "ref.go:17", #[⟨1, .data⟩], none⟩) (v := ?v4) rfl (by kernel_rfl) (by kernel_rfl) (by kernel_rfl) (fun _ _ _ h => h) (Or.inl ⟨rfl, ?hy4⟩) hHeld ?rest4
        case hy4 => (intro w hSw; (try dsimp only at hSw); go_simp <;> first | with_reducible rfl | rw [if_neg (by omega)] | rw [if_pos (by omega)])
        (try simp only [PU])
        refine wpAnyH_take (i := 3) (oi := ⟨(some 18), (.move (.tmp 4)), 3, "ref.go:17", #[], none⟩) (v := ?v5) rfl (by kernel_rfl) (by kernel_rfl) (by kernel_rfl) (fun _ _ _ h => h) (Or.inl ⟨rfl, ?hy5⟩) hHeld ?rest5
        case hy5 => (intro w _; go_simp <;> rfl)
        (try simp only [PU])
        refine wpAnyH_take (i := 4) (oi := ⟨(some 19), (.indexAddr 22 (.tmp 17) (.tmp 18)), 0, "ref.go:17", #[⟨2, .data⟩, ⟨3, .data⟩], none⟩) (v := ?v6) rfl (by kernel_rfl) (by kernel_rfl) (by kernel_rfl) (fun _ _ _ h => h) (Or.inl ⟨rfl, ?hy6⟩) hHeld ?rest6
        case hy6 => (intro w _; go_simp <;> first | with_reducible rfl | rw [if_neg (by omega)] | rw [if_pos (by omega)])
        (try simp only [PU])
        refine wpAnyH_take (i := 5) (oi := ⟨(some 20), (.fieldAddr 58 (.tmp 19) 0), 0, "ref.go:17", #[⟨4, .data⟩], none⟩) (v := ?v7) rfl (by kernel_rfl) (by kernel_rfl) (by kernel_rfl) (fun _ _ _ h => h) (Or.inl ⟨rfl, ?hy7⟩) hHeld ?rest7
        case hy7 => (intro w _; go_simp <;> rfl)
        (try simp only [PU])
        refine wpAnyH_take (i := 6) (oi := ⟨(some 21), (.load 3 (.tmp 20)), 3, "ref.go:17", #[⟨5, .data⟩], none⟩) (v := ?v8) rfl (by kernel_rfl) (by kernel_rfl) (by kernel_rfl) (fun _ _ _ h => h) (Or.inl ⟨rfl, ?hy8⟩) hHeld ?rest8
        case hy8 => (intro w hSw; (try dsimp only at hSw); go_simp <;> first | with_reducible rfl | rw [if_neg (by omega)] | rw [if_pos (by omega)])
        (try simp only [PU])
        refine wpAnyH_take (i := 7) (oi := ⟨(some 22), (.fieldAddr 25 (.tmp 1) 0), 0, "ref.go:17", #[], none⟩) (v := ?v9) rfl (by kernel_rfl) (by kernel_rfl) (by kernel_rfl) (fun _ _ _ h => h) (Or.inl ⟨rfl, ?hy9⟩) hHeld ?rest9
        case hy9 => (intro w _; go_simp <;> rfl)
        (try simp only [PU])
        refine wpAnyH_take (i := 8) (oi := ⟨(some 23), (.load 22 (.tmp 22)), 22, "ref.go:17", #[⟨7, .data⟩], none⟩) (v := ?v10) rfl (by kernel_rfl) (by kernel_rfl) (by kernel_rfl) (fun _ _ _ h => h) (Or.inl ⟨rfl, ?hy10⟩) hHeld ?rest10
        case hy10 => (intro w hSw; (try dsimp only at hSw); go_simp <;> first | with_reducible rfl | rw [if_neg (by omega)] | rw [if_pos (by omega)])
        (try simp only [PU])
        refine wpAnyH_take (i := 9) (oi := ⟨(some 24), (.call { callee := (.builtin .len), args := #[(.tmp 23)], argTypes := #[22] }), 3, "ref.go:17", #[⟨8, .data⟩], none⟩) (v := ?v11) rfl (by kernel_rfl) (by kernel_rfl) (by kernel_rfl) (fun _ _ _ h => h) (Or.inl ⟨rfl, ?hy11⟩) hHeld ?rest11
        case hy11 => (intro w _; go_simp <;> first | with_reducible rfl | rw [if_neg (by omega)] | rw [if_pos (by omega)])
        (try simp only [PU])
        refine wpAnyH_take (i := 10) (oi := ⟨(some 25), (.build 28 #[(0, (.const (.int .i64 1))), (1, (.tmp 24))]), 28, "ref.go:17", #[⟨9, .data⟩], none⟩) (v := ?v12) rfl (by kernel_rfl) (by kernel_rfl) (by kernel_rfl) (fun _ _ _ h => h) (Or.inl ⟨rfl, ?hy12⟩) hHeld ?rest12
        case hy12 => (intro w _; go_simp <;> rfl)
        (try simp only [PU])
        refine wpAnyH_take (i := 11) (oi := ⟨(some 26), (.build 46 #[(0, (.tmp 21)), (1, (.tmp 25))]), 46, "ref.go:17", #[⟨6, .data⟩, ⟨10, .data⟩], none⟩) (v := ?v13) rfl (by kernel_rfl) (by kernel_rfl) (by kernel_rfl) (fun _ _ _ h => h) (Or.inl ⟨rfl, ?hy13⟩) hHeld ?rest13
        case hy13 => (intro w _; go_simp <;> rfl)
        (try simp only [PU])
        refine wpAnyH_ready (rs := [12]) (by kernel_rfl) (by simp) ?_
        refine AllReadyH.cons (o := ⟨(some 27), (.buildSlice 29 1 #[(0, (.tmp 26))]), 29, "ref.go:17", #[⟨11, .data⟩], none⟩) rfl (fun K hK => ?step14x0) ?more14x0
        case more14x0 => exact AllReadyH.nil
        go_simp
        refine hK.out _ _ ?hS14x0 (fun hHeld14 => ?rest14x0)
        case hS14x0 => first | (first | exact ⟨hx9.cell g0, hx9.cell D0.out, hx9⟩ | exact MK1.out _ (by with_reducible repeat (first | exact Ext.refl _ | assumption | refine Ext.drew ?_ | refine Ext.drewN ?_ _ | refine Ext.alloc ?_ _))) | ((try dsimp only); (first | exact ⟨hx9.cell g0, hx9.cell D0.out, hx9⟩ | exact MK1.out _ (by with_reducible repeat (first | exact Ext.refl _ | assumption | refine Ext.drew ?_ | refine Ext.drewN ?_ _ | refine Ext.alloc ?_ _))))
        clear hK K
        clear hHeld
        (try simp only [PU])
        refine wpAnyH_ready (rs := [13]) (by kernel_rfl) (by simp) ?_
        refine AllReadyH.cons (o := ⟨(some 28), (.call { callee := (.builtin .append), args := #[(.tmp 15), (.tmp 27)], argTypes := #[29, 29] }), 29, "ref.go:17", #[⟨0, .data⟩, ⟨12, .data⟩], none⟩) rfl (fun K hK => ?step15x0) ?more15x0
        case more15x0 => exact AllReadyH.nil
        (refine step_pushK El_share rfl (.tmp 15) (.tmp 27) rfl w1.heap.size wr.drew _ k _ [.int .i64 x.id, .int .i64 1, .int .i64 (g.nodes.length : Int)] rfl (own_ext HO3.out (by with_reducible repeat (first | exact Ext.refl _ | assumption | refine Ext.drew ?_ | refine Ext.drewN ?_ _ | refine Ext.alloc ?_ _))) (Ext.le (by with_reducible repeat (first | exact Ext.refl _ | assumption | refine Ext.drew ?_ | refine Ext.drewN ?_ _ | refine Ext.alloc ?_ _))) rfl _ rfl rfl rfl (by simp [Value.oneCell']) hkb (by decide) ?_; intro v2 w9 hown2 hg9; have hx9 : Ext w1 w9 := Ext.grown (b := wr.drew) (by with_reducible repeat (first | exact Ext.refl _ | assumption | refine Ext.drew ?_ | refine Ext.drewN ?_ _ | refine Ext.alloc ?_ _)) hg9 (fun kk hkk => (HO3.out.lt kk hkk).1))
        refine hK.out _ _ ?hS15x0 (fun hHeld15 => ?rest15x0)
        case hS15x0 => first | (first | exact ⟨hx9.cell g0, hx9.cell D0.out, hx9⟩ | exact MK1.out _ (by with_reducible repeat (first | exact Ext.refl _ | assumption | refine Ext.drew ?_ | refine Ext.drewN ?_ _ | refine Ext.alloc ?_ _))) | ((try dsimp only); (first | exact ⟨hx9.cell g0, hx9.cell D0.out, hx9⟩ | exact MK1.out _ (by with_reducible repeat (first | exact Ext.refl _ | assumption | refine Ext.drew ?_ | refine Ext.drewN ?_ _ | refine Ext.alloc ?_ _))))
        clear hK K
        clear hHeld14
        (try simp only [PU])
        refine wpAnyH_take (i := 14) (oi := ⟨(some 3), (.assign (.tmp 28)), 29, "ref.go:17", #[⟨13, .data⟩, ⟨13, .chain⟩, ⟨0, .phase⟩, ⟨1, .phase⟩, ⟨2, .phase⟩, ⟨3, .phase⟩, ⟨4, .phase⟩, ⟨5, .phase⟩, ⟨6, .phase⟩, ⟨7, .phase⟩, ⟨8, .phase⟩, ⟨9, .phase⟩, ⟨10, .phase⟩, ⟨11, .phase⟩, ⟨12, .phase⟩, ⟨13, .phase⟩], none⟩) (v := ?v16) rfl (by kernel_rfl) (by kernel_rfl) (by kernel_rfl) (fun _ _ _ h => h) (Or.inl ⟨rfl, ?hy16⟩) hHeld15 ?rest16
        case hy16 => (intro w _; go_simp <;> first | with_reducible rfl | rw [if_neg (by omega)] | rw [if_pos (by omega)])
        (try simp only [PU])
        refine wpAnyH_done (by kernel_rfl) ?_ _
        clear hHeld15
        have HE9x := hx9
        go_wp2_with fail
        have HO2 := Lib.hid (show w9.ownsRow w1.heap.size 46 3 v2 (k + 1) (((g.nodes.take (k + 1)).map (fun x => (⟨x.id, 1, (g.nodes.length : Int)⟩ : Sh))).flatMap Sh.cells) by rw [HS.out]; exact hown2)
        have HE9 := Lib.hid HE9x
        go_roundw
        case rel => exact ⟨k + 1, by go_num, by omega, HO2, HE9⟩
        case measure => simp [intOf]; omega
      · obtain ⟨A9, c9, rfl, h9, hS9⟩ := shares_of_own (l := startR g) (by rw [HR.out]; have := hown.out; rwa [List.take_of_length_le (by omega)] at this) (by rw [HR.out, List.length_map]; omega) (by rw [HR.out, List.length_map]; omega)
        have hE' := hE.out
        clear hown hE HR
        go_wp2_with fail
        go_ret
        exact ⟨A9, c9, rfl, h9, hS9.keep (fun _ _ _ hb hc => ⟨hc, Nat.le_trans hle1 hb⟩), hx1.trans hE'⟩
  · have hz : (chkG g != 0) = true := bne_iff_ne.2 h0
    have HR := Lib.hid (startR_no h0)
    generalize chkG g = z at *
    clear hw1 hq hg h0
    rw [HR.out]
    go_enter Tryz.func11, Tryz.ntmps11
    go_upto_region 1 with (fail)
    rw [← HW1.out, ← HG.out]
    clear HW1 HG
    go_wp2_with (go_at_call 21; ((with_reducible refine (HC.out _ hx1).mono ?_); rintro e w2 ⟨rfl, hx2⟩))
    go_ret
    exact ⟨none, 0, rfl, Nat.le_refl _, SliceR.nil _ _ _, hx1.trans hx2⟩
end Go.Proofs.YtlkpmbkmmfoakaaGreatDoor

/- ONE STEP, plain; the walks over the reference's rest and in. -/
namespace Go.Proofs.YtlkpmbkmmfoakaaGreatDoor
open Go.RowKit
theorem frozen_ext {a b : World} (e : Ext a b) {p : Addr} {v : Value} (hc : a.cell? p = some v) (hf : a.frozen? p = false) : b.frozen? p = false := (frozen_heap (a := a) (e.block _ (block_lt_of_cell hc))).trans hf
def restStep (d : Int → Nat) (a : Option Fr) (x : Sh) : Option Fr := if d x.id = 0 then a.bind (fun s => addO s (x.n, x.d)) else a
/-- the sum of the shares of the nodes that no edge leaves -/
def restO (d : Int → Nat) (l : List Sh) : Option Fr := l.foldl (restStep d) (some (0, 1))
theorem restO_snoc (d : Int → Nat) (l : List Sh) (k : Nat) (h : k < l.length) : restO d (l.take (k + 1)) = restStep d (restO d (l.take k)) l[k]! := by
  unfold restO
  rw [List.take_succ_eq_append_getElem h, List.foldl_append, getElem!_pos l k h]; rfl
theorem restStep_none (d : Int → Nat) (x : Sh) : restStep d none x = none := by unfold restStep; split <;> rfl
theorem restO_none {d : Int → Nat} {l : List Sh} {k : Nat} (h : restO d (l.take k) = none) : restO d l = none := by
  have : ∀ l' : List Sh, l'.foldl (restStep d) none = none := fun l' => by
    induction l' with
    | nil => rfl
    | cons x r ih => rw [List.foldl_cons, restStep_none]; exact ih
  unfold restO at *
  rw [← List.take_append_drop k l, List.foldl_append, h]; exact this _
def restV (d : Int → Nat) (l : List Sh) (n : Int) : Option Fr := (restO d l).bind (fun s => divO s (n, 1))
def inStep (types : List ByteArray) (d : Int → Nat) (l : List Sh) (id : Int) (a : Option Fr) (e : EdgeG) : Option Fr :=
  if e.to_ = id ∧ typB types e.typ = true then a.bind (fun s => (divO (shareOf l e.frm) ((d e.frm : Int), 1)).bind (fun q => addO s q)) else a
/-- what a node gets by its edges -/
def inO (types : List ByteArray) (d : Int → Nat) (l : List Sh) (E : List EdgeG) (id : Int) : Option Fr := E.foldl (inStep types d l id) (some (0, 1))
theorem inO_snoc (types : List ByteArray) (d : Int → Nat) (l : List Sh) (E : List EdgeG) (id : Int) (k : Nat) (h : k < E.length) : inO types d l (E.take (k + 1)) id = inStep types d l id (inO types d l (E.take k) id) E[k]! := by
  unfold inO
  rw [List.take_succ_eq_append_getElem h, List.foldl_append, getElem!_pos E k h]; rfl
theorem inStep_none (types : List ByteArray) (d : Int → Nat) (l : List Sh) (id : Int) (e : EdgeG) : inStep types d l id none e = none := by unfold inStep; split <;> rfl
theorem inO_none {types : List ByteArray} {d : Int → Nat} {l : List Sh} {E : List EdgeG} {id : Int} {k : Nat} (h : inO types d l (E.take k) id = none) : inO types d l E id = none := by
  have : ∀ l' : List EdgeG, l'.foldl (inStep types d l id) none = none := fun l' => by
    induction l' with
    | nil => rfl
    | cons x r ih => rw [List.foldl_cons, inStep_none]; exact ih
  unfold inO at *
  rw [← List.take_append_drop k E, List.foldl_append, h]; exact this _
/-- what a function of a fraction and a Boolean tells -/
def TellsO (V : Option Fr) (w : World) (e : Ending) (w' : World) : Prop := (∃ a b : Int, e = .returned (.tuple #[.agg #[.int .i64 a, .int .i64 b], .bool V.isSome]) ∧ ∀ f, V = some f → f = (a, b)) ∧ Ext w w'
theorem addO_of (a b : Fr) : (addS a.1 a.2 b.1 b.2).2.2 = (addO a b).isSome ∧ ∀ f, addO a b = some f → f = ((addS a.1 a.2 b.1 b.2).1, (addS a.1 a.2 b.1 b.2).2.1) := by
  unfold addO; split <;> simp_all
theorem subO_of (a b : Fr) : (subS a.1 a.2 b.1 b.2).2.2 = (subO a b).isSome ∧ ∀ f, subO a b = some f → f = ((subS a.1 a.2 b.1 b.2).1, (subS a.1 a.2 b.1 b.2).2.1) := by
  unfold subO; split <;> simp_all
theorem mulO_of (a b : Fr) : (mulS a.1 a.2 b.1 b.2).2.2 = (mulO a b).isSome ∧ ∀ f, mulO a b = some f → f = ((mulS a.1 a.2 b.1 b.2).1, (mulS a.1 a.2 b.1 b.2).2.1) := by
  unfold mulO; split <;> simp_all
theorem divO_of (a b : Fr) : (divS a.1 a.2 b.1 b.2).2.2 = (divO a b).isSome ∧ ∀ f, divO a b = some f → f = ((divS a.1 a.2 b.1 b.2).1, (divS a.1 a.2 b.1 b.2).2.1) := by
  unfold divO; split <;> simp_all
theorem q3_Add (a b : Fr) (w : World) : Calls Tryz.prog 29 #[.agg #[.int .i64 a.1, .int .i64 a.2], .agg #[.int .i64 b.1, .int .i64 b.2]] w (TellsO (addO a b) w) :=
  (r3_Add a.1 a.2 b.1 b.2 w).mono fun _ _ ⟨h1, h2⟩ => ⟨⟨_, _, by rw [h1, (addO_of a b).1], (addO_of a b).2⟩, of_below h2⟩
theorem q3_Sub (a b : Fr) (w : World) : Calls Tryz.prog 25 #[.agg #[.int .i64 a.1, .int .i64 a.2], .agg #[.int .i64 b.1, .int .i64 b.2]] w (TellsO (subO a b) w) :=
  (r3_Sub a.1 a.2 b.1 b.2 w).mono fun _ _ ⟨h1, h2⟩ => ⟨⟨_, _, by rw [h1, (subO_of a b).1], (subO_of a b).2⟩, of_below h2⟩
theorem q3_Mul (a b : Fr) (w : World) : Calls Tryz.prog 30 #[.agg #[.int .i64 a.1, .int .i64 a.2], .agg #[.int .i64 b.1, .int .i64 b.2]] w (TellsO (mulO a b) w) :=
  (r3_Mul a.1 a.2 b.1 b.2 w).mono fun _ _ ⟨h1, h2⟩ => ⟨⟨_, _, by rw [h1, (mulO_of a b).1], (mulO_of a b).2⟩, of_below h2⟩
theorem q3_Div (a b : Fr) (w : World) : Calls Tryz.prog 27 #[.agg #[.int .i64 a.1, .int .i64 a.2], .agg #[.int .i64 b.1, .int .i64 b.2]] w (TellsO (divO a b) w) :=
  (r3_Div a.1 a.2 b.1 b.2 w).mono fun _ _ ⟨h1, h2⟩ => ⟨⟨_, _, by rw [h1, (divO_of a b).1], (divO_of a b).2⟩, of_below h2⟩
set_option maxRecDepth 100000 in
set_option maxHeartbeats 3200000 in
theorem r51_rest (g : GraphG) (types : List ByteArray) (l : List Sh) (ok ok' ok2 : Nat → Prop) (A B T S' : Option Addr) (c d e f : Nat) (w : World) (hg : Edges w ok B g.edges) (ht : Strs w ok' T types) (hl : Shares w ok2 S' l) :
    Calls Tryz.prog 24 #[.agg #[.slice A g.nodes.length c, .slice B g.edges.length d, .int .i64 g.nn, .int .i64 g.ne], .slice T types.length e, .slice S' l.length f] w (TellsO (restV (fun i => degN types g.edges i) l (g.nodes.length : Int)) w) := by
  have hm := hl.len
  obtain ⟨q, w2, hq, hw2, g0, g1, g2, g3, z0, z1, y0, y1, hx2⟩ : ∃ (q : Nat) (w2 : World), q = w.heap.size ∧ w2 = (w.alloc (.cells #[.slice A g.nodes.length c, .slice B g.edges.length d, .int .i64 g.nn, .int .i64 g.ne] 25)).alloc (.cells #[.int .i64 0, .int .i64 0] 28) ∧ w2.cell? ⟨q, 0, none⟩ = some (.slice A g.nodes.length c) ∧ w2.cell? ⟨q, 1, none⟩ = some (.slice B g.edges.length d) ∧ w2.cell? ⟨q, 2, none⟩ = some (.int .i64 g.nn) ∧ w2.cell? ⟨q, 3, none⟩ = some (.int .i64 g.ne) ∧ w2.cell? ⟨q + 1, 0, none⟩ = some (.int .i64 0) ∧ w2.cell? ⟨q + 1, 1, none⟩ = some (.int .i64 0) ∧ w2.frozen? ⟨q + 1, 0, none⟩ = false ∧ w2.frozen? ⟨q + 1, 1, none⟩ = false ∧ Ext w w2 :=
    ⟨_, _, rfl, rfl, by go_simp, by go_simp, by go_simp, by go_simp, by go_simp, by go_simp, by go_simp, by go_simp, (by with_reducible repeat (first | exact Ext.refl _ | assumption | refine Ext.drew ?_ | refine Ext.drewN ?_ _ | refine Ext.alloc ?_ _))⟩
  have HW := Lib.hid hw2
  have HG := Lib.hid hq
  have HL := Lib.hid (hl.ext hx2)
  have HD := Lib.hid (fun i W (e' : Ext w2 W) => r51_degree g types i ok ok' A B T c d e W (hg.ext (hx2.trans e')) (ht.ext (hx2.trans e')))
  have HLE := Lib.hid (show w.heap.size ≤ q + 1 by omega)
  clear hw2 hq hg ht hl
  obtain ⟨D, hD⟩ : ∃ D : Int → Nat, D = fun i => degN types g.edges i := ⟨_, rfl⟩
  have HD' := Lib.hid (fun i W (e' : Ext w2 W) => (by have h := HD.out i W e'; rw [show degN types g.edges i = D i by rw [hD]] at h; exact h : Calls Tryz.prog 51 #[.agg #[.slice A g.nodes.length c, .slice B g.edges.length d, .int .i64 g.nn, .int .i64 g.ne], .slice T types.length e, .int .i64 i] W fun e w' => e = .returned (.int .i64 (D i : Int)) ∧ Ext W w'))
  have HRV0 := Lib.hid (show restV (fun i => degN types g.edges i) l (g.nodes.length : Int) = (restO D l).bind (fun s => divO s ((g.nodes.length : Int), 1)) by rw [hD]; rfl)
  obtain ⟨RV, hRV⟩ : ∃ RV, RV = restV (fun i => degN types g.edges i) l (g.nodes.length : Int) := ⟨_, rfl⟩
  rw [← hRV] at HRV0 ⊢
  clear hD hRV HD
  go_enter Tryz.func24, Tryz.ntmps24
  go_upto_region 1 with (fail)
  rw [← HW.out, ← HG.out]
  clear HW HG
  go_wp2_with (go_at_call 26; ((with_reducible refine (r51_whole _ _).mono ?_); rintro e w3 ⟨rfl, hx3⟩; have k0 := hx3.cell g0; have k1 := hx3.cell g1; have k2 := hx3.cell g2; have k3 := hx3.cell g3; have kz0 := hx3.cell z0; have kz1 := hx3.cell z1; have l0 := frozen_ext hx3 z0 y0; have l1 := frozen_ext hx3 z1 y1; have hlt3 := block_lt_of_cell k0; have hlt4 := block_lt_of_cell kz0))
  obtain ⟨g8, w4, hg8, hw4, c0, c1, f0, f1⟩ : ∃ (g8 : Nat) (w4 : World), g8 = w3.heap.size ∧ w4 = w3.alloc (.cells #[.int .i64 0, .int .i64 1] 28) ∧ w4.cell? ⟨g8, 0, none⟩ = some (.int .i64 0) ∧ w4.cell? ⟨g8, 1, none⟩ = some (.int .i64 1) ∧ w4.frozen? ⟨g8, 0, none⟩ = false ∧ w4.frozen? ⟨g8, 1, none⟩ = false := ⟨_, _, rfl, rfl, by go_simp, by go_simp, by go_simp, by go_simp⟩
  have hx34 : Ext w3 w4 := by rw [hw4]; exact (Ext.refl _).alloc _
  have hle8 : w3.heap.size ≤ g8 := by omega
  rw [← hw4, ← hg8]
  clear hw4 hg8 hlt3 hlt4
  have HSN := Lib.hid (restO_snoc D l)
  go_loopw [9] (fun u W => ∃ (k : Nat) (S : Fr), u = .int .i64 k ∧ k ≤ l.length ∧ Hid (restO D (l.take k) = some S) ∧ Ext w3 W ∧ W.cell? ⟨g8, 0, none⟩ = some (.int .i64 S.1) ∧ W.cell? ⟨g8, 1, none⟩ = some (.int .i64 S.2) ∧ W.frozen? ⟨g8, 0, none⟩ = false ∧ W.frozen? ⟨g8, 1, none⟩ = false) (fun u _ => l.length - (intOf u).toNat)
  case atStart => exact ⟨0, (0, 1), rfl, Nat.zero_le _, Lib.hid rfl, hx34, c0, c1, f0, f1⟩
  case round =>
    clear c0 c1 f0 f1 hx34
    obtain ⟨k, S, rfl, hk, hS, hE, c0, c1, f0, f1⟩ := hrel
    by_cases hlt : k < l.length
    · obtain ⟨b, o, rfl, hc⟩ := HL.out.at_ hlt
      obtain ⟨-, x0, x1, x2⟩ := hc k hlt
      replace x0 := hE.cell (hx3.cell x0)
      replace x1 := hE.cell (hx3.cell x1)
      replace x2 := hE.cell (hx3.cell x2)
      have j0 := hE.cell k0
      have j1 := hE.cell k1
      have j2 := hE.cell k2
      have j3 := hE.cell k3
      have HST := Lib.hid (HSN.out k hlt)
      rw [hS.out] at HST
      have HX := Lib.hid (fun (h : restO D (l.take (k + 1)) = none) => (by rw [HRV0.out, restO_none h]; rfl : RV = none))
      have q1 : (k : Int) < (l.length : Int) := by omega
      have HC := Lib.hid (fun W (e' : Ext wr W) => HD'.out l[k]!.id W ((hx3.trans hE).trans e'))
      clear hc HSN HRV0 HD'
      generalize l[k]! = x at *
      obtain ⟨dg, hdg⟩ : ∃ dg, dg = D x.id := ⟨_, rfl⟩
      rw [← hdg] at HC
      have HDG := Lib.hid hdg
      clear hdg
      by_cases hd : dg = 0
      · subst hd
        have HS := Lib.hid (fun (f : Fr) (h : addO S (x.n, x.d) = some f) => (by rw [HST.out]; unfold restStep; rw [if_pos HDG.out.symm, Option.bind_some]; exact h : restO D (l.take (k + 1)) = some f))
        have HNO := Lib.hid (fun (h : addO S (x.n, x.d) = none) => HX.out (by rw [HST.out]; unfold restStep; rw [if_pos HDG.out.symm, Option.bind_some]; exact h))
        have HAD := Lib.hid (fun W => q3_Add S (x.n, x.d) W)
        dsimp only at HAD
        generalize addO S (x.n, x.d) = av at *
        clear HST HDG hS
        go_upto_region 5 with (fail)
        have MKR1 := Lib.hid (fun V (e : Ext wr V) => (⟨e.cell j0, e.cell j1, e.cell j2, e.cell j3, e.cell x0, e⟩ : V.cell? ⟨q, 0, none⟩ = some (.slice A g.nodes.length c) ∧ V.cell? ⟨q, 1, none⟩ = some (.slice B g.edges.length d) ∧ V.cell? ⟨q, 2, none⟩ = some (.int .i64 g.nn) ∧ V.cell? ⟨q, 3, none⟩ = some (.int .i64 g.ne) ∧ V.cell? ⟨b, o + k * 3, none⟩ = some (.int .i64 x.id) ∧ Ext wr V))
        refine wp_region_held_drew (S := (fun V => V.cell? ⟨q, 0, none⟩ = some (.slice A g.nodes.length c) ∧ V.cell? ⟨q, 1, none⟩ = some (.slice B g.edges.length d) ∧ V.cell? ⟨q, 2, none⟩ = some (.int .i64 g.nn) ∧ V.cell? ⟨q, 3, none⟩ = some (.int .i64 g.ne) ∧ V.cell? ⟨b, o + k * 3, none⟩ = some (.int .i64 x.id) ∧ Ext wr V)) (by kernel_rfl) ?hs1 (fun hHeld => ?go1)
        case hs1 => (exact MKR1.out _ (by with_reducible repeat (first | exact Ext.refl _ | assumption | refine Ext.drew ?_ | refine Ext.drewN ?_ _ | refine Ext.alloc ?_ _)))
        refine wpAnyH_take (i := 0) (oi := ⟨(some 19), (.load 25 (.tmp 3)), 25, "ref.go:68", #[], none⟩) (v := ?v2) rfl (by kernel_rfl) (by kernel_rfl) (by kernel_rfl) (fun _ _ _ h => h) (Or.inl ⟨rfl, ?hy2⟩) hHeld ?rest2
        case hy2 => (intro w hSw; (try dsimp only at hSw); go_simp <;> first | with_reducible rfl | rw [if_neg (by omega)] | rw [if_pos (by omega)])
        (try simp only [PU])
        refine wpAnyH_take (i := 1) (oi := ⟨(some 20), (.move (.tmp 1)), 26, "ref.go:68", #[], none⟩) (v := ?v3) rfl (by kernel_rfl) (by kernel_rfl) (by kernel_rfl) (fun _ _ _ h => h) (Or.inl ⟨rfl, ?hy3⟩) hHeld ?rest3
        case hy3 => (intro w _; go_simp <;> rfl)
        (try simp only [PU])
        refine wpAnyH_take (i := 2) (oi := ⟨(some 21), (.move (.tmp 2)), 29, "ref.go:68", #[], none⟩) (v := ?v4) rfl (by kernel_rfl) (by kernel_rfl) (by kernel_rfl) (fun _ _ _ h => h) (Or.inl ⟨rfl, ?hy4⟩) hHeld ?rest4
        case hy4 => (intro w _; go_simp <;> rfl)
        (try simp only [PU])
        refine wpAnyH_take (i := 3) (oi := ⟨(some 22), (.move (.tmp 9)), 3, "ref.go:68", #[], none⟩) (v := ?v5) rfl (by kernel_rfl) (by kernel_rfl) (by kernel_rfl) (fun _ _ _ h => h) (Or.inl ⟨rfl, ?hy5⟩) hHeld ?rest5
        case hy5 => (intro w _; go_simp <;> rfl)
        (try simp only [PU])
        refine wpAnyH_take (i := 4) (oi := ⟨(some 23), (.indexAddr 29 (.tmp 21) (.tmp 22)), 0, "ref.go:68", #[⟨2, .data⟩, ⟨3, .data⟩], none⟩) (v := ?v6) rfl (by kernel_rfl) (by kernel_rfl) (by kernel_rfl) (fun _ _ _ h => h) (Or.inl ⟨rfl, ?hy6⟩) hHeld ?rest6
        case hy6 => (intro w _; go_simp <;> first | with_reducible rfl | rw [if_neg (by omega)] | rw [if_pos (by omega)])
        (try simp only [PU])
        refine wpAnyH_take (i := 5) (oi := ⟨(some 24), (.fieldAddr 46 (.tmp 23) 0), 0, "ref.go:68", #[⟨4, .data⟩], none⟩) (v := ?v7) rfl (by kernel_rfl) (by kernel_rfl) (by kernel_rfl) (fun _ _ _ h => h) (Or.inl ⟨rfl, ?hy7⟩) hHeld ?rest7
        case hy7 => (intro w _; go_simp <;> rfl)
        (try simp only [PU])
        refine wpAnyH_take (i := 6) (oi := ⟨(some 25), (.load 3 (.tmp 24)), 3, "ref.go:68", #[⟨5, .data⟩], none⟩) (v := ?v8) rfl (by kernel_rfl) (by kernel_rfl) (by kernel_rfl) (fun _ _ _ h => h) (Or.inl ⟨rfl, ?hy8⟩) hHeld ?rest8
        case hy8 => (intro w hSw; (try dsimp only at hSw); go_simp <;> first | with_reducible rfl | rw [if_neg (by omega)] | rw [if_pos (by omega)])
        (try simp only [PU])
        refine wpAnyH_ready (rs := [7]) (by kernel_rfl) (by simp) ?_
        refine AllReadyH.cons (o := ⟨(some 26), (.call { callee := (.value (.func 51)), args := #[(.tmp 19), (.tmp 20), (.tmp 25)], argTypes := #[25, 26, 3] }), 3, "ref.go:68", #[⟨0, .data⟩, ⟨1, .data⟩, ⟨6, .data⟩], none⟩) rfl (fun K hK => ?step9x0) ?more9x0
        case more9x0 => exact AllReadyH.nil
        go_simp
        (refine (HC.out _ (by with_reducible repeat (first | exact Ext.refl _ | assumption | refine Ext.drew ?_ | refine Ext.drewN ?_ _ | refine Ext.alloc ?_ _))).mono ?_; rintro e w5 ⟨rfl, hx5⟩; replace hx5 : Ext wr w5 := Ext.trans (by with_reducible repeat (first | exact Ext.refl _ | assumption | refine Ext.drew ?_ | refine Ext.drewN ?_ _ | refine Ext.alloc ?_ _)) hx5)
        refine hK.out _ _ ?hS9x0 (fun hHeld9 => ?rest9x0)
        case hS9x0 => first | (exact MKR1.out _ (by with_reducible repeat (first | exact Ext.refl _ | assumption | refine Ext.drew ?_ | refine Ext.drewN ?_ _ | refine Ext.alloc ?_ _))) | ((try dsimp only); (exact MKR1.out _ (by with_reducible repeat (first | exact Ext.refl _ | assumption | refine Ext.drew ?_ | refine Ext.drewN ?_ _ | refine Ext.alloc ?_ _))))
        clear hK K
        clear hHeld
        (try simp only [PU])
        refine wpAnyH_take (i := 8) (oi := ⟨(some 27), (.binOp .gtr 3 (.tmp 26) (.const (.int .i64 0)) 3), 4, "ref.go:68", #[⟨7, .data⟩], none⟩) (v := ?v10) rfl (by kernel_rfl) (by kernel_rfl) (by kernel_rfl) (fun _ _ _ h => h) (Or.inl ⟨rfl, ?hy10⟩) hHeld9 ?rest10
        case hy10 => (intro w _; go_simp <;> first | with_reducible rfl | rw [if_neg (by omega)] | rw [if_pos (by omega)])
        (try simp only [PU])
        refine wpAnyH_done (by kernel_rfl) ?_ _
        clear hHeld9
        clear MKR1
        have c0' := hx5.cell c0
        have c1' := hx5.cell c1
        have x1' := hx5.cell x1
        have x2' := hx5.cell x2
        have f0' := frozen_ext hx5 c0 f0
        have f1' := frozen_ext hx5 c1 f1
        clear c0 c1 f0 f1 x0 x1 x2 j0 j1 j2 j3 HC
        have MKA := Lib.hid (fun V (e : Ext w5 V) => (⟨e.cell c0', e.cell c1', e.cell x1', e.cell x2', e⟩ : V.cell? ⟨g8, 0, none⟩ = some (.int .i64 S.1) ∧ V.cell? ⟨g8, 1, none⟩ = some (.int .i64 S.2) ∧ V.cell? ⟨b, o + k * 3 + 1, none⟩ = some (.int .i64 x.n) ∧ V.cell? ⟨b, o + k * 3 + 2, none⟩ = some (.int .i64 x.d) ∧ Ext w5 V))
        have MKB := Lib.hid (fun V gg u0 u1 (hgg : w5.heap.size ≤ gg) (e : Ext w5 V) => (⟨((cell_other (by have := block_lt_of_cell c0'; simp at this; omega)).trans ((cell_other (by have := block_lt_of_cell c0'; simp at this; omega)).trans (e.cell c0'))), ((cell_other (by have := block_lt_of_cell c1'; simp at this; omega)).trans ((cell_other (by have := block_lt_of_cell c1'; simp at this; omega)).trans (e.cell c1'))), ((cell_other (by have := block_lt_of_cell x1'; simp at this; omega)).trans ((cell_other (by have := block_lt_of_cell x1'; simp at this; omega)).trans (e.cell x1'))), ((cell_other (by have := block_lt_of_cell x2'; simp at this; omega)).trans ((cell_other (by have := block_lt_of_cell x2'; simp at this; omega)).trans (e.cell x2'))), (Ext.setCell (Ext.setCell e hgg _) hgg _)⟩ : ((V.setCell ⟨gg, 0, none⟩ u0).setCell ⟨gg, 1, none⟩ u1).cell? ⟨g8, 0, none⟩ = some (.int .i64 S.1) ∧ ((V.setCell ⟨gg, 0, none⟩ u0).setCell ⟨gg, 1, none⟩ u1).cell? ⟨g8, 1, none⟩ = some (.int .i64 S.2) ∧ ((V.setCell ⟨gg, 0, none⟩ u0).setCell ⟨gg, 1, none⟩ u1).cell? ⟨b, o + k * 3 + 1, none⟩ = some (.int .i64 x.n) ∧ ((V.setCell ⟨gg, 0, none⟩ u0).setCell ⟨gg, 1, none⟩ u1).cell? ⟨b, o + k * 3 + 2, none⟩ = some (.int .i64 x.d) ∧ Ext w5 ((V.setCell ⟨gg, 0, none⟩ u0).setCell ⟨gg, 1, none⟩ u1)))
        go_upto_region 6 with (fail)
        go_cut [10, 11] from 13 to 41 (fun p r wx => ∃ (gx : Nat) (a b : Int), p = .pointer (some ⟨gx, 0, none⟩) ∧ r = .bool av.isSome ∧ Hid (∀ f, av = some f → f = (a, b)) ∧ wx.cell? ⟨gx, 0, none⟩ = some (.int .i64 a) ∧ wx.cell? ⟨gx, 1, none⟩ = some (.int .i64 b) ∧ Ext w5 wx)
        case first =>
          refine wp_region_held_drew (S := (fun V => V.cell? ⟨g8, 0, none⟩ = some (.int .i64 S.1) ∧ V.cell? ⟨g8, 1, none⟩ = some (.int .i64 S.2) ∧ V.cell? ⟨b, o + k * 3 + 1, none⟩ = some (.int .i64 x.n) ∧ V.cell? ⟨b, o + k * 3 + 2, none⟩ = some (.int .i64 x.d) ∧ Ext w5 V)) (by kernel_rfl) ?hs5001 (fun hHeld => ?go5001)
          case hs5001 => (first | with_reducible exact MKB.out _ _ _ _ (by first | exact Nat.le_refl _ | exact Ext.le (by with_reducible repeat (first | exact Ext.refl _ | assumption | refine Ext.drew ?_ | refine Ext.drewN ?_ _ | refine Ext.alloc ?_ _))) (by with_reducible repeat (first | exact Ext.refl _ | assumption | refine Ext.drew ?_ | refine Ext.drewN ?_ _ | refine Ext.alloc ?_ _)) | exact MKA.out _ (by with_reducible repeat (first | exact Ext.refl _ | assumption | refine Ext.drew ?_ | refine Ext.drewN ?_ _ | refine Ext.alloc ?_ _)))
          refine wpAnyH_take (i := 0) (oi := ⟨(some 29), (.load 28 (.tmp 8)), 28, "ref.go:71", #[], none⟩) (v := ?v5002) rfl (by kernel_rfl) (by kernel_rfl) (by kernel_rfl) (fun _ _ _ h => h) (Or.inl ⟨rfl, ?hy5002⟩) hHeld ?rest5002
          case hy5002 => (intro w hSw; (try dsimp only at hSw); go_simp <;> first | with_reducible rfl | rw [if_neg (by omega)] | rw [if_pos (by omega)])
          (try simp only [PU])
          refine wpAnyH_take (i := 1) (oi := ⟨(some 30), (.move (.tmp 2)), 29, "ref.go:71", #[], none⟩) (v := ?v5003) rfl (by kernel_rfl) (by kernel_rfl) (by kernel_rfl) (fun _ _ _ h => h) (Or.inl ⟨rfl, ?hy5003⟩) hHeld ?rest5003
          case hy5003 => (intro w _; go_simp <;> rfl)
          (try simp only [PU])
          refine wpAnyH_take (i := 2) (oi := ⟨(some 31), (.move (.tmp 9)), 3, "ref.go:71", #[], none⟩) (v := ?v5004) rfl (by kernel_rfl) (by kernel_rfl) (by kernel_rfl) (fun _ _ _ h => h) (Or.inl ⟨rfl, ?hy5004⟩) hHeld ?rest5004
          case hy5004 => (intro w _; go_simp <;> rfl)
          (try simp only [PU])
          refine wpAnyH_take (i := 3) (oi := ⟨(some 32), (.indexAddr 29 (.tmp 30) (.tmp 31)), 0, "ref.go:71", #[⟨1, .data⟩, ⟨2, .data⟩], none⟩) (v := ?v5005) rfl (by kernel_rfl) (by kernel_rfl) (by kernel_rfl) (fun _ _ _ h => h) (Or.inl ⟨rfl, ?hy5005⟩) hHeld ?rest5005
          case hy5005 => (intro w _; go_simp <;> first | with_reducible rfl | rw [if_neg (by omega)] | rw [if_pos (by omega)])
          (try simp only [PU])
          refine wpAnyH_take (i := 4) (oi := ⟨(some 33), (.fieldAddr 46 (.tmp 32) 1), 0, "ref.go:71", #[⟨3, .data⟩], none⟩) (v := ?v5006) rfl (by kernel_rfl) (by kernel_rfl) (by kernel_rfl) (fun _ _ _ h => h) (Or.inl ⟨rfl, ?hy5006⟩) hHeld ?rest5006
          case hy5006 => (intro w _; go_simp <;> rfl)
          (try simp only [PU])
          refine wpAnyH_take (i := 5) (oi := ⟨(some 34), (.load 28 (.tmp 33)), 28, "ref.go:71", #[⟨4, .data⟩], none⟩) (v := ?v5007) rfl (by kernel_rfl) (by kernel_rfl) (by kernel_rfl) (fun _ _ _ h => h) (Or.inl ⟨rfl, ?hy5007⟩) hHeld ?rest5007
          case hy5007 => (intro w hSw; (try dsimp only at hSw); go_simp <;> first | with_reducible rfl | rw [if_neg (by omega)] | rw [if_pos (by omega)])
          (try simp only [PU])
          refine wpAnyH_ready (rs := [6, 10]) (by kernel_rfl) (by simp) ?_
          refine AllReadyH.cons (o := ⟨(some 35), (.call { callee := (.value (.func 29)), args := #[(.tmp 29), (.tmp 34)], argTypes := #[28, 28] }), 41, "ref.go:71", #[⟨0, .data⟩, ⟨5, .data⟩], none⟩) rfl (fun K hK => ?step5008x0) ?more5008x0
          case more5008x0 =>
            refine AllReadyH.cons (o := ⟨(some 10), (.alloc 28), 0, "ref.go:71", #[], none⟩) rfl (fun K hK => ?step5008x1) ?more5008x1
            case more5008x1 => exact AllReadyH.nil
            go_simp
            refine hK.out _ _ ?hS5008x1 (fun hHeld5008 => ?rest5008x1)
            case hS5008x1 => first | (first | with_reducible exact MKB.out _ _ _ _ (by first | exact Nat.le_refl _ | exact Ext.le (by with_reducible repeat (first | exact Ext.refl _ | assumption | refine Ext.drew ?_ | refine Ext.drewN ?_ _ | refine Ext.alloc ?_ _))) (by with_reducible repeat (first | exact Ext.refl _ | assumption | refine Ext.drew ?_ | refine Ext.drewN ?_ _ | refine Ext.alloc ?_ _)) | exact MKA.out _ (by with_reducible repeat (first | exact Ext.refl _ | assumption | refine Ext.drew ?_ | refine Ext.drewN ?_ _ | refine Ext.alloc ?_ _))) | ((try dsimp only); (first | with_reducible exact MKB.out _ _ _ _ (by first | exact Nat.le_refl _ | exact Ext.le (by with_reducible repeat (first | exact Ext.refl _ | assumption | refine Ext.drew ?_ | refine Ext.drewN ?_ _ | refine Ext.alloc ?_ _))) (by with_reducible repeat (first | exact Ext.refl _ | assumption | refine Ext.drew ?_ | refine Ext.drewN ?_ _ | refine Ext.alloc ?_ _)) | exact MKA.out _ (by with_reducible repeat (first | exact Ext.refl _ | assumption | refine Ext.drew ?_ | refine Ext.drewN ?_ _ | refine Ext.alloc ?_ _))))
            clear hK K
            clear hHeld
            (try simp only [PU])
            refine wpAnyH_ready (rs := [6]) (by kernel_rfl) (by simp) ?_
            refine AllReadyH.cons (o := ⟨(some 35), (.call { callee := (.value (.func 29)), args := #[(.tmp 29), (.tmp 34)], argTypes := #[28, 28] }), 41, "ref.go:71", #[⟨0, .data⟩, ⟨5, .data⟩], none⟩) rfl (fun K hK => ?step5009x0) ?more5009x0
            case more5009x0 => exact AllReadyH.nil
            go_simp
            (refine (HAD.out _).mono ?_; rintro e w6 ⟨⟨ra, rb, rfl, hrv⟩, hx6⟩; have HRV := Lib.hid hrv; clear hrv; have zz0 := hx6.cell (p := ⟨w5.heap.size, 0, none⟩) (v := (.int .i64 0)) (by go_simp); have zz1 := hx6.cell (p := ⟨w5.heap.size, 1, none⟩) (v := (.int .i64 0)) (by go_simp); have yy0 := frozen_ext hx6 (p := ⟨w5.heap.size, 0, none⟩) (v := (.int .i64 0)) (by go_simp) (by go_simp); have yy1 := frozen_ext hx6 (p := ⟨w5.heap.size, 1, none⟩) (v := (.int .i64 0)) (by go_simp) (by go_simp); replace hx6 : Ext w5 w6 := Ext.trans (by with_reducible repeat (first | exact Ext.refl _ | assumption | refine Ext.drew ?_ | refine Ext.drewN ?_ _ | refine Ext.alloc ?_ _)) hx6)
            refine hK.out _ _ ?hS5009x0 (fun hHeld5009 => ?rest5009x0)
            case hS5009x0 => first | (first | with_reducible exact MKB.out _ _ _ _ (by first | exact Nat.le_refl _ | exact Ext.le (by with_reducible repeat (first | exact Ext.refl _ | assumption | refine Ext.drew ?_ | refine Ext.drewN ?_ _ | refine Ext.alloc ?_ _))) (by with_reducible repeat (first | exact Ext.refl _ | assumption | refine Ext.drew ?_ | refine Ext.drewN ?_ _ | refine Ext.alloc ?_ _)) | exact MKA.out _ (by with_reducible repeat (first | exact Ext.refl _ | assumption | refine Ext.drew ?_ | refine Ext.drewN ?_ _ | refine Ext.alloc ?_ _))) | ((try dsimp only); (first | with_reducible exact MKB.out _ _ _ _ (by first | exact Nat.le_refl _ | exact Ext.le (by with_reducible repeat (first | exact Ext.refl _ | assumption | refine Ext.drew ?_ | refine Ext.drewN ?_ _ | refine Ext.alloc ?_ _))) (by with_reducible repeat (first | exact Ext.refl _ | assumption | refine Ext.drew ?_ | refine Ext.drewN ?_ _ | refine Ext.alloc ?_ _)) | exact MKA.out _ (by with_reducible repeat (first | exact Ext.refl _ | assumption | refine Ext.drew ?_ | refine Ext.drewN ?_ _ | refine Ext.alloc ?_ _))))
            clear hK K
            clear hHeld5008
            (try simp only [PU])
            refine wpAnyH_take (i := 7) (oi := ⟨(some 28), (.move (.tmp 35)), 41, "ref.go:71", #[⟨6, .data⟩], none⟩) (v := ?v5010) rfl (by kernel_rfl) (by kernel_rfl) (by kernel_rfl) (fun _ _ _ h => h) (Or.inl ⟨rfl, ?hy5010⟩) hHeld5009 ?rest5010
            case hy5010 => (intro w _; go_simp <;> rfl)
            (try simp only [PU])
            refine wpAnyH_take (i := 8) (oi := ⟨(some 36), (.extract (.tmp 28) 0), 28, "ref.go:71", #[⟨7, .data⟩], none⟩) (v := ?v5011) rfl (by kernel_rfl) (by kernel_rfl) (by kernel_rfl) (fun _ _ _ h => h) (Or.inl ⟨rfl, ?hy5011⟩) hHeld5009 ?rest5011
            case hy5011 => (intro w _; go_simp <;> rfl)
            (try simp only [PU])
            refine wpAnyH_take (i := 9) (oi := ⟨(some 37), (.extract (.tmp 28) 1), 4, "ref.go:71", #[⟨7, .data⟩, ⟨11, (.gcOnly Departure.lateStores)⟩], none⟩) (v := ?v5012) rfl (by kernel_rfl) (by kernel_rfl) (by kernel_rfl) (fun _ _ _ h => h) (Or.inl ⟨rfl, ?hy5012⟩) hHeld5009 ?rest5012
            case hy5012 => (intro w _; go_simp <;> rfl)
            (try simp only [PU])
            refine wpAnyH_ready (rs := [11]) (by kernel_rfl) (by simp) ?_
            refine AllReadyH.cons (o := ⟨none, (.store 28 (.tmp 10) (.tmp 36)), 0, "ref.go:71", #[⟨10, .data⟩, ⟨8, .data⟩, ⟨6, .chain⟩, ⟨0, .phase⟩, ⟨1, .phase⟩, ⟨2, .phase⟩, ⟨3, .phase⟩, ⟨4, .phase⟩, ⟨5, .phase⟩, ⟨6, .phase⟩, ⟨7, .phase⟩, ⟨8, .phase⟩, ⟨9, (.textOnly Departure.lateStores)⟩, ⟨10, .phase⟩], none⟩) rfl (fun K hK => ?step5013x0) ?more5013x0
            case more5013x0 => exact AllReadyH.nil
            go_simp
            refine hK.out _ _ ?hS5013x0 (fun hHeld5013 => ?rest5013x0)
            case hS5013x0 => first | (first | with_reducible exact MKB.out _ _ _ _ (by first | exact Nat.le_refl _ | exact Ext.le (by with_reducible repeat (first | exact Ext.refl _ | assumption | refine Ext.drew ?_ | refine Ext.drewN ?_ _ | refine Ext.alloc ?_ _))) (by with_reducible repeat (first | exact Ext.refl _ | assumption | refine Ext.drew ?_ | refine Ext.drewN ?_ _ | refine Ext.alloc ?_ _)) | exact MKA.out _ (by with_reducible repeat (first | exact Ext.refl _ | assumption | refine Ext.drew ?_ | refine Ext.drewN ?_ _ | refine Ext.alloc ?_ _))) | ((try dsimp only); (first | with_reducible exact MKB.out _ _ _ _ (by first | exact Nat.le_refl _ | exact Ext.le (by with_reducible repeat (first | exact Ext.refl _ | assumption | refine Ext.drew ?_ | refine Ext.drewN ?_ _ | refine Ext.alloc ?_ _))) (by with_reducible repeat (first | exact Ext.refl _ | assumption | refine Ext.drew ?_ | refine Ext.drewN ?_ _ | refine Ext.alloc ?_ _)) | exact MKA.out _ (by with_reducible repeat (first | exact Ext.refl _ | assumption | refine Ext.drew ?_ | refine Ext.drewN ?_ _ | refine Ext.alloc ?_ _))))
            clear hK K
            clear hHeld5009
            refine wpAnyH_take (i := 12) (oi := ⟨(some 11), (.assign (.tmp 37)), 4, "ref.go:71", #[⟨9, .data⟩, ⟨11, .chain⟩, ⟨0, .phase⟩, ⟨1, .phase⟩, ⟨2, .phase⟩, ⟨3, .phase⟩, ⟨4, .phase⟩, ⟨5, .phase⟩, ⟨6, .phase⟩, ⟨7, .phase⟩, ⟨8, .phase⟩, ⟨9, .phase⟩, ⟨10, .phase⟩, ⟨11, .phase⟩], none⟩) (v := ?v5014) rfl (by kernel_rfl) (by kernel_rfl) (by kernel_rfl) (fun _ _ _ h => h) (Or.inl ⟨rfl, ?hy5014⟩) hHeld5013 ?rest5014
            case hy5014 => (intro w _; go_simp <;> first | with_reducible rfl | rw [if_neg (by omega)] | rw [if_pos (by omega)])
            (try simp only [PU])
            refine wpAnyH_done (by kernel_rfl) ?_ _
            clear hHeld5013
            go_wp2_with fail
            go_meet
            case rel => exact ⟨w5.heap.size, ra, rb, rfl, rfl, HRV, by go_simp, by go_simp, (Ext.setCell (Ext.setCell (by with_reducible repeat (first | exact Ext.refl _ | assumption | refine Ext.drew ?_ | refine Ext.drewN ?_ _ | refine Ext.alloc ?_ _)) (by first | exact Nat.le_refl _ | exact Ext.le (by with_reducible repeat (first | exact Ext.refl _ | assumption | refine Ext.drew ?_ | refine Ext.drewN ?_ _ | refine Ext.alloc ?_ _))) _) (by first | exact Nat.le_refl _ | exact Ext.le (by with_reducible repeat (first | exact Ext.refl _ | assumption | refine Ext.drew ?_ | refine Ext.drewN ?_ _ | refine Ext.alloc ?_ _))) _)⟩
          go_simp
          (refine (HAD.out _).mono ?_; rintro e w6 ⟨⟨ra, rb, rfl, hrv⟩, hx6⟩; have HRV := Lib.hid hrv; clear hrv; replace hx6 : Ext w5 w6 := Ext.trans (by with_reducible repeat (first | exact Ext.refl _ | assumption | refine Ext.drew ?_ | refine Ext.drewN ?_ _ | refine Ext.alloc ?_ _)) hx6)
          refine hK.out _ _ ?hS5008x0 (fun hHeld5008 => ?rest5008x0)
          case hS5008x0 => first | (first | with_reducible exact MKB.out _ _ _ _ (by first | exact Nat.le_refl _ | exact Ext.le (by with_reducible repeat (first | exact Ext.refl _ | assumption | refine Ext.drew ?_ | refine Ext.drewN ?_ _ | refine Ext.alloc ?_ _))) (by with_reducible repeat (first | exact Ext.refl _ | assumption | refine Ext.drew ?_ | refine Ext.drewN ?_ _ | refine Ext.alloc ?_ _)) | exact MKA.out _ (by with_reducible repeat (first | exact Ext.refl _ | assumption | refine Ext.drew ?_ | refine Ext.drewN ?_ _ | refine Ext.alloc ?_ _))) | ((try dsimp only); (first | with_reducible exact MKB.out _ _ _ _ (by first | exact Nat.le_refl _ | exact Ext.le (by with_reducible repeat (first | exact Ext.refl _ | assumption | refine Ext.drew ?_ | refine Ext.drewN ?_ _ | refine Ext.alloc ?_ _))) (by with_reducible repeat (first | exact Ext.refl _ | assumption | refine Ext.drew ?_ | refine Ext.drewN ?_ _ | refine Ext.alloc ?_ _)) | exact MKA.out _ (by with_reducible repeat (first | exact Ext.refl _ | assumption | refine Ext.drew ?_ | refine Ext.drewN ?_ _ | refine Ext.alloc ?_ _))))
          clear hK K
          clear hHeld
          (try simp only [PU])
          refine wpAnyH_take (i := 7) (oi := ⟨(some 28), (.move (.tmp 35)), 41, "ref.go:71", #[⟨6, .data⟩], none⟩) (v := ?v5015) rfl (by kernel_rfl) (by kernel_rfl) (by kernel_rfl) (fun _ _ _ h => h) (Or.inl ⟨rfl, ?hy5015⟩) hHeld5008 ?rest5015
          case hy5015 => (intro w _; go_simp <;> rfl)
          (try simp only [PU])
          refine wpAnyH_take (i := 8) (oi := ⟨(some 36), (.extract (.tmp 28) 0), 28, "ref.go:71", #[⟨7, .data⟩], none⟩) (v := ?v5016) rfl (by kernel_rfl) (by kernel_rfl) (by kernel_rfl) (fun _ _ _ h => h) (Or.inl ⟨rfl, ?hy5016⟩) hHeld5008 ?rest5016
          case hy5016 => (intro w _; go_simp <;> rfl)
          (try simp only [PU])
          refine wpAnyH_take (i := 9) (oi := ⟨(some 37), (.extract (.tmp 28) 1), 4, "ref.go:71", #[⟨7, .data⟩, ⟨11, (.gcOnly Departure.lateStores)⟩], none⟩) (v := ?v5017) rfl (by kernel_rfl) (by kernel_rfl) (by kernel_rfl) (fun _ _ _ h => h) (Or.inl ⟨rfl, ?hy5017⟩) hHeld5008 ?rest5017
          case hy5017 => (intro w _; go_simp <;> rfl)
          (try simp only [PU])
          refine wpAnyH_ready (rs := [10]) (by kernel_rfl) (by simp) ?_
          refine AllReadyH.cons (o := ⟨(some 10), (.alloc 28), 0, "ref.go:71", #[], none⟩) rfl (fun K hK => ?step5018x0) ?more5018x0
          case more5018x0 => exact AllReadyH.nil
          go_simp
          refine hK.out _ _ ?hS5018x0 (fun hHeld5018 => ?rest5018x0)
          case hS5018x0 => first | (first | with_reducible exact MKB.out _ _ _ _ (by first | exact Nat.le_refl _ | exact Ext.le (by with_reducible repeat (first | exact Ext.refl _ | assumption | refine Ext.drew ?_ | refine Ext.drewN ?_ _ | refine Ext.alloc ?_ _))) (by with_reducible repeat (first | exact Ext.refl _ | assumption | refine Ext.drew ?_ | refine Ext.drewN ?_ _ | refine Ext.alloc ?_ _)) | exact MKA.out _ (by with_reducible repeat (first | exact Ext.refl _ | assumption | refine Ext.drew ?_ | refine Ext.drewN ?_ _ | refine Ext.alloc ?_ _))) | ((try dsimp only); (first | with_reducible exact MKB.out _ _ _ _ (by first | exact Nat.le_refl _ | exact Ext.le (by with_reducible repeat (first | exact Ext.refl _ | assumption | refine Ext.drew ?_ | refine Ext.drewN ?_ _ | refine Ext.alloc ?_ _))) (by with_reducible repeat (first | exact Ext.refl _ | assumption | refine Ext.drew ?_ | refine Ext.drewN ?_ _ | refine Ext.alloc ?_ _)) | exact MKA.out _ (by with_reducible repeat (first | exact Ext.refl _ | assumption | refine Ext.drew ?_ | refine Ext.drewN ?_ _ | refine Ext.alloc ?_ _))))
          clear hK K
          clear hHeld5008
          (try simp only [PU])
          refine wpAnyH_ready (rs := [11]) (by kernel_rfl) (by simp) ?_
          refine AllReadyH.cons (o := ⟨none, (.store 28 (.tmp 10) (.tmp 36)), 0, "ref.go:71", #[⟨10, .data⟩, ⟨8, .data⟩, ⟨6, .chain⟩, ⟨0, .phase⟩, ⟨1, .phase⟩, ⟨2, .phase⟩, ⟨3, .phase⟩, ⟨4, .phase⟩, ⟨5, .phase⟩, ⟨6, .phase⟩, ⟨7, .phase⟩, ⟨8, .phase⟩, ⟨9, (.textOnly Departure.lateStores)⟩, ⟨10, .phase⟩], none⟩) rfl (fun K hK => ?step5019x0) ?more5019x0
          case more5019x0 => exact AllReadyH.nil
          go_simp
          refine hK.out _ _ ?hS5019x0 (fun hHeld5019 => ?rest5019x0)
          case hS5019x0 => first | (first | with_reducible exact MKB.out _ _ _ _ (by first | exact Nat.le_refl _ | exact Ext.le (by with_reducible repeat (first | exact Ext.refl _ | assumption | refine Ext.drew ?_ | refine Ext.drewN ?_ _ | refine Ext.alloc ?_ _))) (by with_reducible repeat (first | exact Ext.refl _ | assumption | refine Ext.drew ?_ | refine Ext.drewN ?_ _ | refine Ext.alloc ?_ _)) | exact MKA.out _ (by with_reducible repeat (first | exact Ext.refl _ | assumption | refine Ext.drew ?_ | refine Ext.drewN ?_ _ | refine Ext.alloc ?_ _))) | ((try dsimp only); (first | with_reducible exact MKB.out _ _ _ _ (by first | exact Nat.le_refl _ | exact Ext.le (by with_reducible repeat (first | exact Ext.refl _ | assumption | refine Ext.drew ?_ | refine Ext.drewN ?_ _ | refine Ext.alloc ?_ _))) (by with_reducible repeat (first | exact Ext.refl _ | assumption | refine Ext.drew ?_ | refine Ext.drewN ?_ _ | refine Ext.alloc ?_ _)) | exact MKA.out _ (by with_reducible repeat (first | exact Ext.refl _ | assumption | refine Ext.drew ?_ | refine Ext.drewN ?_ _ | refine Ext.alloc ?_ _))))
          clear hK K
          clear hHeld5018
          refine wpAnyH_take (i := 12) (oi := ⟨(some 11), (.assign (.tmp 37)), 4, "ref.go:71", #[⟨9, .data⟩, ⟨11, .chain⟩, ⟨0, .phase⟩, ⟨1, .phase⟩, ⟨2, .phase⟩, ⟨3, .phase⟩, ⟨4, .phase⟩, ⟨5, .phase⟩, ⟨6, .phase⟩, ⟨7, .phase⟩, ⟨8, .phase⟩, ⟨9, .phase⟩, ⟨10, .phase⟩, ⟨11, .phase⟩], none⟩) (v := ?v5020) rfl (by kernel_rfl) (by kernel_rfl) (by kernel_rfl) (fun _ _ _ h => h) (Or.inl ⟨rfl, ?hy5020⟩) hHeld5019 ?rest5020
          case hy5020 => (intro w _; go_simp <;> first | with_reducible rfl | rw [if_neg (by omega)] | rw [if_pos (by omega)])
          (try simp only [PU])
          refine wpAnyH_done (by kernel_rfl) ?_ _
          clear hHeld5019
          go_wp2_with fail
          go_meet
          case rel => exact ⟨w6.heap.size, ra, rb, rfl, rfl, HRV, by go_simp, by go_simp, (by with_reducible repeat (first | exact Ext.refl _ | assumption | refine Ext.drew ?_ | refine Ext.drewN ?_ _ | refine Ext.alloc ?_ _))⟩
        case rest =>
          clear MKA MKB
          obtain ⟨g10, ra, rb, rfl, rfl, HRV, e0, e1, hx6⟩ := hcut
          have HB6 := hE.trans (hx5.trans hx6)
          have m0 := hx6.cell c0'
          have m1 := hx6.cell c1'
          have fm0 := frozen_ext hx6 c0' f0'
          have fm1 := frozen_ext hx6 c1' f1'
          have r0 := HB6.cell kz0
          have r1 := HB6.cell kz1
          have s0 := frozen_ext HB6 kz0 l0
          have s1 := frozen_ext HB6 kz1 l1
          cases hv : av with
          | none =>
            have HT := Lib.hid (HNO.out hv)
            rw [hv] at *
            clear HAD HS HX
            go_wp2_with fail
            refine bodyPost_ret (v := .tuple #[.agg #[.int .i64 ra, .int .i64 rb], .bool false]) (by simp [results, Tryz.results24, go_sem, *]) rfl ?_
            exact ⟨⟨ra, rb, by rw [HT.out]; rfl, fun f hf => by rw [HT.out] at hf; cases hf⟩, (((hx2.trans hx3).trans HB6).setCell HLE.out _).setCell HLE.out _⟩
          | some fv =>
            have HT := Lib.hid (HS.out _ hv)
            obtain rfl := HRV.out fv hv
            rw [hv] at *
            clear HAD HS HX HRV hv
            go_wp2_with fail
            go_roundw
            case rel => exact ⟨k + 1, (ra, rb), by go_num, by omega, HT, (HB6.setCell (by omega) _).setCell (by omega) _, by go_simp, by go_simp, by rw [World.frozen?_setCell, World.frozen?_setCell]; exact fm0, by rw [World.frozen?_setCell, World.frozen?_setCell]; exact fm1⟩
            case measure => simp [intOf]; omega
      · have hd2 : (0 : Int) < (dg : Int) := by omega
        have HT := Lib.hid (show restO D (l.take (k + 1)) = some S by rw [HST.out]; unfold restStep; rw [if_neg (by rw [← HDG.out]; exact hd)])
        clear HST HX hS hd HDG
        go_upto_region 5 with (fail)
        have MKR2 := Lib.hid (fun V (e : Ext wr V) => (⟨e.cell j0, e.cell j1, e.cell j2, e.cell j3, e.cell x0, e⟩ : V.cell? ⟨q, 0, none⟩ = some (.slice A g.nodes.length c) ∧ V.cell? ⟨q, 1, none⟩ = some (.slice B g.edges.length d) ∧ V.cell? ⟨q, 2, none⟩ = some (.int .i64 g.nn) ∧ V.cell? ⟨q, 3, none⟩ = some (.int .i64 g.ne) ∧ V.cell? ⟨b, o + k * 3, none⟩ = some (.int .i64 x.id) ∧ Ext wr V))
        refine wp_region_held_drew (S := (fun V => V.cell? ⟨q, 0, none⟩ = some (.slice A g.nodes.length c) ∧ V.cell? ⟨q, 1, none⟩ = some (.slice B g.edges.length d) ∧ V.cell? ⟨q, 2, none⟩ = some (.int .i64 g.nn) ∧ V.cell? ⟨q, 3, none⟩ = some (.int .i64 g.ne) ∧ V.cell? ⟨b, o + k * 3, none⟩ = some (.int .i64 x.id) ∧ Ext wr V)) (by kernel_rfl) ?hs11 (fun hHeld => ?go11)
        case hs11 => (exact MKR2.out _ (by with_reducible repeat (first | exact Ext.refl _ | assumption | refine Ext.drew ?_ | refine Ext.drewN ?_ _ | refine Ext.alloc ?_ _)))
        refine wpAnyH_take (i := 0) (oi := ⟨(some 19), (.load 25 (.tmp 3)), 25, "ref.go:68", #[], none⟩) (v := ?v12) rfl (by kernel_rfl) (by kernel_rfl) (by kernel_rfl) (fun _ _ _ h => h) (Or.inl ⟨rfl, ?hy12⟩) hHeld ?rest12
        case hy12 => (intro w hSw; (try dsimp only at hSw); go_simp <;> first | with_reducible rfl | rw [if_neg (by omega)] | rw [if_pos (by omega)])
        (try simp only [PU])
        refine wpAnyH_take (i := 1) (oi := ⟨(some 20), (.move (.tmp 1)), 26, "ref.go:68", #[], none⟩) (v := ?v13) rfl (by kernel_rfl) (by kernel_rfl) (by kernel_rfl) (fun _ _ _ h => h) (Or.inl ⟨rfl, ?hy13⟩) hHeld ?rest13
        case hy13 => (intro w _; go_simp <;> rfl)
        (try simp only [PU])
        refine wpAnyH_take (i := 2) (oi := ⟨(some 21), (.move (.tmp 2)), 29, "ref.go:68", #[], none⟩) (v := ?v14) rfl (by kernel_rfl) (by kernel_rfl) (by kernel_rfl) (fun _ _ _ h => h) (Or.inl ⟨rfl, ?hy14⟩) hHeld ?rest14
        case hy14 => (intro w _; go_simp <;> rfl)
        (try simp only [PU])
        refine wpAnyH_take (i := 3) (oi := ⟨(some 22), (.move (.tmp 9)), 3, "ref.go:68", #[], none⟩) (v := ?v15) rfl (by kernel_rfl) (by kernel_rfl) (by kernel_rfl) (fun _ _ _ h => h) (Or.inl ⟨rfl, ?hy15⟩) hHeld ?rest15
        case hy15 => (intro w _; go_simp <;> rfl)
        (try simp only [PU])
        refine wpAnyH_take (i := 4) (oi := ⟨(some 23), (.indexAddr 29 (.tmp 21) (.tmp 22)), 0, "ref.go:68", #[⟨2, .data⟩, ⟨3, .data⟩], none⟩) (v := ?v16) rfl (by kernel_rfl) (by kernel_rfl) (by kernel_rfl) (fun _ _ _ h => h) (Or.inl ⟨rfl, ?hy16⟩) hHeld ?rest16
        case hy16 => (intro w _; go_simp <;> first | with_reducible rfl | rw [if_neg (by omega)] | rw [if_pos (by omega)])
        (try simp only [PU])
        refine wpAnyH_take (i := 5) (oi := ⟨(some 24), (.fieldAddr 46 (.tmp 23) 0), 0, "ref.go:68", #[⟨4, .data⟩], none⟩) (v := ?v17) rfl (by kernel_rfl) (by kernel_rfl) (by kernel_rfl) (fun _ _ _ h => h) (Or.inl ⟨rfl, ?hy17⟩) hHeld ?rest17
        case hy17 => (intro w _; go_simp <;> rfl)
        (try simp only [PU])
        refine wpAnyH_take (i := 6) (oi := ⟨(some 25), (.load 3 (.tmp 24)), 3, "ref.go:68", #[⟨5, .data⟩], none⟩) (v := ?v18) rfl (by kernel_rfl) (by kernel_rfl) (by kernel_rfl) (fun _ _ _ h => h) (Or.inl ⟨rfl, ?hy18⟩) hHeld ?rest18
        case hy18 => (intro w hSw; (try dsimp only at hSw); go_simp <;> first | with_reducible rfl | rw [if_neg (by omega)] | rw [if_pos (by omega)])
        (try simp only [PU])
        refine wpAnyH_ready (rs := [7]) (by kernel_rfl) (by simp) ?_
        refine AllReadyH.cons (o := ⟨(some 26), (.call { callee := (.value (.func 51)), args := #[(.tmp 19), (.tmp 20), (.tmp 25)], argTypes := #[25, 26, 3] }), 3, "ref.go:68", #[⟨0, .data⟩, ⟨1, .data⟩, ⟨6, .data⟩], none⟩) rfl (fun K hK => ?step19x0) ?more19x0
        case more19x0 => exact AllReadyH.nil
        go_simp
        (refine (HC.out _ (by with_reducible repeat (first | exact Ext.refl _ | assumption | refine Ext.drew ?_ | refine Ext.drewN ?_ _ | refine Ext.alloc ?_ _))).mono ?_; rintro e w5 ⟨rfl, hx5⟩; replace hx5 : Ext wr w5 := Ext.trans (by with_reducible repeat (first | exact Ext.refl _ | assumption | refine Ext.drew ?_ | refine Ext.drewN ?_ _ | refine Ext.alloc ?_ _)) hx5)
        refine hK.out _ _ ?hS19x0 (fun hHeld19 => ?rest19x0)
        case hS19x0 => first | (exact MKR2.out _ (by with_reducible repeat (first | exact Ext.refl _ | assumption | refine Ext.drew ?_ | refine Ext.drewN ?_ _ | refine Ext.alloc ?_ _))) | ((try dsimp only); (exact MKR2.out _ (by with_reducible repeat (first | exact Ext.refl _ | assumption | refine Ext.drew ?_ | refine Ext.drewN ?_ _ | refine Ext.alloc ?_ _))))
        clear hK K
        clear hHeld
        (try simp only [PU])
        refine wpAnyH_take (i := 8) (oi := ⟨(some 27), (.binOp .gtr 3 (.tmp 26) (.const (.int .i64 0)) 3), 4, "ref.go:68", #[⟨7, .data⟩], none⟩) (v := ?v20) rfl (by kernel_rfl) (by kernel_rfl) (by kernel_rfl) (fun _ _ _ h => h) (Or.inl ⟨rfl, ?hy20⟩) hHeld19 ?rest20
        case hy20 => (intro w _; go_simp <;> first | with_reducible rfl | rw [if_neg (by omega)] | rw [if_pos (by omega)])
        (try simp only [PU])
        refine wpAnyH_done (by kernel_rfl) ?_ _
        clear hHeld19
        clear MKR2
        go_wp2_with fail
        go_roundw
        case rel => exact ⟨k + 1, S, by go_num, by omega, HT, hE.trans hx5, hx5.cell c0, hx5.cell c1, frozen_ext hx5 c0 f0, frozen_ext hx5 c1 f1⟩
        case measure => simp [intOf]; omega
    · have HT := Lib.hid (show RV = divO S ((g.nodes.length : Int), 1) by rw [HRV0.out]; have h := hS.out; rw [List.take_of_length_le (by omega)] at h; rw [h, Option.bind_some])
      have HDV := Lib.hid (fun W => q3_Div S ((g.nodes.length : Int), 1) W)
      dsimp only at HDV
      rw [← HT.out] at HDV
      have r0 := hE.cell kz0
      have r1 := hE.cell kz1
      have s0 := frozen_ext hE kz0 l0
      have s1 := frozen_ext hE kz1 l1
      have j0 := hE.cell k0
      have hq8 : q ≠ g8 := by have := block_lt_of_cell k0; simp at this; omega
      have hEw := (hx2.trans hx3).trans hE
      have hle := HLE.out
      have hne8 : q + 1 ≠ g8 := by have := block_lt_of_cell kz0; simp at this; omega
      have MK1 := Lib.hid (fun V (e : Ext wr V) => (⟨e.cell c0, e.cell c1, e.cell j0, hEw.trans e⟩ : V.cell? ⟨g8, 0, none⟩ = some (.int .i64 S.1) ∧ V.cell? ⟨g8, 1, none⟩ = some (.int .i64 S.2) ∧ V.cell? ⟨q, 0, none⟩ = some (.slice A g.nodes.length c) ∧ Ext w V))
      have MK2 := Lib.hid (fun V u v (e : Ext wr V) => (⟨(cell_other hne8.symm).trans ((cell_other hne8.symm).trans (e.cell c0)), (cell_other hne8.symm).trans ((cell_other hne8.symm).trans (e.cell c1)), (cell_other (by omega)).trans ((cell_other (by omega)).trans (e.cell j0)), ((hEw.trans e).setCell hle _).setCell hle _⟩ : ((V.setCell ⟨q + 1, 0, none⟩ u).setCell ⟨q + 1, 1, none⟩ v).cell? ⟨g8, 0, none⟩ = some (.int .i64 S.1) ∧ ((V.setCell ⟨q + 1, 0, none⟩ u).setCell ⟨q + 1, 1, none⟩ v).cell? ⟨g8, 1, none⟩ = some (.int .i64 S.2) ∧ ((V.setCell ⟨q + 1, 0, none⟩ u).setCell ⟨q + 1, 1, none⟩ v).cell? ⟨q, 0, none⟩ = some (.slice A g.nodes.length c) ∧ Ext w ((V.setCell ⟨q + 1, 0, none⟩ u).setCell ⟨q + 1, 1, none⟩ v)))
      clear HSN HRV0 HD' hS
      go_upto_region 10 with (fail)
      refine wp_region_held_drew (S := (fun V => V.cell? ⟨g8, 0, none⟩ = some (.int .i64 S.1) ∧ V.cell? ⟨g8, 1, none⟩ = some (.int .i64 S.2) ∧ V.cell? ⟨q, 0, none⟩ = some (.slice A g.nodes.length c) ∧ Ext w V)) (by kernel_rfl) ?hs21 (fun hHeld => ?go21)
      case hs21 => (first | with_reducible exact MK2.out _ _ _ (by with_reducible repeat (first | exact Ext.refl _ | assumption | refine Ext.drew ?_ | refine Ext.drewN ?_ _ | refine Ext.alloc ?_ _)) | exact MK1.out _ (by with_reducible repeat (first | exact Ext.refl _ | assumption | refine Ext.drew ?_ | refine Ext.drewN ?_ _ | refine Ext.alloc ?_ _)))
      refine wpAnyH_take (i := 0) (oi := ⟨(some 42), (.load 28 (.tmp 8)), 28, "ref.go:77", #[], none⟩) (v := ?v22) rfl (by kernel_rfl) (by kernel_rfl) (by kernel_rfl) (fun _ _ _ h => h) (Or.inl ⟨rfl, ?hy22⟩) hHeld ?rest22
      case hy22 => (intro w hSw; (try dsimp only at hSw); go_simp <;> first | with_reducible rfl | rw [if_neg (by omega)] | rw [if_pos (by omega)])
      (try simp only [PU])
      refine wpAnyH_take (i := 1) (oi := ⟨(some 43), (.fieldAddr 25 (.tmp 3) 0), 0, "ref.go:77", #[], none⟩) (v := ?v23) rfl (by kernel_rfl) (by kernel_rfl) (by kernel_rfl) (fun _ _ _ h => h) (Or.inl ⟨rfl, ?hy23⟩) hHeld ?rest23
      case hy23 => (intro w _; go_simp <;> rfl)
      (try simp only [PU])
      refine wpAnyH_take (i := 2) (oi := ⟨(some 44), (.load 22 (.tmp 43)), 22, "ref.go:77", #[⟨1, .data⟩], none⟩) (v := ?v24) rfl (by kernel_rfl) (by kernel_rfl) (by kernel_rfl) (fun _ _ _ h => h) (Or.inl ⟨rfl, ?hy24⟩) hHeld ?rest24
      case hy24 => (intro w hSw; (try dsimp only at hSw); go_simp <;> first | with_reducible rfl | rw [if_neg (by omega)] | rw [if_pos (by omega)])
      (try simp only [PU])
      refine wpAnyH_take (i := 3) (oi := ⟨(some 45), (.call { callee := (.builtin .len), args := #[(.tmp 44)], argTypes := #[22] }), 3, "ref.go:77", #[⟨2, .data⟩], none⟩) (v := ?v25) rfl (by kernel_rfl) (by kernel_rfl) (by kernel_rfl) (fun _ _ _ h => h) (Or.inl ⟨rfl, ?hy25⟩) hHeld ?rest25
      case hy25 => (intro w _; go_simp <;> first | with_reducible rfl | rw [if_neg (by omega)] | rw [if_pos (by omega)])
      (try simp only [PU])
      refine wpAnyH_ready (rs := [4]) (by kernel_rfl) (by simp) ?_
      refine AllReadyH.cons (o := ⟨(some 46), (.call { callee := (.value (.func 26)), args := #[(.tmp 45)], argTypes := #[3] }), 28, "ref.go:77", #[⟨3, .data⟩], none⟩) rfl (fun K hK => ?step26x0) ?more26x0
      case more26x0 => exact AllReadyH.nil
      go_simp
      (refine (r51_whole _ _).mono ?_; rintro e w5 ⟨rfl, hx5⟩; replace hx5 : Ext wr w5 := Ext.trans (by with_reducible repeat (first | exact Ext.refl _ | assumption | refine Ext.drew ?_ | refine Ext.drewN ?_ _ | refine Ext.alloc ?_ _)) hx5)
      refine hK.out _ _ ?hS26x0 (fun hHeld26 => ?rest26x0)
      case hS26x0 => first | (first | with_reducible exact MK2.out _ _ _ (by with_reducible repeat (first | exact Ext.refl _ | assumption | refine Ext.drew ?_ | refine Ext.drewN ?_ _ | refine Ext.alloc ?_ _)) | exact MK1.out _ (by with_reducible repeat (first | exact Ext.refl _ | assumption | refine Ext.drew ?_ | refine Ext.drewN ?_ _ | refine Ext.alloc ?_ _))) | ((try dsimp only); (first | with_reducible exact MK2.out _ _ _ (by with_reducible repeat (first | exact Ext.refl _ | assumption | refine Ext.drew ?_ | refine Ext.drewN ?_ _ | refine Ext.alloc ?_ _)) | exact MK1.out _ (by with_reducible repeat (first | exact Ext.refl _ | assumption | refine Ext.drew ?_ | refine Ext.drewN ?_ _ | refine Ext.alloc ?_ _))))
      clear hK K
      clear hHeld
      (try simp only [PU])
      refine wpAnyH_ready (rs := [5]) (by kernel_rfl) (by simp) ?_
      refine AllReadyH.cons (o := ⟨(some 47), (.call { callee := (.value (.func 27)), args := #[(.tmp 42), (.tmp 46)], argTypes := #[28, 28] }), 41, "ref.go:77", #[⟨0, .data⟩, ⟨4, .data⟩, ⟨4, .chain⟩], none⟩) rfl (fun K hK => ?step27x0) ?more27x0
      case more27x0 => exact AllReadyH.nil
      go_simp
      (refine (HDV.out _).mono ?_; rintro e w6 ⟨⟨ra, rb, rfl, hrv⟩, hx6⟩; have HRV := Lib.hid hrv; clear hrv; replace hx6 : Ext wr w6 := Ext.trans (by with_reducible repeat (first | exact Ext.refl _ | assumption | refine Ext.drew ?_ | refine Ext.drewN ?_ _ | refine Ext.alloc ?_ _)) hx6; have t0 := hx6.cell r0; have t1 := hx6.cell r1; have v0 := frozen_ext hx6 r0 s0; have v1 := frozen_ext hx6 r1 s1)
      refine hK.out _ _ ?hS27x0 (fun hHeld27 => ?rest27x0)
      case hS27x0 => first | (first | with_reducible exact MK2.out _ _ _ (by with_reducible repeat (first | exact Ext.refl _ | assumption | refine Ext.drew ?_ | refine Ext.drewN ?_ _ | refine Ext.alloc ?_ _)) | exact MK1.out _ (by with_reducible repeat (first | exact Ext.refl _ | assumption | refine Ext.drew ?_ | refine Ext.drewN ?_ _ | refine Ext.alloc ?_ _))) | ((try dsimp only); (first | with_reducible exact MK2.out _ _ _ (by with_reducible repeat (first | exact Ext.refl _ | assumption | refine Ext.drew ?_ | refine Ext.drewN ?_ _ | refine Ext.alloc ?_ _)) | exact MK1.out _ (by with_reducible repeat (first | exact Ext.refl _ | assumption | refine Ext.drew ?_ | refine Ext.drewN ?_ _ | refine Ext.alloc ?_ _))))
      clear hK K
      clear hHeld26
      (try simp only [PU])
      refine wpAnyH_take (i := 6) (oi := ⟨(some 48), (.extract (.tmp 47) 0), 28, "ref.go:77", #[⟨5, .data⟩], none⟩) (v := ?v28) rfl (by kernel_rfl) (by kernel_rfl) (by kernel_rfl) (fun _ _ _ h => h) (Or.inl ⟨rfl, ?hy28⟩) hHeld27 ?rest28
      case hy28 => (intro w _; go_simp <;> rfl)
      (try simp only [PU])
      refine wpAnyH_take (i := 7) (oi := ⟨(some 49), (.extract (.tmp 47) 1), 4, "ref.go:77", #[⟨5, .data⟩], none⟩) (v := ?v29) rfl (by kernel_rfl) (by kernel_rfl) (by kernel_rfl) (fun _ _ _ h => h) (Or.inl ⟨rfl, ?hy29⟩) hHeld27 ?rest29
      case hy29 => (intro w _; go_simp <;> rfl)
      (try simp only [PU])
      refine wpAnyH_ready (rs := [8]) (by kernel_rfl) (by simp) ?_
      refine AllReadyH.cons (o := ⟨none, (.store 28 (.tmp 6) (.tmp 48)), 0, "ref.go:77", #[⟨6, .data⟩, ⟨5, .chain⟩, ⟨0, .phase⟩, ⟨1, .phase⟩, ⟨2, .phase⟩, ⟨3, .phase⟩, ⟨4, .phase⟩, ⟨5, .phase⟩, ⟨6, .phase⟩, ⟨7, .phase⟩], none⟩) rfl (fun K hK => ?step30x0) ?more30x0
      case more30x0 => exact AllReadyH.nil
      go_simp
      refine hK.out _ _ ?hS30x0 (fun hHeld30 => ?rest30x0)
      case hS30x0 => first | (first | with_reducible exact MK2.out _ _ _ (by with_reducible repeat (first | exact Ext.refl _ | assumption | refine Ext.drew ?_ | refine Ext.drewN ?_ _ | refine Ext.alloc ?_ _)) | exact MK1.out _ (by with_reducible repeat (first | exact Ext.refl _ | assumption | refine Ext.drew ?_ | refine Ext.drewN ?_ _ | refine Ext.alloc ?_ _))) | ((try dsimp only); (first | with_reducible exact MK2.out _ _ _ (by with_reducible repeat (first | exact Ext.refl _ | assumption | refine Ext.drew ?_ | refine Ext.drewN ?_ _ | refine Ext.alloc ?_ _)) | exact MK1.out _ (by with_reducible repeat (first | exact Ext.refl _ | assumption | refine Ext.drew ?_ | refine Ext.drewN ?_ _ | refine Ext.alloc ?_ _))))
      clear hK K
      clear hHeld27
      refine wpAnyH_take (i := 9) (oi := ⟨(some 7), (.assign (.tmp 49)), 4, "ref.go:77", #[⟨7, .data⟩, ⟨8, .chain⟩, ⟨0, .phase⟩, ⟨1, .phase⟩, ⟨2, .phase⟩, ⟨3, .phase⟩, ⟨4, .phase⟩, ⟨5, .phase⟩, ⟨6, .phase⟩, ⟨7, .phase⟩, ⟨8, .phase⟩], none⟩) (v := ?v31) rfl (by kernel_rfl) (by kernel_rfl) (by kernel_rfl) (fun _ _ _ h => h) (Or.inl ⟨rfl, ?hy31⟩) hHeld30 ?rest31
      case hy31 => (intro w _; go_simp <;> first | with_reducible rfl | rw [if_neg (by omega)] | rw [if_pos (by omega)])
      (try simp only [PU])
      refine wpAnyH_done (by kernel_rfl) ?_ _
      clear hHeld30
      go_wp2_with fail
      refine bodyPost_ret (v := .tuple #[.agg #[.int .i64 ra, .int .i64 rb], .bool RV.isSome]) (by simp [results, Tryz.results24, go_sem, *]) rfl ?_
      exact ⟨⟨ra, rb, rfl, HRV.out⟩, ((hEw.trans hx6).setCell hle _).setCell hle _⟩
end Go.Proofs.YtlkpmbkmmfoakaaGreatDoor
