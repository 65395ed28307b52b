/- PARTS OF THE WALKS, joined: PtL, PtM. -/
import Derived.Test.YtigmdddeplnciaaGreatDoorV16
/- THE WALKS over slices.Index and Contains at adjacencies; paths.Is. -/
namespace Go.Proofs.YtigmdddeplnciaaGreatDoor
open Go.RowKit
theorem cell_other {w : World} {b c o p : Nat} {v : Value} (h : b ≠ c) : (w.setCell ⟨c, o, none⟩ v).cell? ⟨b, p, none⟩ = w.cell? ⟨b, p, none⟩ := World.cell?_setCell_far w ⟨c, o, none⟩ ⟨b, p, none⟩ v (Ne.symm h)
theorem frozen_ext {a b : World} (e : Ext a b) {p : Addr} {v : Value} (hc : a.cell? p = some v) (hf : a.frozen? p = false) : b.frozen? p = false := frz_ext e hc hf
def agS (s : Sh) : Value := .agg #[.int .i64 s.id, .int .i64 s.n, .int .i64 s.d]
theorem sh_eq {a b : Sh} (h0 : a.id = b.id) (h1 : a.n = b.n) (h2 : a.d = b.d) : a = b := by cases a; cases b; cases h0; cases h1; cases h2; rfl
theorem if3_no {α : Type} {p q r : Prop} [Decidable p] [Decidable q] [Decidable r] {X Y : α} (h : ¬ (p ∧ q ∧ r)) : (if p then (if q then (if r then X else Y) else Y) else Y) = Y := by
  by_cases hp : p
  · by_cases hq : q
    · rw [if_pos hp, if_pos hq, if_neg (fun hr => h ⟨hp, hq, hr⟩)]
    · rw [if_pos hp, if_neg hq]
  · rw [if_neg hp]
set_option maxRecDepth 100000 in
set_option maxHeartbeats 1600000 in
theorem s_IndexAdj (l : List Sh) (s : Sh) (ok : Nat → Prop) (A : Option Addr) (c : Nat) (w : World) (hv : Shares w ok A l) :
    Calls Tryz.prog 69 #[.slice A l.length c, agS s] w fun e w' => e = .returned (.int .i64 (idxF (fun t => decide (s = t)) l)) ∧ Ext w w' := by
  have hm := hv.len
  obtain ⟨q, w1, hq, hw1, ⟨c0, c1, c2⟩, hx1⟩ := box_adj w s 65
  have HW1 := Lib.hid hw1
  have HQ := Lib.hid hq
  have HX1 := Lib.hid hx1
  have HV := Lib.hid (hv.ext hx1)
  have HY := Lib.hid (fun h => idxF_none (p := fun t => decide (s = t)) (l := l) h)
  have HB := Lib.hid (fun i (hi : i < l.length) h1 h2 => idxF_at (p := fun t => decide (s = t)) i hi h1 h2)
  obtain ⟨R, hR⟩ : ∃ R, R = idxF (fun t => decide (s = t)) l := ⟨_, rfl⟩
  rw [← hR] at HY HB ⊢
  have MK := Lib.hid (fun V (e : Ext w1 V) => (⟨e.cell c0, e.cell c1, e.cell c2⟩ : V.cell? ⟨q, 0, none⟩ = some (.int .i64 s.id) ∧ V.cell? ⟨q, 1, none⟩ = some (.int .i64 s.n) ∧ V.cell? ⟨q, 2, none⟩ = some (.int .i64 s.d)))
  clear hv hR hw1 hq c0 c1 c2 hx1
  unfold agS
  go_enter Tryz.func69, Tryz.ntmps69
  go_upto_region 1 with (fail)
  rw [← HW1.out, ← HQ.out]
  clear HW1 HQ
  go_wp2_with fail
  go_loopw [8] (fun u W => ∃ k : Nat, u = .int .i64 k ∧ k ≤ l.length ∧ Hid (∀ i (hi : i < l.length), i < k → decide (s = l[i]) = false) ∧ Hid (Ext w1 W)) (fun u _ => l.length - (intOf u).toNat)
  case atStart => exact ⟨0, rfl, Nat.zero_le _, Lib.hid (fun i _ hi => absurd hi (Nat.not_lt_zero _)), Lib.hid (Ext.refl _)⟩
  case round =>
    obtain ⟨k, rfl, hk, hgd, hE⟩ := hrel
    by_cases hlt : k < l.length
    · obtain ⟨b, o, rfl, hc⟩ := HV.out.2 (by omega)
      obtain ⟨-, h0, h1, h2⟩ := hc k hlt
      replace h0 := hE.out.cell h0
      replace h1 := hE.out.cell h1
      replace h2 := hE.out.cell h2
      obtain ⟨j0, j1, j2⟩ := MK.out wr hE.out
      have HS := Lib.hid (fun (h : decide (s = l[k]) = false) i hi (hj : i < k + 1) => (if e : i = k then (by subst e; exact h) else hgd.out i hi (by omega) : decide (s = l[i]) = false))
      have HB' := Lib.hid (HB.out k hlt hgd.out)
      have HNE := Lib.hid (fun (h : ¬ s = l[k]) => decide_eq_false h)
      have HXX := Lib.hid (fun (h : s = l[k]) => (⟨congrArg Sh.id h, congrArg Sh.n h, congrArg Sh.d h⟩ : s.id = l[k].id ∧ s.n = l[k].n ∧ s.d = l[k].d))
      clear hc HB hgd
      generalize l[k] = x at *
      have HN3 := Lib.hid (fun (h : ¬ s = x) (h' : s.id = x.id ∧ s.n = x.n ∧ s.d = x.d) => h (sh_eq h'.1 h'.2.1 h'.2.2))
      by_cases hq : s = x
      · have HT := Lib.hid (HB'.out (decide_eq_true hq))
        obtain ⟨e0, e1, e2⟩ := HXX.out hq
        rw [e0] at j0
        rw [e1] at j1
        rw [e2] at j2
        clear hq HB' HS HN3 HXX HNE e0 e1 e2 MK
        generalize x.id = x0 at *
        generalize x.n = x1 at *
        generalize x.d = x2 at *
        obtain ⟨s0, hs0⟩ : ∃ s0, s0 = x0 := ⟨_, rfl⟩
        obtain ⟨s1, hs1⟩ : ∃ s1, s1 = x1 := ⟨_, rfl⟩
        obtain ⟨s2, hs2⟩ : ∃ s2, s2 = x2 := ⟨_, rfl⟩
        rw [← hs0] at j0
        rw [← hs1] at j1
        rw [← hs2] at j2
        have MK4 := Lib.hid (fun V (e : Ext wr V) => (⟨⟨e.cell j0, e.cell j1, e.cell j2⟩, e.cell h0, e.cell h1, e.cell h2⟩ : ((V.cell? ⟨q, 0, none⟩ = some (.int .i64 s0) ∧ V.cell? ⟨q, 1, none⟩ = some (.int .i64 s1) ∧ V.cell? ⟨q, 2, none⟩ = some (.int .i64 s2)) ∧ V.cell? ⟨b, o + k * 3, none⟩ = some (.int .i64 x0) ∧ V.cell? ⟨b, o + k * 3 + 1, none⟩ = some (.int .i64 x1) ∧ V.cell? ⟨b, o + k * 3 + 2, none⟩ = some (.int .i64 x2))))
        subst hs0 hs1 hs2
        go_upto_region 4 with (fail)
        refine wp_region_held_drew (S := (fun V => (V.cell? ⟨q, 0, none⟩ = some (.int .i64 s0) ∧ V.cell? ⟨q, 1, none⟩ = some (.int .i64 s1) ∧ V.cell? ⟨q, 2, none⟩ = some (.int .i64 s2)) ∧ V.cell? ⟨b, o + k * 3, none⟩ = some (.int .i64 s0) ∧ V.cell? ⟨b, o + k * 3 + 1, none⟩ = some (.int .i64 s1) ∧ V.cell? ⟨b, o + k * 3 + 2, none⟩ = some (.int .i64 s2))) (by kernel_rfl) ?hs9501 (fun hHeld => ?go9501)
        case hs9501 => (exact MK4.out _ (by solve_by_elim [X0, X1, X2, X3]))
        refine TK 0 (v := ?v9502) hHeld ?hy9502 ?_
        case hy9502 => (intro w hSw; (try dsimp only at hSw); go_simp <;> first | with_reducible rfl | rw [if_neg (by omega)] | rw [if_pos (by omega)])
        (try simp only [PU])
        refine TK 1 (v := ?v9503) hHeld ?hy9503 ?_
        case hy9503 => (intro w _; go_simp <;> rfl)
        (try simp only [PU])
        refine TK 2 (v := ?v9504) hHeld ?hy9504 ?_
        case hy9504 => (intro w _; go_simp <;> rfl)
        (try simp only [PU])
        refine TK 3 (v := ?v9505) hHeld ?hy9505 ?_
        case hy9505 => (intro w _; go_simp <;> first | with_reducible rfl | rw [if_neg (by omega)] | rw [if_pos (by omega)])
        (try simp only [PU])
        refine TK 4 (v := ?v9506) hHeld ?hy9506 ?_
        case hy9506 => (intro w hSw; (try dsimp only at hSw); go_simp <;> first | with_reducible rfl | rw [if_neg (by omega)] | rw [if_pos (by omega)])
        (try simp only [PU])
        refine TK 5 (v := ?v9507) hHeld ?hy9507 ?_
        case hy9507 => (intro w _; go_simp <;> first | with_reducible rfl | rw [if_neg (by omega)] | rw [if_pos (by omega)])
        (try simp only [PU])
        refine wpAnyH_done (by kernel_rfl) ?_ _
        clear hHeld
        go_wp2_with fail
        go_ret
        exact ⟨ret_int HT.out.symm, HX1.out.trans (hE.out.trans (by solve_by_elim [X0, X1, X2, X3]))⟩

      · have HT := Lib.hid (HS.out (decide_eq_false hq))
        have HQ3 := Lib.hid (HN3.out hq)
        clear hq HB' HS HN3 HXX HNE MK
        generalize x.id = x0 at *
        generalize x.n = x1 at *
        generalize x.d = x2 at *
        generalize s.id = s0 at *
        generalize s.n = s1 at *
        generalize s.d = s2 at *
        have MK4 := Lib.hid (fun V (e : Ext wr V) => (⟨⟨e.cell j0, e.cell j1, e.cell j2⟩, e.cell h0, e.cell h1, e.cell h2⟩ : ((V.cell? ⟨q, 0, none⟩ = some (.int .i64 s0) ∧ V.cell? ⟨q, 1, none⟩ = some (.int .i64 s1) ∧ V.cell? ⟨q, 2, none⟩ = some (.int .i64 s2)) ∧ V.cell? ⟨b, o + k * 3, none⟩ = some (.int .i64 x0) ∧ V.cell? ⟨b, o + k * 3 + 1, none⟩ = some (.int .i64 x1) ∧ V.cell? ⟨b, o + k * 3 + 2, none⟩ = some (.int .i64 x2))))
        go_upto_region 4 with (fail)
        refine wp_region_held_drew (S := (fun V => (V.cell? ⟨q, 0, none⟩ = some (.int .i64 s0) ∧ V.cell? ⟨q, 1, none⟩ = some (.int .i64 s1) ∧ V.cell? ⟨q, 2, none⟩ = some (.int .i64 s2)) ∧ V.cell? ⟨b, o + k * 3, none⟩ = some (.int .i64 x0) ∧ V.cell? ⟨b, o + k * 3 + 1, none⟩ = some (.int .i64 x1) ∧ V.cell? ⟨b, o + k * 3 + 2, none⟩ = some (.int .i64 x2))) (by kernel_rfl) ?hs9508 (fun hHeld => ?go9508)
        case hs9508 => (exact MK4.out _ (by solve_by_elim [X0, X1, X2, X3]))
        refine TK 0 (v := ?v9509) hHeld ?hy9509 ?_
        case hy9509 => (intro w hSw; (try dsimp only at hSw); go_simp <;> first | with_reducible rfl | rw [if_neg (by omega)] | rw [if_pos (by omega)])
        (try simp only [PU])
        refine TK 1 (v := ?v9510) hHeld ?hy9510 ?_
        case hy9510 => (intro w _; go_simp <;> rfl)
        (try simp only [PU])
        refine TK 2 (v := ?v9511) hHeld ?hy9511 ?_
        case hy9511 => (intro w _; go_simp <;> rfl)
        (try simp only [PU])
        refine TK 3 (v := ?v9512) hHeld ?hy9512 ?_
        case hy9512 => (intro w _; go_simp <;> first | with_reducible rfl | rw [if_neg (by omega)] | rw [if_pos (by omega)])
        (try simp only [PU])
        refine TK 4 (v := ?v9513) hHeld ?hy9513 ?_
        case hy9513 => (intro w hSw; (try dsimp only at hSw); go_simp <;> first | with_reducible rfl | rw [if_neg (by omega)] | rw [if_pos (by omega)])
        (try simp only [PU])
        refine TK 5 (v := ?v9514) hHeld ?hy9514 ?_
        case hy9514 => (intro w hSw; (try dsimp only at hSw); go_simp; exact if3_no HQ3.out)
        (try simp only [PU])
        refine wpAnyH_done (by kernel_rfl) ?_ _
        clear hHeld
        go_wp2_with fail
        go_roundw
        case rel => exact ⟨k + 1, by go_num, by omega, HT, Lib.hid (hE.out.trans (by solve_by_elim [X0, X1, X2, X3]))⟩
        case measure => simp [intOf]; omega

    · have HT := Lib.hid (HY.out (fun i hi => hgd.out i hi (by omega)))
      go_wp2_with fail
      go_ret
      exact ⟨ret_int HT.out.symm, HX1.out.trans hE.out⟩
set_option maxRecDepth 100000 in
theorem s_ContainsAdj (l : List Sh) (s : Sh) (ok : Nat → Prop) (A : Option Addr) (c : Nat) (w : World) (hv : Shares w ok A l) :
    Calls Tryz.prog 37 #[.slice A l.length c, agS s] w fun e w' => e = .returned (.bool (l.any (fun t => decide (s = t)))) ∧ Ext w w' := by
  obtain ⟨q, w1, hq, hw1, ⟨c0, c1, c2⟩, hx1⟩ := box_adj w s 65
  have HW1 := Lib.hid hw1
  have HG := Lib.hid hq
  have HX1 := Lib.hid hx1
  have HC := Lib.hid (s_IndexAdj l s ok A c w1 (hv.ext hx1))
  have HQ := Lib.hid (show decide (idxF (fun t => decide (s = t)) l ≥ 0) = l.any (fun t => decide (s = t)) from idxF_any (fun t => decide (s = t)) l)
  generalize l.any (fun t => decide (s = t)) = r at *
  generalize idxF (fun t => decide (s = t)) l = z at *
  clear hv hq hw1 hx1
  unfold agS at HC ⊢
  go_enter Tryz.func37, Tryz.ntmps37
  go_upto_region 1 with (fail)
  rw [← HW1.out, ← HG.out]
  clear HW1 HG
  go_wp2_with (go_at_call 69; ((with_reducible refine (HC.out).mono ?_); rintro e w' ⟨rfl, hx2⟩))
  go_ret
  exact ⟨ret_bool HQ.out, HX1.out.trans hx2⟩
/-- what is known of a path -/
theorem path_of {v : Val} (h : ¬ hopsV v < 0) : v.l.length % 2 = 1 ∧ v.l.length ≤ 25 ∧ ∀ i, i < v.l.length → idOk v.l[i]!.n := by
  unfold hopsV at h
  split at h
  · rename_i hk
    have h1 := hk.2
    unfold validV at h1
    rw [validN_path hk.1, Bool.and_eq_true] at h1
    have h2 := h1.2
    unfold pathB at h2
    rw [Bool.and_eq_true, Bool.and_eq_true, decide_eq_true_iff, decide_eq_true_iff, List.all_eq_true] at h2
    refine ⟨h2.1.1, h2.1.2, fun i hi => ?_⟩
    have h3 := h2.2 i (List.mem_range.2 hi)
    rw [Bool.and_eq_true, decide_eq_true_iff] at h3
    have h4 := h3.2
    have h5 : v.l[i]!.kind = 5 ∨ v.l[i]!.kind = 6 := by
      rw [h3.1]; unfold stepK; split <;> simp
    unfold leafB at h4
    rw [if_neg (by omega), if_neg (by omega), if_neg (by omega), if_neg (by omega), if_neg (by omega), if_pos h5] at h4
    simp only [Bool.and_eq_true, decide_eq_true_iff] at h4
    exact ⟨h4.1.1.1.1, h4.1.1.1.2⟩
  · exact absurd (by decide : (-1 : Int) < 0) h
/-- the step is one of those listed -/
theorem steps_any (g : GraphG) (types : List ByteArray) (dir a e b : Int) : ((stepsL g types dir a).map (adjOf a)).any (fun t => decide ((⟨a, b, e⟩ : Sh) = t)) = stepB g types dir a e b := by
  rw [Bool.eq_iff_iff, stepB_iff, List.any_eq_true]
  constructor
  · rintro ⟨t, ht, h⟩
    obtain ⟨x, hx, rfl⟩ := List.mem_map.1 ht
    have h2 := of_decide_eq_true h
    unfold adjOf at h2
    injection h2 with _ h3 h4
    have : x = (e, b) := Prod.ext h4.symm h3.symm
    rw [← this]
    exact (stepsL_perm g types dir a).mem_iff.1 hx
  · intro h
    exact ⟨adjOf a (e, b), List.mem_map.2 ⟨_, (stepsL_perm g types dir a).mem_iff.2 h, rfl⟩, decide_eq_true rfl⟩
theorem p_contains (g : GraphG) (types : List ByteArray) (dir a e b : Int) (ok : Nat → Prop) (A : Option Addr) (c : Nat) (w : World) (hv : Shares w ok A ((stepsL g types dir a).map (adjOf a))) :
    Calls Tryz.prog 37 #[.slice A (stepsL g types dir a).length c, .agg #[.int .i64 a, .int .i64 b, .int .i64 e]] w fun r w' => r = .returned (.bool (stepB g types dir a e b)) ∧ Ext w w' := by
  have h := s_ContainsAdj ((stepsL g types dir a).map (adjOf a)) ⟨a, b, e⟩ ok A c w hv
  rw [steps_any, List.length_map] at h
  exact h
set_option maxRecDepth 100000 in
set_option maxHeartbeats 3200000 in
theorem p_Is (g : GraphG) (p : Val) (types : List ByteArray) (dir mode : Int) (ok ok' ok2 : Nat → Prop) (A B T Q : Option Addr) (c d e qc : Nat) (w : World) (hg : GraphAt w ok A B g) (hcap : ∀ x ∈ g.nodes, capN x) (ht : Strs w ok' T types) (hv : Vals w ok2 Q p.l) :
    Calls Tryz.prog 15 #[.agg #[.slice A g.nodes.length c, .slice B g.edges.length d, .int .i64 g.nn, .int .i64 g.ne], agV p Q qc, .slice T types.length e, .int .i64 dir, .int .i64 mode] w fun e w' => e = .returned (.bool (isP g types dir mode p)) ∧ Ext w w' := by
  obtain ⟨q, w2, hq, hw2, ⟨g0, g1, g2, g3⟩, ⟨c0, c1, c2, c3, c4⟩, hx⟩ : ∃ (q : Nat) (w2 : World), q = w.heap.size ∧ w2 = (w.alloc (.cells #[.slice A g.nodes.length c, .slice B g.edges.length d, .int .i64 g.nn, .int .i64 g.ne] 25)).alloc (.cells #[.int .i64 p.kind, .int .i64 p.n, .int .i64 p.d, .string p.s, .slice Q p.l.length qc] 37) ∧ (w2.cell? ⟨q, 0, none⟩ = some (.slice A g.nodes.length c) ∧ w2.cell? ⟨q, 1, none⟩ = some (.slice B g.edges.length d) ∧ w2.cell? ⟨q, 2, none⟩ = some (.int .i64 g.nn) ∧ w2.cell? ⟨q, 3, none⟩ = some (.int .i64 g.ne)) ∧ (w2.cell? ⟨q + 1, 0, none⟩ = some (.int .i64 p.kind) ∧ w2.cell? ⟨q + 1, 1, none⟩ = some (.int .i64 p.n) ∧ w2.cell? ⟨q + 1, 2, none⟩ = some (.int .i64 p.d) ∧ w2.cell? ⟨q + 1, 3, none⟩ = some (.string p.s) ∧ w2.cell? ⟨q + 1, 4, none⟩ = some (.slice Q p.l.length qc)) ∧ Ext w w2 :=
    ⟨_, _, rfl, rfl, ⟨by go_simp, by go_simp, by go_simp, by go_simp⟩, ⟨by go_simp, by go_simp, by go_simp, by go_simp, by go_simp⟩, (by solve_by_elim [X0, X1, X2, X3])⟩
  have HW2 := Lib.hid hw2
  have HQ := Lib.hid hq
  have HX := Lib.hid hx
  have HHP := Lib.hid (fun W (e' : Ext w2 W) => p_Hops p ok2 Q qc W (hv.ext (hx.trans e')))
  have HCH := Lib.hid (fun W (e' : Ext w2 W) => gr_Check g ok A B c d W (hg.ext (hx.trans e')))
  have HAL := Lib.hid (fun (h : ¬ hopsV p < 0) W (e' : Ext w2 W) => p_allowed p.l mode ok2 Q qc W (by have := (path_of h).2.1; omega) (by have := (path_of h).1; omega) (hv.ext (hx.trans e')) (path_of h).2.2)
  have HND := Lib.hid (fun s W (e' : Ext w2 W) => gr_Node g ok A B c d s W (hg.nodes.ext (hx.trans e')) hcap)
  have HST := Lib.hid (fun (h : chkG g = 0) n W (e' : Ext w2 W) => gr_Steps g types n dir ok ok' A B T c d e W (hg.edges.ext (hx.trans e')) (ht.ext (hx.trans e')) (by have := (good_of h).elen; omega))
  have HV := Lib.hid (hv.ext hx)
  have MKG := Lib.hid (fun V (e' : Ext w2 V) => (⟨⟨e'.cell g0, e'.cell g1, e'.cell g2, e'.cell g3⟩, e'.cell c4⟩ : (V.cell? ⟨q, 0, none⟩ = some (.slice A g.nodes.length c) ∧ V.cell? ⟨q, 1, none⟩ = some (.slice B g.edges.length d) ∧ V.cell? ⟨q, 2, none⟩ = some (.int .i64 g.nn) ∧ V.cell? ⟨q, 3, none⟩ = some (.int .i64 g.ne)) ∧ V.cell? ⟨q + 1, 4, none⟩ = some (.slice Q p.l.length qc)))
  obtain ⟨R, hR⟩ : ∃ R, R = isP g types dir mode p := ⟨_, rfl⟩
  rw [← hR]
  unfold isP at hR
  have HR := Lib.hid hR
  clear hw2 hq hg hcap ht hv hR hx
  unfold agV at HHP ⊢
  go_enter Tryz.func15, Tryz.ntmps15
  go_upto_region 1 with (fail)
  rw [← HW2.out, ← HQ.out]
  clear HW2 HQ
  by_cases h0 : hopsV p < 0
  · have HRF := Lib.hid (show R = false by rw [HR.out, if_neg (by omega)])
    generalize hopsV p = hp at *
    clear HR HAL
    go_wp2_with (go_at_call 17; ((with_reducible refine (HHP.out _ (Ext.refl _)).mono ?_); rintro r w3 ⟨rfl, hx3⟩))
    go_ret
    exact ⟨ret_bool HRF.out.symm, HX.out.trans hx3⟩
  · have HPO := Lib.hid (path_of h0)
    have HALL := Lib.hid (HAL.out h0)
    have hnn : 0 ≤ hopsV p := by omega
    have HR1 := Lib.hid (by have := HR.out; rwa [if_pos hnn] at this)
    clear HR HAL hnn
    have HHP' := Lib.hid (fun W (e' : Ext w2 W) => HHP.out W e')
    clear HHP
    generalize hopsV p = hp at *
    by_cases hc : chkG g = 0
    · rw [hc] at HCH
      have HST' := Lib.hid (HST.out hc)
      have HR2 := Lib.hid (by have := HR1.out; rwa [if_pos hc] at this)
      clear HR1 HST
      cases ha : allowL p.l mode
      · rw [ha] at HALL
        have HRF := Lib.hid (show R = false by have := HR2.out; rw [ha] at this; exact this)
        clear HR2
        go_wp2_with (first | (go_at_call 17; ((with_reducible refine (HHP'.out _ (Ext.refl _)).mono ?_); rintro r w3 ⟨rfl, hx3⟩; replace g0 := hx3.cell g0; replace g1 := hx3.cell g1; replace g2 := hx3.cell g2; replace g3 := hx3.cell g3; replace c4 := hx3.cell c4)) | (go_at_call 24; ((with_reducible refine (HCH.out _ hx3).mono ?_); rintro r w4 ⟨rfl, hx4⟩; replace c4 := hx4.cell c4)) | (go_at_call 36; ((with_reducible refine (HALL.out _ (hx3.trans hx4)).mono ?_); rintro r w5 ⟨rfl, hx5⟩)))
        go_ret
        exact ⟨ret_bool HRF.out.symm, (HX.out.trans (hx3.trans hx4)).trans hx5⟩
      · rw [ha] at HALL
        have HR3 := Lib.hid (by have := HR2.out; rwa [if_pos ha] at this)
        clear HR2 ha
        go_upto_region 3 with (first | (go_at_call 17; ((with_reducible refine (HHP'.out _ (Ext.refl _)).mono ?_); rintro r w3 ⟨rfl, hx3⟩; replace g0 := hx3.cell g0; replace g1 := hx3.cell g1; replace g2 := hx3.cell g2; replace g3 := hx3.cell g3; replace c4 := hx3.cell c4)) | (go_at_call 24; ((with_reducible refine (HCH.out _ hx3).mono ?_); rintro r w4 ⟨rfl, hx4⟩; replace c4 := hx4.cell c4; replace g0 := hx4.cell g0; replace g1 := hx4.cell g1; replace g2 := hx4.cell g2; replace g3 := hx4.cell g3)) | (go_at_call 36; ((with_reducible refine (HALL.out _ (hx3.trans hx4)).mono ?_); rintro r w5 ⟨rfl, hx5⟩; replace c4 := hx5.cell c4; replace g0 := hx5.cell g0; replace g1 := hx5.cell g1; replace g2 := hx5.cell g2; replace g3 := hx5.cell g3)))
        have HX5 := Lib.hid ((hx3.trans hx4).trans hx5)
        obtain ⟨b, o, rfl, hcl⟩ := HV.out.atB (i := 0) (by have := HPO.out.1; omega)
        have HNS := Lib.hid (fun k (hk : k < p.l.length) => (by obtain ⟨-, A', c', ⟨-, h5, -⟩, -⟩ := hcl k hk; exact h5 : w2.cell? ⟨b, o + k * 5 + 1, none⟩ = some (.int .i64 p.l[k]!.n)))
        have n0 := HX5.out.cell (HNS.out 0 (by have := HPO.out.1; omega))
        rw [Nat.zero_mul, Nat.add_zero] at n0
        obtain ⟨HN, hHN⟩ : ∃ HN, HN = hasN g.nodes p.l[0]!.n := ⟨_, rfl⟩
        have HND' := Lib.hid (fun W (e' : Ext w5 W) => (by have := HND.out p.l[0]!.n W (HX5.out.trans e'); rwa [← hHN] at this))
        rw [← hHN] at HR3
        have hl0 : 0 < p.l.length := by have := HPO.out.1; omega
        generalize p.l[0]!.n = s0 at *
        clear hcl hHN HND HHP' HCH HALL hx3 hx4 hx5 c0 c1 c2 c3
        have MKA := Lib.hid (fun V (e : Ext w5 V) => (⟨e.cell g0, e.cell g1, e.cell g2, e.cell g3, e.cell c4, e.cell n0, e⟩ : V.cell? ⟨q, 0, none⟩ = some (.slice A g.nodes.length c) ∧ V.cell? ⟨q, 1, none⟩ = some (.slice B g.edges.length d) ∧ V.cell? ⟨q, 2, none⟩ = some (.int .i64 g.nn) ∧ V.cell? ⟨q, 3, none⟩ = some (.int .i64 g.ne) ∧ V.cell? ⟨q + 1, 4, none⟩ = some (.slice (some ⟨b, o, none⟩) p.l.length qc) ∧ V.cell? ⟨b, o + 1, none⟩ = some (.int .i64 s0) ∧ Ext w5 V))
        have MKB := Lib.hid (fun V gg u0 u1 u2 (hgg : w5.heap.size ≤ gg) (e : Ext w5 V) => (⟨((cell_other (by have := block_lt_of_cell g0; simp at this; omega)).trans ((cell_other (by have := block_lt_of_cell g0; simp at this; omega)).trans ((cell_other (by have := block_lt_of_cell g0; simp at this; omega)).trans (e.cell g0)))), ((cell_other (by have := block_lt_of_cell g1; simp at this; omega)).trans ((cell_other (by have := block_lt_of_cell g1; simp at this; omega)).trans ((cell_other (by have := block_lt_of_cell g1; simp at this; omega)).trans (e.cell g1)))), ((cell_other (by have := block_lt_of_cell g2; simp at this; omega)).trans ((cell_other (by have := block_lt_of_cell g2; simp at this; omega)).trans ((cell_other (by have := block_lt_of_cell g2; simp at this; omega)).trans (e.cell g2)))), ((cell_other (by have := block_lt_of_cell g3; simp at this; omega)).trans ((cell_other (by have := block_lt_of_cell g3; simp at this; omega)).trans ((cell_other (by have := block_lt_of_cell g3; simp at this; omega)).trans (e.cell g3)))), ((cell_other (by have := block_lt_of_cell c4; simp at this; omega)).trans ((cell_other (by have := block_lt_of_cell c4; simp at this; omega)).trans ((cell_other (by have := block_lt_of_cell c4; simp at this; omega)).trans (e.cell c4)))), ((cell_other (by have := block_lt_of_cell n0; simp at this; omega)).trans ((cell_other (by have := block_lt_of_cell n0; simp at this; omega)).trans ((cell_other (by have := block_lt_of_cell n0; simp at this; omega)).trans (e.cell n0)))), (Ext.setCell (Ext.setCell (Ext.setCell e hgg _) hgg _) hgg _)⟩ : (((V.setCell ⟨gg, 0, none⟩ u0).setCell ⟨gg, 1, none⟩ u1).setCell ⟨gg, 2, none⟩ u2).cell? ⟨q, 0, none⟩ = some (.slice A g.nodes.length c) ∧ (((V.setCell ⟨gg, 0, none⟩ u0).setCell ⟨gg, 1, none⟩ u1).setCell ⟨gg, 2, none⟩ u2).cell? ⟨q, 1, none⟩ = some (.slice B g.edges.length d) ∧ (((V.setCell ⟨gg, 0, none⟩ u0).setCell ⟨gg, 1, none⟩ u1).setCell ⟨gg, 2, none⟩ u2).cell? ⟨q, 2, none⟩ = some (.int .i64 g.nn) ∧ (((V.setCell ⟨gg, 0, none⟩ u0).setCell ⟨gg, 1, none⟩ u1).setCell ⟨gg, 2, none⟩ u2).cell? ⟨q, 3, none⟩ = some (.int .i64 g.ne) ∧ (((V.setCell ⟨gg, 0, none⟩ u0).setCell ⟨gg, 1, none⟩ u1).setCell ⟨gg, 2, none⟩ u2).cell? ⟨q + 1, 4, none⟩ = some (.slice (some ⟨b, o, none⟩) p.l.length qc) ∧ (((V.setCell ⟨gg, 0, none⟩ u0).setCell ⟨gg, 1, none⟩ u1).setCell ⟨gg, 2, none⟩ u2).cell? ⟨b, o + 1, none⟩ = some (.int .i64 s0) ∧ Ext w5 (((V.setCell ⟨gg, 0, none⟩ u0).setCell ⟨gg, 1, none⟩ u1).setCell ⟨gg, 2, none⟩ u2)))
        go_upto_region 3 with (fail)
        go_cut [11, 12] (fun y r wx => ∃ (gx : Nat) (id' : Int) (L' : Option Addr) (nl cl : Nat) (P' : Option Addr) (np cp : Nat), y = .pointer (some ⟨gx, 0, none⟩) ∧ r = .bool HN ∧ wx.cell? ⟨gx, 0, none⟩ = some (.int .i64 id') ∧ wx.cell? ⟨gx, 1, none⟩ = some (.slice L' nl cl) ∧ wx.cell? ⟨gx, 2, none⟩ = some (.slice P' np cp) ∧ Ext w5 wx)
        case first =>
          refine wp_region_held_drew (S := (fun V => V.cell? ⟨q, 0, none⟩ = some (.slice A g.nodes.length c) ∧ V.cell? ⟨q, 1, none⟩ = some (.slice B g.edges.length d) ∧ V.cell? ⟨q, 2, none⟩ = some (.int .i64 g.nn) ∧ V.cell? ⟨q, 3, none⟩ = some (.int .i64 g.ne) ∧ V.cell? ⟨q + 1, 4, none⟩ = some (.slice (some ⟨b, o, none⟩) p.l.length qc) ∧ V.cell? ⟨b, o + 1, none⟩ = some (.int .i64 s0) ∧ Ext w5 V)) (by kernel_rfl) ?hs5035 (fun hHeld => ?go5035)
          case hs5035 => (first | with_reducible exact MKB.out _ _ _ _ _ (by first | exact Nat.le_refl _ | exact Ext.le (by solve_by_elim [X0, X1, X2, X3])) (by solve_by_elim [X0, X1, X2, X3]) | exact MKA.out _ (by solve_by_elim [X0, X1, X2, X3]))
          refine TK 0 (v := ?v5036) hHeld ?hy5036 ?_
          case hy5036 => (intro w hSw; (try dsimp only at hSw); go_simp <;> first | with_reducible rfl | rw [if_neg (by omega)] | rw [if_pos (by omega)])
          (try simp only [PU])
          refine TK 1 (v := ?v5037) hHeld ?hy5037 ?_
          case hy5037 => (intro w _; go_simp <;> rfl)
          (try simp only [PU])
          refine TK 2 (v := ?v5038) hHeld ?hy5038 ?_
          case hy5038 => (intro w hSw; (try dsimp only at hSw); go_simp <;> first | with_reducible rfl | rw [if_neg (by omega)] | rw [if_pos (by omega)])
          (try simp only [PU])
          refine TK 3 (v := ?v5039) hHeld ?hy5039 ?_
          case hy5039 => (intro w _; go_simp <;> first | with_reducible rfl | rw [if_neg (by omega)] | rw [if_pos (by omega)])
          (try simp only [PU])
          refine TK 4 (v := ?v5040) hHeld ?hy5040 ?_
          case hy5040 => (intro w _; go_simp <;> rfl)
          (try simp only [PU])
          refine TK 5 (v := ?v5041) hHeld ?hy5041 ?_
          case hy5041 => (intro w hSw; (try dsimp only at hSw); go_simp <;> first | with_reducible rfl | rw [if_neg (by omega)] | rw [if_pos (by omega)])
          (try simp only [PU])
          refine wpAnyH_ready (rs := [6, 10]) (by kernel_rfl) (by simp) ?_
          refine AllReadyH.cons (o := ⟨_, _, _, _, _, _⟩) rfl (fun K hK => ?step5042x0) ?more5042x0
          case more5042x0 =>
            refine AllReadyH.cons (o := ⟨_, _, _, _, _, _⟩) rfl (fun K hK => ?step5042x1) ?more5042x1
            case more5042x1 => exact AllReadyH.nil
            go_simp
            refine hK.out _ _ ?hS5042x1 (fun H5042 => ?_)
            case hS5042x1 => first | (first | with_reducible exact MKB.out _ _ _ _ _ (by first | exact Nat.le_refl _ | exact Ext.le (by solve_by_elim [X0, X1, X2, X3])) (by solve_by_elim [X0, X1, X2, X3]) | exact MKA.out _ (by solve_by_elim [X0, X1, X2, X3])) | ((try dsimp only); (first | with_reducible exact MKB.out _ _ _ _ _ (by first | exact Nat.le_refl _ | exact Ext.le (by solve_by_elim [X0, X1, X2, X3])) (by solve_by_elim [X0, X1, X2, X3]) | exact MKA.out _ (by solve_by_elim [X0, X1, X2, X3])))
            clear hK K
            clear hHeld
            (try simp only [PU])
            refine wpAnyH_ready (rs := [6]) (by kernel_rfl) (by simp) ?_
            refine AllReadyH.cons (o := ⟨_, _, _, _, _, _⟩) rfl (fun K hK => ?step5043x0) ?more5043x0
            case more5043x0 => exact AllReadyH.nil
            go_simp
            (with_reducible refine (HND'.out _ (by solve_by_elim [X0, X1, X2, X3])).mono ?_; rintro r w6 ⟨⟨id', L', nl, cl, P', np, cp, rfl⟩, hx6⟩; have zz0 := hx6.cell (p := ⟨w5.heap.size, 0, none⟩) (v := (.int .i64 0)) (by go_simp); have zz1 := hx6.cell (p := ⟨w5.heap.size, 1, none⟩) (v := (.slice none 0 0)) (by go_simp); have zz2 := hx6.cell (p := ⟨w5.heap.size, 2, none⟩) (v := (.slice none 0 0)) (by go_simp); have yy0 := frozen_ext hx6 (p := ⟨w5.heap.size, 0, none⟩) (v := (.int .i64 0)) (by go_simp) (by go_simp); have yy1 := frozen_ext hx6 (p := ⟨w5.heap.size, 1, none⟩) (v := (.slice none 0 0)) (by go_simp) (by go_simp); have yy2 := frozen_ext hx6 (p := ⟨w5.heap.size, 2, none⟩) (v := (.slice none 0 0)) (by go_simp) (by go_simp); replace hx6 : Ext w5 w6 := Ext.trans (by solve_by_elim [X0, X1, X2, X3]) hx6)
            refine hK.out _ _ ?hS5043x0 (fun H5043 => ?_)
            case hS5043x0 => first | (first | with_reducible exact MKB.out _ _ _ _ _ (by first | exact Nat.le_refl _ | exact Ext.le (by solve_by_elim [X0, X1, X2, X3])) (by solve_by_elim [X0, X1, X2, X3]) | exact MKA.out _ (by solve_by_elim [X0, X1, X2, X3])) | ((try dsimp only); (first | with_reducible exact MKB.out _ _ _ _ _ (by first | exact Nat.le_refl _ | exact Ext.le (by solve_by_elim [X0, X1, X2, X3])) (by solve_by_elim [X0, X1, X2, X3]) | exact MKA.out _ (by solve_by_elim [X0, X1, X2, X3])))
            clear hK K
            clear H5042
            (try simp only [PU])
            refine TK 7 (v := ?v5044) H5043 ?hy5044 ?_
            case hy5044 => (intro w _; go_simp <;> rfl)
            (try simp only [PU])
            refine TK 8 (v := ?v5045) H5043 ?hy5045 ?_
            case hy5045 => (intro w _; go_simp <;> rfl)
            (try simp only [PU])
            refine TK 9 (v := ?v5046) H5043 ?hy5046 ?_
            case hy5046 => (intro w _; go_simp <;> rfl)
            (try simp only [PU])
            refine wpAnyH_ready (rs := [11]) (by kernel_rfl) (by simp) ?_
            refine AllReadyH.cons (o := ⟨_, _, _, _, _, _⟩) rfl (fun K hK => ?step5047x0) ?more5047x0
            case more5047x0 => exact AllReadyH.nil
            go_simp
            refine hK.out _ _ ?hS5047x0 (fun H5047 => ?_)
            case hS5047x0 => first | (first | with_reducible exact MKB.out _ _ _ _ _ (by first | exact Nat.le_refl _ | exact Ext.le (by solve_by_elim [X0, X1, X2, X3])) (by solve_by_elim [X0, X1, X2, X3]) | exact MKA.out _ (by solve_by_elim [X0, X1, X2, X3])) | ((try dsimp only); (first | with_reducible exact MKB.out _ _ _ _ _ (by first | exact Nat.le_refl _ | exact Ext.le (by solve_by_elim [X0, X1, X2, X3])) (by solve_by_elim [X0, X1, X2, X3]) | exact MKA.out _ (by solve_by_elim [X0, X1, X2, X3])))
            clear hK K
            clear H5043
            refine TK 12 (v := ?v5048) H5047 ?hy5048 ?_
            case hy5048 => (intro w _; go_simp <;> first | with_reducible rfl | rw [if_neg (by omega)] | rw [if_pos (by omega)])
            (try simp only [PU])
            refine wpAnyH_done (by kernel_rfl) ?_ _
            clear H5047
            go_wp2_with fail
            go_meet
            case rel => exact ⟨w5.heap.size, id', L', nl, cl, P', np, cp, rfl, rfl, by go_simp, by go_simp, by go_simp, (Ext.setCell (Ext.setCell (Ext.setCell (by solve_by_elim [X0, X1, X2, X3]) (by first | exact Nat.le_refl _ | exact Ext.le (by solve_by_elim [X0, X1, X2, X3])) _) (by first | exact Nat.le_refl _ | exact Ext.le (by solve_by_elim [X0, X1, X2, X3])) _) (by first | exact Nat.le_refl _ | exact Ext.le (by solve_by_elim [X0, X1, X2, X3])) _)⟩
          go_simp
          (with_reducible refine (HND'.out _ (by solve_by_elim [X0, X1, X2, X3])).mono ?_; rintro r w6 ⟨⟨id', L', nl, cl, P', np, cp, rfl⟩, hx6⟩; replace hx6 : Ext w5 w6 := Ext.trans (by solve_by_elim [X0, X1, X2, X3]) hx6)
          refine hK.out _ _ ?hS5042x0 (fun H5042 => ?_)
          case hS5042x0 => first | (first | with_reducible exact MKB.out _ _ _ _ _ (by first | exact Nat.le_refl _ | exact Ext.le (by solve_by_elim [X0, X1, X2, X3])) (by solve_by_elim [X0, X1, X2, X3]) | exact MKA.out _ (by solve_by_elim [X0, X1, X2, X3])) | ((try dsimp only); (first | with_reducible exact MKB.out _ _ _ _ _ (by first | exact Nat.le_refl _ | exact Ext.le (by solve_by_elim [X0, X1, X2, X3])) (by solve_by_elim [X0, X1, X2, X3]) | exact MKA.out _ (by solve_by_elim [X0, X1, X2, X3])))
          clear hK K
          clear hHeld
          (try simp only [PU])
          refine TK 7 (v := ?v5049) H5042 ?hy5049 ?_
          case hy5049 => (intro w _; go_simp <;> rfl)
          (try simp only [PU])
          refine TK 8 (v := ?v5050) H5042 ?hy5050 ?_
          case hy5050 => (intro w _; go_simp <;> rfl)
          (try simp only [PU])
          refine TK 9 (v := ?v5051) H5042 ?hy5051 ?_
          case hy5051 => (intro w _; go_simp <;> rfl)
          (try simp only [PU])
          refine wpAnyH_ready (rs := [10]) (by kernel_rfl) (by simp) ?_
          refine AllReadyH.cons (o := ⟨_, _, _, _, _, _⟩) rfl (fun K hK => ?step5052x0) ?more5052x0
          case more5052x0 => exact AllReadyH.nil
          go_simp
          refine hK.out _ _ ?hS5052x0 (fun H5052 => ?_)
          case hS5052x0 => first | (first | with_reducible exact MKB.out _ _ _ _ _ (by first | exact Nat.le_refl _ | exact Ext.le (by solve_by_elim [X0, X1, X2, X3])) (by solve_by_elim [X0, X1, X2, X3]) | exact MKA.out _ (by solve_by_elim [X0, X1, X2, X3])) | ((try dsimp only); (first | with_reducible exact MKB.out _ _ _ _ _ (by first | exact Nat.le_refl _ | exact Ext.le (by solve_by_elim [X0, X1, X2, X3])) (by solve_by_elim [X0, X1, X2, X3]) | exact MKA.out _ (by solve_by_elim [X0, X1, X2, X3])))
          clear hK K
          clear H5042
          (try simp only [PU])
          refine wpAnyH_ready (rs := [11]) (by kernel_rfl) (by simp) ?_
          refine AllReadyH.cons (o := ⟨_, _, _, _, _, _⟩) rfl (fun K hK => ?step5053x0) ?more5053x0
          case more5053x0 => exact AllReadyH.nil
          go_simp
          refine hK.out _ _ ?hS5053x0 (fun H5053 => ?_)
          case hS5053x0 => first | (first | with_reducible exact MKB.out _ _ _ _ _ (by first | exact Nat.le_refl _ | exact Ext.le (by solve_by_elim [X0, X1, X2, X3])) (by solve_by_elim [X0, X1, X2, X3]) | exact MKA.out _ (by solve_by_elim [X0, X1, X2, X3])) | ((try dsimp only); (first | with_reducible exact MKB.out _ _ _ _ _ (by first | exact Nat.le_refl _ | exact Ext.le (by solve_by_elim [X0, X1, X2, X3])) (by solve_by_elim [X0, X1, X2, X3]) | exact MKA.out _ (by solve_by_elim [X0, X1, X2, X3])))
          clear hK K
          clear H5052
          refine TK 12 (v := ?v5054) H5053 ?hy5054 ?_
          case hy5054 => (intro w _; go_simp <;> first | with_reducible rfl | rw [if_neg (by omega)] | rw [if_pos (by omega)])
          (try simp only [PU])
          refine wpAnyH_done (by kernel_rfl) ?_ _
          clear H5053
          go_wp2_with fail
          go_meet
          case rel => exact ⟨w6.heap.size, id', L', nl, cl, P', np, cp, rfl, rfl, by go_simp, by go_simp, by go_simp, (by solve_by_elim [X0, X1, X2, X3])⟩
        case rest =>
          clear MKA MKB
          obtain ⟨gx, id', L', nl, cl, P', np, cp, rfl, rfl, -, -, -, hx6⟩ := hcut
          have HX6 := Lib.hid (HX5.out.trans hx6)
          clear n0 c4 g0 g1 g2 g3
          cases HN
          · have HRF := Lib.hid (show R = false by simpa using HR3.out)
            go_wp2_with fail
            go_ret
            exact ⟨ret_bool HRF.out.symm, HX.out.trans HX6.out⟩
          · have HR4 := Lib.hid (show R = stepsB g types dir p.l (p.l.length / 2) by simpa using HR3.out)
            clear HR3 HND' HX5 hx6
            go_wp2_with fail
            go_loopw [13] (fun u W => ∃ m : Nat, u = .int .i64 ((m + 1 : Nat) : Int) ∧ Hid (∃ k, m = 2 * k ∧ k ≤ p.l.length / 2 ∧ ∀ j, j < k → stepB g types dir p.l[2 * j]!.n p.l[2 * j + 1]!.n p.l[2 * j + 2]!.n = true) ∧ Hid (Ext w2 W)) (fun u _ => p.l.length - (intOf u).toNat)
            case atStart => exact ⟨0, rfl, Lib.hid ⟨0, rfl, Nat.zero_le _, fun j hj => absurd hj (Nat.not_lt_zero _)⟩, HX6⟩
            case round =>
              obtain ⟨m, rfl, hin, hE⟩ := hrel
              obtain ⟨-, c4⟩ := MKG.out wr hE.out
              by_cases hlt : m + 1 < p.l.length
              · have h25 := HPO.out.2.1
                have hm2 : m + 2 < p.l.length := by
                  obtain ⟨k, h1, -, -⟩ := hin.out
                  have := HPO.out.1
                  omega
                have n0 := hE.out.cell (HNS.out m (by omega))
                have n1 := hE.out.cell (HNS.out (m + 1) (by omega))
                have n2 := hE.out.cell (HNS.out (m + 2) (by omega))
                obtain ⟨sb, hsb⟩ : ∃ sb, sb = stepB g types dir p.l[m]!.n p.l[m + 1]!.n p.l[m + 2]!.n := ⟨_, rfl⟩
                have HSB := Lib.hid hsb
                have HNO := Lib.hid (fun (h : sb = false) => (by
                  obtain ⟨k, h1, h2, h3⟩ := hin.out
                  rw [HR4.out]
                  refine stepsB_no (j := k) (by omega) ?_
                  rw [← h1, ← hsb]; exact h : R = false))
                have HYES := Lib.hid (fun (h : sb = true) => (by
                  obtain ⟨k, h1, h2, h3⟩ := hin.out
                  refine ⟨k + 1, by omega, by omega, fun j hj => ?_⟩
                  by_cases e1 : j = k
                  · subst e1
                    rw [← h1, ← hsb]; exact h
                  · exact h3 j (by omega) : ∃ k, m + 2 = 2 * k ∧ k ≤ p.l.length / 2 ∧ ∀ j, j < k → stepB g types dir p.l[2 * j]!.n p.l[2 * j + 1]!.n p.l[2 * j + 2]!.n = true))
                generalize p.l[m]!.n = a at *
                generalize p.l[m + 1]!.n = ee at *
                generalize p.l[m + 2]!.n = bb at *
                clear hsb hin
                have wm1 : IntKind.i64.wrap (m : Int) = (m : Int) := by rw [IntKind.wrap_i64]; omega
                have wm2 : IntKind.i64.wrap ((m : Int) + 1 + 1) = ((m : Int) + 2) := by rw [IntKind.wrap_i64]; omega
                have wm3 : ((m : Int) + 2).toNat = m + 2 := by omega
                have MKA := Lib.hid (fun V (e : Ext wr V) => (⟨e.cell c4, e.cell n0, e.cell n1, e.cell n2, e⟩ : V.cell? ⟨q + 1, 4, none⟩ = some (.slice (some ⟨b, o, none⟩) p.l.length qc) ∧ V.cell? ⟨b, o + m * 5 + 1, none⟩ = some (.int .i64 a) ∧ V.cell? ⟨b, o + (m + 1) * 5 + 1, none⟩ = some (.int .i64 ee) ∧ V.cell? ⟨b, o + (m + 2) * 5 + 1, none⟩ = some (.int .i64 bb) ∧ Ext wr V))
                have MKB := Lib.hid (fun V gg u0 u1 u2 (hgg : wr.heap.size ≤ gg) (e : Ext wr V) => (⟨((cell_other (by have := block_lt_of_cell c4; simp at this; omega)).trans ((cell_other (by have := block_lt_of_cell c4; simp at this; omega)).trans ((cell_other (by have := block_lt_of_cell c4; simp at this; omega)).trans (e.cell c4)))), ((cell_other (by have := block_lt_of_cell n0; simp at this; omega)).trans ((cell_other (by have := block_lt_of_cell n0; simp at this; omega)).trans ((cell_other (by have := block_lt_of_cell n0; simp at this; omega)).trans (e.cell n0)))), ((cell_other (by have := block_lt_of_cell n1; simp at this; omega)).trans ((cell_other (by have := block_lt_of_cell n1; simp at this; omega)).trans ((cell_other (by have := block_lt_of_cell n1; simp at this; omega)).trans (e.cell n1)))), ((cell_other (by have := block_lt_of_cell n2; simp at this; omega)).trans ((cell_other (by have := block_lt_of_cell n2; simp at this; omega)).trans ((cell_other (by have := block_lt_of_cell n2; simp at this; omega)).trans (e.cell n2)))), (Ext.setCell (Ext.setCell (Ext.setCell e hgg _) hgg _) hgg _)⟩ : (((V.setCell ⟨gg, 0, none⟩ u0).setCell ⟨gg, 1, none⟩ u1).setCell ⟨gg, 2, none⟩ u2).cell? ⟨q + 1, 4, none⟩ = some (.slice (some ⟨b, o, none⟩) p.l.length qc) ∧ (((V.setCell ⟨gg, 0, none⟩ u0).setCell ⟨gg, 1, none⟩ u1).setCell ⟨gg, 2, none⟩ u2).cell? ⟨b, o + m * 5 + 1, none⟩ = some (.int .i64 a) ∧ (((V.setCell ⟨gg, 0, none⟩ u0).setCell ⟨gg, 1, none⟩ u1).setCell ⟨gg, 2, none⟩ u2).cell? ⟨b, o + (m + 1) * 5 + 1, none⟩ = some (.int .i64 ee) ∧ (((V.setCell ⟨gg, 0, none⟩ u0).setCell ⟨gg, 1, none⟩ u1).setCell ⟨gg, 2, none⟩ u2).cell? ⟨b, o + (m + 2) * 5 + 1, none⟩ = some (.int .i64 bb) ∧ Ext wr (((V.setCell ⟨gg, 0, none⟩ u0).setCell ⟨gg, 1, none⟩ u1).setCell ⟨gg, 2, none⟩ u2)))
                go_upto_region 9 with (fail)
                go_cut [14] (fun y wx => ∃ (gy : Nat), y = .pointer (some ⟨gy, 0, none⟩) ∧ wx.cell? ⟨gy, 0, none⟩ = some (.int .i64 a) ∧ wx.cell? ⟨gy, 1, none⟩ = some (.int .i64 bb) ∧ wx.cell? ⟨gy, 2, none⟩ = some (.int .i64 ee) ∧ Ext wr wx)
                case first =>
                  refine wp_region_held_drew (S := (fun V => V.cell? ⟨q + 1, 4, none⟩ = some (.slice (some ⟨b, o, none⟩) p.l.length qc) ∧ V.cell? ⟨b, o + m * 5 + 1, none⟩ = some (.int .i64 a) ∧ V.cell? ⟨b, o + (m + 1) * 5 + 1, none⟩ = some (.int .i64 ee) ∧ V.cell? ⟨b, o + (m + 2) * 5 + 1, none⟩ = some (.int .i64 bb) ∧ Ext wr V)) (by kernel_rfl) ?hs5011 (fun hHeld => ?go5011)
                  case hs5011 => (first | with_reducible exact MKB.out _ _ _ _ _ (by first | exact Nat.le_refl _ | exact Ext.le (by solve_by_elim [X0, X1, X2, X3])) (by solve_by_elim [X0, X1, X2, X3]) | exact MKA.out _ (by solve_by_elim [X0, X1, X2, X3]))
                  refine TK 0 (v := ?v5012) hHeld ?hy5012 ?_
                  case hy5012 => (intro w _; go_simp <;> rfl)
                  (try simp only [PU])
                  refine TK 1 (v := ?v5013) hHeld ?hy5013 ?_
                  case hy5013 => (intro w hSw; (try dsimp only at hSw); go_simp <;> first | with_reducible rfl | rw [if_neg (by omega)] | rw [if_pos (by omega)])
                  (try simp only [PU])
                  refine TK 2 (v := ?v5014) hHeld ?hy5014 ?_
                  case hy5014 => (intro w _; go_simp <;> rfl)
                  (try simp only [PU])
                  refine TK 3 (v := ?v5015) hHeld ?hy5015 ?_
                  case hy5015 => (intro w _; go_simp <;> first | with_reducible rfl | rw [if_neg (by omega)] | rw [if_pos (by omega)])
                  (try simp only [PU])
                  refine TK 4 (v := ?v5016) hHeld ?hy5016 ?_
                  case hy5016 => (intro w _; go_simp <;> first | with_reducible rfl | rw [if_neg (by omega)] | rw [if_pos (by omega)])
                  (try simp only [PU])
                  refine TK 5 (v := ?v5017) hHeld ?hy5017 ?_
                  case hy5017 => (intro w _; go_simp <;> rfl)
                  (try simp only [PU])
                  refine TK 6 (v := ?v5018) hHeld ?hy5018 ?_
                  case hy5018 => (intro w hSw; (try dsimp only at hSw); go_simp <;> first | with_reducible rfl | rw [if_neg (by omega)] | rw [if_pos (by omega)])
                  (try simp only [PU])
                  refine TK 7 (v := ?v5019) hHeld ?hy5019 ?_
                  case hy5019 => (intro w _; go_simp <;> rfl)
                  (try simp only [PU])
                  refine TK 8 (v := ?v5020) hHeld ?hy5020 ?_
                  case hy5020 => (intro w hSw; (try dsimp only at hSw); go_simp <;> first | with_reducible rfl | rw [if_neg (by omega)] | rw [if_pos (by omega)])
                  (try simp only [PU])
                  refine TK 9 (v := ?v5021) hHeld ?hy5021 ?_
                  case hy5021 => (intro w _; go_simp <;> rfl)
                  (try simp only [PU])
                  refine TK 10 (v := ?v5022) hHeld ?hy5022 ?_
                  case hy5022 => (intro w _; go_simp <;> first | with_reducible rfl | rw [if_neg (by omega)] | rw [if_pos (by omega)])
                  (try simp only [PU])
                  refine TK 11 (v := ?v5023) hHeld ?hy5023 ?_
                  case hy5023 => (intro w _; go_simp <;> first | with_reducible rfl | rw [if_neg (by omega)] | rw [if_pos (by omega)])
                  (try simp only [PU])
                  refine TK 12 (v := ?v5024) hHeld ?hy5024 ?_
                  case hy5024 => (intro w _; go_simp <;> rfl)
                  (try simp only [PU])
                  refine TK 13 (v := ?v5025) hHeld ?hy5025 ?_
                  case hy5025 => (intro w hSw; (try dsimp only at hSw); go_simp <;> first | with_reducible rfl | rw [if_neg (by omega)] | rw [if_pos (by omega)])
                  (try simp only [PU])
                  refine TK 14 (v := ?v5026) hHeld ?hy5026 ?_
                  case hy5026 => (intro w _; go_simp <;> rfl)
                  (try simp only [PU])
                  refine TK 15 (v := ?v5027) hHeld ?hy5027 ?_
                  case hy5027 => (intro w hSw; (try dsimp only at hSw); go_simp <;> first | with_reducible rfl | rw [if_neg (by omega)] | rw [if_pos (by omega)])
                  (try simp only [PU])
                  refine TK 16 (v := ?v5028) hHeld ?hy5028 ?_
                  case hy5028 => (intro w _; go_simp <;> rfl)
                  (try simp only [PU])
                  refine TK 17 (v := ?v5029) hHeld ?hy5029 ?_
                  case hy5029 => (intro w _; go_simp <;> first | with_reducible rfl | rw [if_neg (by omega)] | rw [if_pos (by omega)])
                  (try simp only [PU])
                  refine TK 18 (v := ?v5030) hHeld ?hy5030 ?_
                  case hy5030 => (intro w _; go_simp <;> rfl)
                  (try simp only [PU])
                  refine TK 19 (v := ?v5031) hHeld ?hy5031 ?_
                  case hy5031 => (intro w hSw; (try dsimp only at hSw); go_simp <;> first | with_reducible rfl | rw [if_neg (by omega)] | rw [if_pos (by omega)])
                  (try simp only [PU])
                  refine TK 20 (v := ?v5032) hHeld ?hy5032 ?_
                  case hy5032 => (intro w _; go_simp <;> rfl)
                  (try simp only [PU])
                  refine wpAnyH_ready (rs := [21]) (by kernel_rfl) (by simp) ?_
                  refine AllReadyH.cons (o := ⟨_, _, _, _, _, _⟩) rfl (fun K hK => ?step5033x0) ?more5033x0
                  case more5033x0 => exact AllReadyH.nil
                  go_simp
                  refine hK.out _ _ ?hS5033x0 (fun H5033 => ?_)
                  case hS5033x0 => first | (first | with_reducible exact MKB.out _ _ _ _ _ (by first | exact Nat.le_refl _ | exact Ext.le (by solve_by_elim [X0, X1, X2, X3])) (by solve_by_elim [X0, X1, X2, X3]) | exact MKA.out _ (by solve_by_elim [X0, X1, X2, X3])) | ((try dsimp only); (first | with_reducible exact MKB.out _ _ _ _ _ (by first | exact Nat.le_refl _ | exact Ext.le (by solve_by_elim [X0, X1, X2, X3])) (by solve_by_elim [X0, X1, X2, X3]) | exact MKA.out _ (by solve_by_elim [X0, X1, X2, X3])))
                  clear hK K
                  clear hHeld
                  (try simp only [PU])
                  refine wpAnyH_ready (rs := [22]) (by kernel_rfl) (by simp) ?_
                  refine AllReadyH.cons (o := ⟨_, _, _, _, _, _⟩) rfl (fun K hK => ?step5034x0) ?more5034x0
                  case more5034x0 => exact AllReadyH.nil
                  go_simp
                  refine hK.out _ _ ?hS5034x0 (fun H5034 => ?_)
                  case hS5034x0 => first | (first | with_reducible exact MKB.out _ _ _ _ _ (by first | exact Nat.le_refl _ | exact Ext.le (by solve_by_elim [X0, X1, X2, X3])) (by solve_by_elim [X0, X1, X2, X3]) | exact MKA.out _ (by solve_by_elim [X0, X1, X2, X3])) | ((try dsimp only); (first | with_reducible exact MKB.out _ _ _ _ _ (by first | exact Nat.le_refl _ | exact Ext.le (by solve_by_elim [X0, X1, X2, X3])) (by solve_by_elim [X0, X1, X2, X3]) | exact MKA.out _ (by solve_by_elim [X0, X1, X2, X3])))
                  clear hK K
                  clear H5033
                  refine wpAnyH_done (by kernel_rfl) ?_ _
                  clear H5034
                  go_wp2_with fail
                  go_meet
                  case rel => exact ⟨wr.heap.size, rfl, by go_simp, by go_simp, by go_simp, (by solve_by_elim [X0, X1, X2, X3])⟩
                case rest =>
                  clear MKA MKB
                  obtain ⟨gy, rfl, y0, y1, y2, hx7⟩ := hcut
                  have HE7 := Lib.hid (hE.out.trans hx7)
                  obtain ⟨⟨g0, g1, g2, g3⟩, -⟩ := MKG.out wc HE7.out
                  have MK10 := Lib.hid (fun V (e' : Ext wc V) => (⟨⟨e'.cell g0, e'.cell g1, e'.cell g2, e'.cell g3⟩, e'.cell y0, e'.cell y1, e'.cell y2⟩ : ((V.cell? ⟨q, 0, none⟩ = some (.slice A g.nodes.length c) ∧ V.cell? ⟨q, 1, none⟩ = some (.slice B g.edges.length d) ∧ V.cell? ⟨q, 2, none⟩ = some (.int .i64 g.nn) ∧ V.cell? ⟨q, 3, none⟩ = some (.int .i64 g.ne)) ∧ V.cell? ⟨gy, 0, none⟩ = some (.int .i64 a) ∧ V.cell? ⟨gy, 1, none⟩ = some (.int .i64 bb) ∧ V.cell? ⟨gy, 2, none⟩ = some (.int .i64 ee))))
                  go_upto_region 10 with (fail)
                  refine wp_region_held_drew (S := (fun V => (V.cell? ⟨q, 0, none⟩ = some (.slice A g.nodes.length c) ∧ V.cell? ⟨q, 1, none⟩ = some (.slice B g.edges.length d) ∧ V.cell? ⟨q, 2, none⟩ = some (.int .i64 g.nn) ∧ V.cell? ⟨q, 3, none⟩ = some (.int .i64 g.ne)) ∧ V.cell? ⟨gy, 0, none⟩ = some (.int .i64 a) ∧ V.cell? ⟨gy, 1, none⟩ = some (.int .i64 bb) ∧ V.cell? ⟨gy, 2, none⟩ = some (.int .i64 ee))) (by kernel_rfl) ?hs5001 (fun hHeld => ?go5001)
                  case hs5001 => (exact MK10.out _ (by solve_by_elim [X0, X1, X2, X3]))
                  refine TK 0 (v := ?v5002) hHeld ?hy5002 ?_
                  case hy5002 => (intro w hSw; (try dsimp only at hSw); go_simp <;> first | with_reducible rfl | rw [if_neg (by omega)] | rw [if_pos (by omega)])
                  (try simp only [PU])
                  refine TK 1 (v := ?v5003) hHeld ?hy5003 ?_
                  case hy5003 => (intro w _; go_simp <;> rfl)
                  (try simp only [PU])
                  refine TK 2 (v := ?v5004) hHeld ?hy5004 ?_
                  case hy5004 => (intro w hSw; (try dsimp only at hSw); go_simp <;> first | with_reducible rfl | rw [if_neg (by omega)] | rw [if_pos (by omega)])
                  (try simp only [PU])
                  refine TK 3 (v := ?v5005) hHeld ?hy5005 ?_
                  case hy5005 => (intro w _; go_simp <;> rfl)
                  (try simp only [PU])
                  refine TK 4 (v := ?v5006) hHeld ?hy5006 ?_
                  case hy5006 => (intro w _; go_simp <;> rfl)
                  (try simp only [PU])
                  refine TK 6 (v := ?v5007) hHeld ?hy5007 ?_
                  case hy5007 => (intro w hSw; (try dsimp only at hSw); go_simp <;> first | with_reducible rfl | rw [if_neg (by omega)] | rw [if_pos (by omega)])
                  (try simp only [PU])
                  refine wpAnyH_ready (rs := [5]) (by kernel_rfl) (by simp) ?_
                  refine AllReadyH.cons (o := ⟨_, _, _, _, _, _⟩) rfl (fun K hK => ?step5008x0) ?more5008x0
                  case more5008x0 => exact AllReadyH.nil
                  go_simp
                  (with_reducible refine (HST'.out a _ (Ext.trans HE7.out (by solve_by_elim [X0, X1, X2, X3]))).mono ?_; rintro r w8 ⟨A8, c8, rfl, hc8, hS8, hx8⟩; have HCC := Lib.hid (fun V (e' : Ext w8 V) => p_contains g types dir a ee bb _ A8 c8 V (hS8.ext e')); replace hx8 : Ext wc w8 := Ext.trans (by solve_by_elim [X0, X1, X2, X3]) hx8)
                  refine hK.out _ _ ?hS5008x0 (fun H5008 => ?_)
                  case hS5008x0 => first | (exact MK10.out _ (by solve_by_elim [X0, X1, X2, X3])) | ((try dsimp only); (exact MK10.out _ (by solve_by_elim [X0, X1, X2, X3])))
                  clear hK K
                  clear hHeld
                  (try simp only [PU])
                  refine wpAnyH_ready (rs := [7]) (by kernel_rfl) (by simp) ?_
                  refine AllReadyH.cons (o := ⟨_, _, _, _, _, _⟩) rfl (fun K hK => ?step5009x0) ?more5009x0
                  case more5009x0 => exact AllReadyH.nil
                  go_simp
                  (with_reducible refine (HCC.out _ (by solve_by_elim [X0, X1, X2, X3])).mono ?_; rintro r w9 ⟨rfl, hx9⟩; replace hx9 : Ext wc w9 := hx8.trans (Ext.trans (by solve_by_elim [X0, X1, X2, X3]) hx9); rw [← HSB.out])
                  refine hK.out _ _ ?hS5009x0 (fun H5009 => ?_)
                  case hS5009x0 => first | (exact MK10.out _ (by solve_by_elim [X0, X1, X2, X3])) | ((try dsimp only); (exact MK10.out _ (by solve_by_elim [X0, X1, X2, X3])))
                  clear hK K
                  clear H5008
                  (try simp only [PU])
                  refine TK 8 (v := ?v5010) H5009 ?hy5010 ?_
                  case hy5010 => (intro w _; go_simp <;> first | with_reducible rfl | rw [if_neg (by omega)] | rw [if_pos (by omega)])
                  (try simp only [PU])
                  refine wpAnyH_done (by kernel_rfl) ?_ _
                  clear H5009
                  clear HCC
                  cases sb
                  · have HRF := Lib.hid (HNO.out rfl)
                    clear HNO HYES HSB
                    go_wp2_with fail
                    go_ret
                    exact ⟨ret_bool HRF.out.symm, HX.out.trans (HE7.out.trans hx9)⟩
                  · have HIN := Lib.hid (HYES.out rfl)
                    clear HNO HYES HSB
                    go_wp2_with fail
                    go_roundw
                    case rel => exact ⟨m + 2, by go_num, HIN, Lib.hid (HE7.out.trans hx9)⟩
                    case measure => simp [intOf]; omega
              · have HRT := Lib.hid (show R = true by
                  obtain ⟨k, h1, h2, h3⟩ := hin.out
                  rw [HR4.out, stepsB_iff]
                  intro j hj
                  exact h3 j (by omega))
                clear hin
                go_wp2_with fail
                go_ret
                exact ⟨ret_bool HRT.out.symm, HX.out.trans hE.out⟩
    · have hcb : (chkG g != 0) = true := by simpa using hc
      have HRF := Lib.hid (show R = false by rw [HR1.out, if_neg hc])
      clear hc HR1 HST
      go_wp2_with (first | (go_at_call 17; ((with_reducible refine (HHP'.out _ (Ext.refl _)).mono ?_); rintro r w3 ⟨rfl, hx3⟩; replace g0 := hx3.cell g0; replace g1 := hx3.cell g1; replace g2 := hx3.cell g2; replace g3 := hx3.cell g3; replace c4 := hx3.cell c4)) | (go_at_call 24; ((with_reducible refine (HCH.out _ hx3).mono ?_); rintro r w4 ⟨rfl, hx4⟩; replace c4 := hx4.cell c4)))
      go_ret
      exact ⟨ret_bool HRF.out.symm, (HX.out.trans hx3).trans hx4⟩
end Go.Proofs.YtigmdddeplnciaaGreatDoor

/- THE WALKS over the reference's Few, has, typed, end. -/
namespace Go.Proofs.YtigmdddeplnciaaGreatDoor
open Go.RowKit
def fewB (g : GraphG) (mx : Int) : Bool := decide (g.nodes.length ≤ 40) && decide (g.edges.length ≤ 40) && decide ((g.edges.length + 1) ^ (min mx 6).toNat ≤ 4000)
theorem few_iff {g : GraphG} {mx : Int} : fewB g mx = true ↔ g.nodes.length ≤ 40 ∧ g.edges.length ≤ 40 ∧ (g.edges.length + 1) ^ (min mx 6).toNat ≤ 4000 := by
  unfold fewB; rw [Bool.and_eq_true, Bool.and_eq_true, decide_eq_true_iff, decide_eq_true_iff, decide_eq_true_iff, and_assoc]
theorem few_no {g : GraphG} {mx : Int} (h : ¬ (g.nodes.length ≤ 40 ∧ g.edges.length ≤ 40 ∧ (g.edges.length + 1) ^ (min mx 6).toNat ≤ 4000)) : fewB g mx = false := by
  cases hb : fewB g mx
  · rfl
  · exact absurd (few_iff.1 hb) h
set_option maxRecDepth 100000 in
set_option maxHeartbeats 1600000 in
theorem r24_Few (g : GraphG) (mx : Int) (A B : Option Addr) (c d : Nat) (w : World) (hn : g.nodes.length ≤ 140737488355328) (he : g.edges.length ≤ 140737488355328) :
    Calls Tryz.prog 8 #[.agg #[.slice A g.nodes.length c, .slice B g.edges.length d, .int .i64 g.nn, .int .i64 g.ne], .int .i64 mx] w fun e w' => e = .returned (.bool (fewB g mx)) ∧ Ext w w' := by
  obtain ⟨q, w1, hq, hw1, g0, g1, g2, g3, hx1⟩ := box_graph w A B c d g 25
  have HW1 := Lib.hid hw1
  have HG := Lib.hid hq
  have HX := Lib.hid hx1
  have HNO := Lib.hid (fun h => few_no (g := g) (mx := mx) h)
  have HYE := Lib.hid (fun h => (few_iff (g := g) (mx := mx)).2 h)
  have MKG := Lib.hid (fun V (e' : Ext w1 V) => (⟨e'.cell g0, e'.cell g1⟩ : V.cell? ⟨q, 0, none⟩ = some (.slice A g.nodes.length c) ∧ V.cell? ⟨q, 1, none⟩ = some (.slice B g.edges.length d)))
  generalize fewB g mx = R at *
  clear hw1 hq hx1
  go_enter Tryz.func8, Tryz.ntmps8
  go_upto_region 1 with (fail)
  rw [← HW1.out, ← HG.out]
  clear HW1 HG
  by_cases h1 : 40 < g.nodes.length
  · have HT := Lib.hid (HNO.out (fun h => by omega))
    go_wp2_with fail
    go_ret
    exact ⟨ret_bool HT.out.symm, HX.out⟩
  by_cases h2 : 40 < g.edges.length
  · have HT := Lib.hid (HNO.out (fun h => by omega))
    go_wp2_with fail
    go_ret
    exact ⟨ret_bool HT.out.symm, HX.out⟩
  go_wp2_with fail
  clear g0 g1 g2 g3
  go_loopw [5, 6] (fun v u W => ∃ k p : Nat, v = .int .i64 p ∧ u = .int .i64 k ∧ Hid (p = (g.edges.length + 1) ^ k) ∧ p ≤ 4000 ∧ k ≤ 6 ∧ Hid ((k : Int) ≤ mx ∨ k = 0) ∧ Hid (Ext w1 W)) (fun _ u _ => 7 - (intOf u).toNat)
  case atStart => exact ⟨0, 1, rfl, rfl, Lib.hid rfl, by decide, by decide, Lib.hid (Or.inr rfl), Lib.hid (Ext.refl _)⟩
  case round =>
    obtain ⟨k, p, rfl, rfl, hp, hp4, hk6, hkm, hE⟩ := hrel
    obtain ⟨g0, g1⟩ := MKG.out wr hE.out
    by_cases hlt : (k : Int) < mx
    · by_cases hl6 : k < 6
      · have wm1 : IntKind.i64.wrap ((g.edges.length : Int) + 1) = (g.edges.length : Int) + 1 := by rw [IntKind.wrap_i64]; omega
        have hb : p * (g.edges.length + 1) ≤ 4000 * 41 := Nat.mul_le_mul hp4 (by omega)
        obtain ⟨p2, hp2⟩ : ∃ p2, p2 = p * (g.edges.length + 1) := ⟨_, rfl⟩
        have hpi : (p : Int) * ((g.edges.length : Int) + 1) = (p2 : Int) := by rw [hp2]; simp
        have HP2 := Lib.hid (show p2 = (g.edges.length + 1) ^ (k + 1) by rw [hp2, hp.out]; rfl)
        rw [← hp2] at hb
        clear hp2
        have wm2 : IntKind.i64.wrap (p2 : Int) = (p2 : Int) := by rw [IntKind.wrap_i64]; omega
        by_cases h4 : 4000 < p2
        · have HT := Lib.hid (HNO.out (fun h => by
            have h3 : (g.edges.length + 1) ^ (k + 1) ≤ (g.edges.length + 1) ^ (min mx 6).toNat := Nat.pow_le_pow_right (by omega) (by omega)
            have := HP2.out
            omega))
          go_wp2_with fail
          go_ret
          exact ⟨ret_bool HT.out.symm, HX.out.trans hE.out⟩
        · go_wp2_with fail
          go_roundw
          case rel => exact ⟨k + 1, p2, rfl, by go_num, HP2, by omega, by omega, Lib.hid (Or.inl (by omega)), hE⟩
          case measure => simp [intOf]; omega
      · have HT := Lib.hid (HYE.out ⟨by omega, by omega, by
          have : (min mx 6).toNat = k := by omega
          rw [this, ← hp.out]; exact hp4⟩)
        go_wp2_with fail
        go_ret
        exact ⟨ret_bool HT.out.symm, HX.out.trans hE.out⟩
    · have HT := Lib.hid (HYE.out ⟨by omega, by omega, by
        have : (min mx 6).toNat = k := by have := hkm.out; omega
        rw [this, ← hp.out]; exact hp4⟩)
      go_wp2_with fail
      go_ret
      exact ⟨ret_bool HT.out.symm, HX.out.trans hE.out⟩
set_option maxRecDepth 100000 in
set_option maxHeartbeats 1600000 in
theorem r24_has (g : GraphG) (n : Int) (ok : Nat → Prop) (A B : Option Addr) (c d : Nat) (w : World) (hv : Nodes w ok A g.nodes) :
    Calls Tryz.prog 29 #[.agg #[.slice A g.nodes.length c, .slice B g.edges.length d, .int .i64 g.nn, .int .i64 g.ne], .int .i64 n] w fun e w' => e = .returned (.bool (hasN g.nodes n)) ∧ Ext w w' := by
  have hm := hv.len
  obtain ⟨q, w1, hq, hw1, g0, g1, g2, g3, hx1⟩ := box_graph w A B c d g 25
  have HW1 := Lib.hid hw1
  have HG := Lib.hid hq
  have HX := Lib.hid hx1
  have HV := Lib.hid (hv.ext hx1)
  have HY := Lib.hid (hasN_at (l := g.nodes) (n := n))
  have HN := Lib.hid (hasN_no (l := g.nodes) (n := n))
  generalize hasN g.nodes n = R at *
  generalize hl : g.nodes = l at *
  clear hv hl hw1 hq hx1 g1 g2 g3
  go_enter Tryz.func29, Tryz.ntmps29
  go_upto_region 1 with (fail)
  rw [← HW1.out, ← HG.out]
  clear HW1 HG
  go_wp2_with fail
  go_loopw [5] (fun u W => ∃ k : Nat, u = .int .i64 k ∧ k ≤ l.length ∧ Hid (∀ t, t < k → l[t]!.id ≠ n) ∧ Hid (Ext w1 W)) (fun u _ => l.length - (intOf u).toNat)
  case atStart => exact ⟨0, rfl, Nat.zero_le _, Lib.hid (fun t ht => absurd ht (by omega)), Lib.hid (Ext.refl _)⟩
  case round =>
    obtain ⟨k, rfl, hk, hgd, hE⟩ := hrel
    have j0 := hE.out.cell g0
    by_cases hlt : k < l.length
    · obtain ⟨b, off, rfl, hc⟩ := HV.out.2 (by omega)
      obtain ⟨-, d0, -⟩ := hc k hlt
      rw [← getElem!_pos l k hlt] at d0
      replace d0 := hE.out.cell d0
      have HS := Lib.hid (fun (h : l[k]!.id ≠ n) t (ht : t < k + 1) => (if e : t = k then (by rw [e]; exact h) else hgd.out t (by omega) : l[t]!.id ≠ n))
      have HXX := Lib.hid (HY.out k hlt)
      clear hc HY HN hgd
      generalize l[k]!.id = x at *
      by_cases he : x = n
      · have HT := Lib.hid (HXX.out he)
        have he2 : (x == n) = true := beq_iff_eq.2 he
        clear he HXX HS
        go_wp2_with fail
        go_ret
        exact ⟨ret_bool HT.out.symm, HX.out.trans hE.out⟩
      · have HT := Lib.hid (HS.out he)
        have he2 : (x == n) = false := beq_eq_false_iff_ne.2 he
        clear he HXX HS
        go_wp2_with fail
        go_roundw
        case rel => exact ⟨k + 1, by go_num, by omega, HT, hE⟩
        case measure => simp [intOf]; omega
    · have HT := Lib.hid (HN.out (fun t ht => hgd.out t (by omega)))
      go_wp2_with fail
      go_ret
      exact ⟨ret_bool HT.out.symm, HX.out.trans hE.out⟩
set_option maxRecDepth 100000 in
theorem r24_typed (l : List ByteArray) (s : ByteArray) (ok : Nat → Prop) (A : Option Addr) (c : Nat) (w : World) (hv : Strs w ok A l) :
    Calls Tryz.prog 40 #[.string s, .slice A l.length c] w fun e w' => e = .returned (.bool (typB l s)) ∧ w' = w := by
  have hm := hv.len
  have HV := Lib.hid hv
  have HQ := Lib.hid (show typB l s = (decide (l.length = 0) || memB s l) from rfl)
  have HY := Lib.hid (fun (h : ∀ i (hi : i < l.length), i < l.length → l[i] ≠ s) => (memB_no (fun hs => by obtain ⟨i, hi, e⟩ := List.getElem_of_mem hs; exact h i hi hi e) : memB s l = false))
  have HB := Lib.hid (fun i (hi : i < l.length) (h : l[i] = s) => (memB_iff.2 (by rw [← h]; exact List.getElem_mem hi) : memB s l = true))
  generalize typB l s = Q at *
  generalize memB s l = R at *
  clear hv
  by_cases h0 : l.length = 0
  · have hz : ((l.length : Int) == 0) = true := by rw [h0]; rfl
    go_enter Tryz.func40, Tryz.ntmps40
    go_wp2_with fail
    go_ret
    exact ⟨ret_bool (by rw [HQ.out, decide_eq_true h0]; rfl), rfl⟩
  have hz : ((l.length : Int) == 0) = false := beq_eq_false_iff_ne.2 (by omega)
  have HR := Lib.hid (show Q = R by rw [HQ.out, decide_eq_false h0]; rfl)
  clear h0 HQ
  go_enter Tryz.func40, Tryz.ntmps40
  go_wp2_with fail
  clear hz
  go_loop [5] (fun u => ∃ k : Nat, u = .int .i64 k ∧ k ≤ l.length ∧ Hid (∀ i (hi : i < l.length), i < k → l[i] ≠ s)) (fun u => l.length - (intOf u).toNat)
  case atStart => exact ⟨0, rfl, Nat.zero_le _, Lib.hid (fun i _ hi => absurd hi (Nat.not_lt_zero _))⟩
  case round =>
    obtain ⟨k, rfl, hk, hgd⟩ := hrel
    by_cases hlt : k < l.length
    · obtain ⟨b, o, rfl, hc⟩ := HV.out.2 (by omega)
      have h5 := (hc k hlt).2
      rw [Nat.mul_one] at h5
      have HS := Lib.hid (fun (h : l[k] ≠ s) i hi (hj : i < k + 1) => (if e : i = k then (by subst e; exact h) else hgd.out i hi (by omega) : l[i] ≠ s))
      have HB' := Lib.hid (HB.out k hlt)
      clear hc HB hgd
      generalize l[k] = x at *
      by_cases hq : x = s
      · have HT := Lib.hid (HB'.out hq)
        have hq2 := str_eq hq
        clear hq
        go_wp2_with fail
        go_ret
        exact ⟨ret_bool (by rw [HR.out, HT.out]), rfl⟩
      · have HT := Lib.hid (HS.out hq)
        have hq2 := str_ne hq
        clear hq
        go_wp2_with fail
        go_round
        case rel => exact ⟨k + 1, by go_num, by omega, HT⟩
        case measure => simp [intOf]; omega
    · have HT := Lib.hid (HY.out (fun i hi _ => hgd.out i hi (by omega)))
      go_wp2_with fail
      go_ret
      exact ⟨ret_bool (by rw [HR.out, HT.out]), rfl⟩
set_option maxRecDepth 100000 in
set_option maxHeartbeats 3200000 in
theorem r24_end (x : EdgeG) (types : List ByteArray) (n dir : Int) (ok' : Nat → Prop) (T E : Option Addr) (e m d : Nat) (w : World) (ht' : Strs w ok' T types) :
    Calls Tryz.prog 31 #[.agg #[.int .i64 x.id, .int .i64 x.frm, .int .i64 x.to_, .string x.typ, .slice E m d], .int .i64 n, .slice T types.length e, .int .i64 dir] w fun r w' => r = .returned (.int .i64 ((toE types dir n x).getD 0)) ∧ Ext w w' := by
  obtain ⟨q, w1, hq, hw1, g0, g1, g2, g3, g4, hx1⟩ : ∃ (q : Nat) (w1 : World), q = w.heap.size ∧ w1 = w.alloc (.cells #[.int .i64 x.id, .int .i64 x.frm, .int .i64 x.to_, .string x.typ, .slice E m d] 47) ∧ w1.cell? ⟨q, 0, none⟩ = some (.int .i64 x.id) ∧ w1.cell? ⟨q, 1, none⟩ = some (.int .i64 x.frm) ∧ w1.cell? ⟨q, 2, none⟩ = some (.int .i64 x.to_) ∧ w1.cell? ⟨q, 3, none⟩ = some (.string x.typ) ∧ w1.cell? ⟨q, 4, none⟩ = some (.slice E m d) ∧ Ext w w1 :=
    ⟨_, _, rfl, rfl, by go_simp, by go_simp, by go_simp, by go_simp, by go_simp, (Ext.refl _).alloc _⟩
  have HW1 := Lib.hid hw1
  have HG := Lib.hid hq
  have HX := Lib.hid hx1
  have HC := Lib.hid (r24_typed types x.typ ok' T e w1 (ht'.ext hx1))
  obtain ⟨R, hR⟩ : ∃ R, R = (toE types dir n x).getD 0 := ⟨_, rfl⟩
  have HR := Lib.hid hR
  rw [← hR]
  clear hw1 hq hx1 ht' hR
  go_enter Tryz.func31, Tryz.ntmps31
  go_upto_region 1 with (fail)
  rw [← HW1.out, ← HG.out]
  clear HW1 HG
  cases ht : typB types x.typ
  · have HT := Lib.hid (show R = 0 by rw [HR.out]; unfold toE; simp [ht])
    rw [ht] at HC
    clear ht HR
    generalize x.frm = xf at *
    generalize x.to_ = xt at *
    go_wp2_with (go_at_call 40; ((with_reducible refine (HC.out).mono ?_); rintro r w3 ⟨rfl, rfl⟩))
    go_ret
    exact ⟨ret_int HT.out.symm, HX.out⟩
  · by_cases hF : x.frm = n
    · by_cases hT : x.to_ = n
      · by_cases h1 : dir = 1
        · subst h1
          have HT := Lib.hid (show R = x.to_ by rw [HR.out]; unfold toE; simp [ht, hF, hT])
          have e1 : (x.frm == n) = true := beq_iff_eq.2 hF
          have e2 : (x.to_ == n) = true := beq_iff_eq.2 hT
          clear hF hT
          rw [ht] at HC
          clear ht HR
          generalize x.frm = xf at *
          generalize x.to_ = xt at *
          go_wp2_with (go_at_call 40; ((with_reducible refine (HC.out).mono ?_); rintro r w3 ⟨rfl, rfl⟩))
          go_ret
          exact ⟨ret_int HT.out.symm, HX.out⟩
        · by_cases h2 : dir = 2
          · subst h2
            clear h1
            have HT := Lib.hid (show R = x.frm by rw [HR.out]; unfold toE; simp [ht, hF, hT])
            have e1 : (x.frm == n) = true := beq_iff_eq.2 hF
            have e2 : (x.to_ == n) = true := beq_iff_eq.2 hT
            clear hF hT
            rw [ht] at HC
            clear ht HR
            generalize x.frm = xf at *
            generalize x.to_ = xt at *
            go_wp2_with (go_at_call 40; ((with_reducible refine (HC.out).mono ?_); rintro r w3 ⟨rfl, rfl⟩))
            go_ret
            exact ⟨ret_int HT.out.symm, HX.out⟩
          · by_cases h3 : dir = 3
            · subst h3
              clear h1 h2
              have HT := Lib.hid (show R = x.to_ by rw [HR.out]; unfold toE; simp [ht, hF, hT])
              have e1 : (x.frm == n) = true := beq_iff_eq.2 hF
              have e2 : (x.to_ == n) = true := beq_iff_eq.2 hT
              clear hF hT
              rw [ht] at HC
              clear ht HR
              generalize x.frm = xf at *
              generalize x.to_ = xt at *
              go_wp2_with (go_at_call 40; ((with_reducible refine (HC.out).mono ?_); rintro r w3 ⟨rfl, rfl⟩))
              go_ret
              exact ⟨ret_int HT.out.symm, HX.out⟩
            · skip
              have HT := Lib.hid (show R = 0 by rw [HR.out]; unfold toE; simp [ht, hF, hT, h1, h2, h3])
              have e1 : (x.frm == n) = true := beq_iff_eq.2 hF
              have e2 : (x.to_ == n) = true := beq_iff_eq.2 hT
              have e3 : (dir == 1) = false := beq_eq_false_iff_ne.2 h1
              have e4 : (dir == 2) = false := beq_eq_false_iff_ne.2 h2
              have e5 : (dir == 3) = false := beq_eq_false_iff_ne.2 h3
              clear hF hT h1 h2 h3
              rw [ht] at HC
              clear ht HR
              generalize x.frm = xf at *
              generalize x.to_ = xt at *
              go_wp2_with (go_at_call 40; ((with_reducible refine (HC.out).mono ?_); rintro r w3 ⟨rfl, rfl⟩))
              go_ret
              exact ⟨ret_int HT.out.symm, HX.out⟩
      · by_cases h1 : dir = 1
        · subst h1
          have HT := Lib.hid (show R = x.to_ by rw [HR.out]; unfold toE; simp [ht, hF])
          have e1 : (x.frm == n) = true := beq_iff_eq.2 hF
          have e2 : (x.to_ == n) = false := beq_eq_false_iff_ne.2 hT
          clear hF hT
          rw [ht] at HC
          clear ht HR
          generalize x.frm = xf at *
          generalize x.to_ = xt at *
          go_wp2_with (go_at_call 40; ((with_reducible refine (HC.out).mono ?_); rintro r w3 ⟨rfl, rfl⟩))
          go_ret
          exact ⟨ret_int HT.out.symm, HX.out⟩
        · by_cases h2 : dir = 2
          · subst h2
            clear h1
            have HT := Lib.hid (show R = 0 by rw [HR.out]; unfold toE; simp [ht, hF, hT])
            have e1 : (x.frm == n) = true := beq_iff_eq.2 hF
            have e2 : (x.to_ == n) = false := beq_eq_false_iff_ne.2 hT
            clear hF hT
            rw [ht] at HC
            clear ht HR
            generalize x.frm = xf at *
            generalize x.to_ = xt at *
            go_wp2_with (go_at_call 40; ((with_reducible refine (HC.out).mono ?_); rintro r w3 ⟨rfl, rfl⟩))
            go_ret
            exact ⟨ret_int HT.out.symm, HX.out⟩
          · by_cases h3 : dir = 3
            · subst h3
              clear h1 h2
              have HT := Lib.hid (show R = x.to_ by rw [HR.out]; unfold toE; simp [ht, hF])
              have e1 : (x.frm == n) = true := beq_iff_eq.2 hF
              have e2 : (x.to_ == n) = false := beq_eq_false_iff_ne.2 hT
              clear hF hT
              rw [ht] at HC
              clear ht HR
              generalize x.frm = xf at *
              generalize x.to_ = xt at *
              go_wp2_with (go_at_call 40; ((with_reducible refine (HC.out).mono ?_); rintro r w3 ⟨rfl, rfl⟩))
              go_ret
              exact ⟨ret_int HT.out.symm, HX.out⟩
            · skip
              have HT := Lib.hid (show R = 0 by rw [HR.out]; unfold toE; simp [ht, hF, hT, h1, h2, h3])
              have e1 : (x.frm == n) = true := beq_iff_eq.2 hF
              have e2 : (x.to_ == n) = false := beq_eq_false_iff_ne.2 hT
              have e3 : (dir == 1) = false := beq_eq_false_iff_ne.2 h1
              have e4 : (dir == 2) = false := beq_eq_false_iff_ne.2 h2
              have e5 : (dir == 3) = false := beq_eq_false_iff_ne.2 h3
              clear hF hT h1 h2 h3
              rw [ht] at HC
              clear ht HR
              generalize x.frm = xf at *
              generalize x.to_ = xt at *
              go_wp2_with (go_at_call 40; ((with_reducible refine (HC.out).mono ?_); rintro r w3 ⟨rfl, rfl⟩))
              go_ret
              exact ⟨ret_int HT.out.symm, HX.out⟩
    · by_cases hT : x.to_ = n
      · by_cases h1 : dir = 1
        · subst h1
          have HT := Lib.hid (show R = 0 by rw [HR.out]; unfold toE; simp [ht, hF, hT])
          have e1 : (x.frm == n) = false := beq_eq_false_iff_ne.2 hF
          have e2 : (x.to_ == n) = true := beq_iff_eq.2 hT
          clear hF hT
          rw [ht] at HC
          clear ht HR
          generalize x.frm = xf at *
          generalize x.to_ = xt at *
          go_wp2_with (go_at_call 40; ((with_reducible refine (HC.out).mono ?_); rintro r w3 ⟨rfl, rfl⟩))
          go_ret
          exact ⟨ret_int HT.out.symm, HX.out⟩
        · by_cases h2 : dir = 2
          · subst h2
            clear h1
            have HT := Lib.hid (show R = x.frm by rw [HR.out]; unfold toE; simp [ht, hF, hT])
            have e1 : (x.frm == n) = false := beq_eq_false_iff_ne.2 hF
            have e2 : (x.to_ == n) = true := beq_iff_eq.2 hT
            clear hF hT
            rw [ht] at HC
            clear ht HR
            generalize x.frm = xf at *
            generalize x.to_ = xt at *
            go_wp2_with (go_at_call 40; ((with_reducible refine (HC.out).mono ?_); rintro r w3 ⟨rfl, rfl⟩))
            go_ret
            exact ⟨ret_int HT.out.symm, HX.out⟩
          · by_cases h3 : dir = 3
            · subst h3
              clear h1 h2
              have HT := Lib.hid (show R = x.frm by rw [HR.out]; unfold toE; simp [ht, hF, hT])
              have e1 : (x.frm == n) = false := beq_eq_false_iff_ne.2 hF
              have e2 : (x.to_ == n) = true := beq_iff_eq.2 hT
              clear hF hT
              rw [ht] at HC
              clear ht HR
              generalize x.frm = xf at *
              generalize x.to_ = xt at *
              go_wp2_with (go_at_call 40; ((with_reducible refine (HC.out).mono ?_); rintro r w3 ⟨rfl, rfl⟩))
              go_ret
              exact ⟨ret_int HT.out.symm, HX.out⟩
            · skip
              have HT := Lib.hid (show R = 0 by rw [HR.out]; unfold toE; simp [ht, hF, hT, h1, h2, h3])
              have e1 : (x.frm == n) = false := beq_eq_false_iff_ne.2 hF
              have e2 : (x.to_ == n) = true := beq_iff_eq.2 hT
              have e3 : (dir == 1) = false := beq_eq_false_iff_ne.2 h1
              have e4 : (dir == 2) = false := beq_eq_false_iff_ne.2 h2
              have e5 : (dir == 3) = false := beq_eq_false_iff_ne.2 h3
              clear hF hT h1 h2 h3
              rw [ht] at HC
              clear ht HR
              generalize x.frm = xf at *
              generalize x.to_ = xt at *
              go_wp2_with (go_at_call 40; ((with_reducible refine (HC.out).mono ?_); rintro r w3 ⟨rfl, rfl⟩))
              go_ret
              exact ⟨ret_int HT.out.symm, HX.out⟩
      · by_cases h1 : dir = 1
        · subst h1
          have HT := Lib.hid (show R = 0 by rw [HR.out]; unfold toE; simp [ht, hF, hT])
          have e1 : (x.frm == n) = false := beq_eq_false_iff_ne.2 hF
          have e2 : (x.to_ == n) = false := beq_eq_false_iff_ne.2 hT
          clear hF hT
          rw [ht] at HC
          clear ht HR
          generalize x.frm = xf at *
          generalize x.to_ = xt at *
          go_wp2_with (go_at_call 40; ((with_reducible refine (HC.out).mono ?_); rintro r w3 ⟨rfl, rfl⟩))
          go_ret
          exact ⟨ret_int HT.out.symm, HX.out⟩
        · by_cases h2 : dir = 2
          · subst h2
            clear h1
            have HT := Lib.hid (show R = 0 by rw [HR.out]; unfold toE; simp [ht, hF, hT])
            have e1 : (x.frm == n) = false := beq_eq_false_iff_ne.2 hF
            have e2 : (x.to_ == n) = false := beq_eq_false_iff_ne.2 hT
            clear hF hT
            rw [ht] at HC
            clear ht HR
            generalize x.frm = xf at *
            generalize x.to_ = xt at *
            go_wp2_with (go_at_call 40; ((with_reducible refine (HC.out).mono ?_); rintro r w3 ⟨rfl, rfl⟩))
            go_ret
            exact ⟨ret_int HT.out.symm, HX.out⟩
          · by_cases h3 : dir = 3
            · subst h3
              clear h1 h2
              have HT := Lib.hid (show R = 0 by rw [HR.out]; unfold toE; simp [ht, hF, hT])
              have e1 : (x.frm == n) = false := beq_eq_false_iff_ne.2 hF
              have e2 : (x.to_ == n) = false := beq_eq_false_iff_ne.2 hT
              clear hF hT
              rw [ht] at HC
              clear ht HR
              generalize x.frm = xf at *
              generalize x.to_ = xt at *
              go_wp2_with (go_at_call 40; ((with_reducible refine (HC.out).mono ?_); rintro r w3 ⟨rfl, rfl⟩))
              go_ret
              exact ⟨ret_int HT.out.symm, HX.out⟩
            · skip
              have HT := Lib.hid (show R = 0 by rw [HR.out]; unfold toE; simp [ht, hF, hT, h1, h2, h3])
              have e1 : (x.frm == n) = false := beq_eq_false_iff_ne.2 hF
              have e2 : (x.to_ == n) = false := beq_eq_false_iff_ne.2 hT
              have e3 : (dir == 1) = false := beq_eq_false_iff_ne.2 h1
              have e4 : (dir == 2) = false := beq_eq_false_iff_ne.2 h2
              have e5 : (dir == 3) = false := beq_eq_false_iff_ne.2 h3
              clear hF hT h1 h2 h3
              rw [ht] at HC
              clear ht HR
              generalize x.frm = xf at *
              generalize x.to_ = xt at *
              go_wp2_with (go_at_call 40; ((with_reducible refine (HC.out).mono ?_); rintro r w3 ⟨rfl, rfl⟩))
              go_ret
              exact ⟨ret_int HT.out.symm, HX.out⟩
end Go.Proofs.YtigmdddeplnciaaGreatDoor
