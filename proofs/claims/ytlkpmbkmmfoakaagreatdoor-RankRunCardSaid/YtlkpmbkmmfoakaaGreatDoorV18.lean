/- PARTS OF THE WALKS, joined: RkM, RkN, RkLaid. -/
import Derived.Test.YtlkpmbkmmfoakaaGreatDoorV17
import Derived.Test.YtlkpmbkmmfoakaaGreatDoorV07
/- THE WALKS over the law's three, alive, few (chapter 51). -/
namespace Go.Proofs.YtlkpmbkmmfoakaaGreatDoor
open Go.RowKit Go.Sort
def gT : GraphG := ⟨[⟨1, [], []⟩, ⟨2, [], []⟩, ⟨3, [], []⟩], [⟨1, 1, 2, ⟨#[84]⟩, []⟩, ⟨2, 1, 3, ⟨#[84]⟩, []⟩, ⟨3, 2, 3, ⟨#[84]⟩, []⟩], 4, 4⟩
theorem nodeC_lit {W : World} {b o : Nat} {i : Int} (h0 : W.cell? ⟨b, o, none⟩ = some (.int .i64 i)) (h1 : W.cell? ⟨b, o + 1, none⟩ = some (.slice none 0 0)) (h2 : W.cell? ⟨b, o + 2, none⟩ = some (.slice none 0 0)) : NodeC W (fun _ => True) b o ⟨i, [], []⟩ :=
  ⟨trivial, h0, none, 0, none, 0, h1, Nat.le_refl _, SliceR.nil _ _ _, h2, Nat.le_refl _, SliceR.nil _ _ _⟩
theorem edgeC_lit {W : World} {b o : Nat} {i f t : Int} {s : ByteArray} (h0 : W.cell? ⟨b, o, none⟩ = some (.int .i64 i)) (h1 : W.cell? ⟨b, o + 1, none⟩ = some (.int .i64 f)) (h2 : W.cell? ⟨b, o + 2, none⟩ = some (.int .i64 t)) (h3 : W.cell? ⟨b, o + 3, none⟩ = some (.string s)) (h4 : W.cell? ⟨b, o + 4, none⟩ = some (.slice none 0 0)) : EdgeC W (fun _ => True) b o ⟨i, f, t, s, []⟩ :=
  ⟨trivial, h0, h1, h2, h3, none, 0, h4, Nat.le_refl _, SliceR.nil _ _ _⟩
theorem nodes_lit (w : World) (q : Nat) (hq : q = w.heap.size) : Nodes (w.alloc (.cells #[.int .i64 1, .slice none 0 0, .slice none 0 0, .int .i64 2, .slice none 0 0, .slice none 0 0, .int .i64 3, .slice none 0 0, .slice none 0 0] 58)) (fun _ => True) (some ⟨q, 0, none⟩) gT.nodes := by
  subst hq
  refine ⟨by decide, fun _ => ⟨_, _, rfl, fun k hk => ?_⟩⟩
  have h3 : k < 3 := hk
  have hk' : k = 0 ∨ k = 1 ∨ k = 2 := by omega
  rcases hk' with rfl | rfl | rfl <;> exact nodeC_lit (by go_simp) (by go_simp) (by go_simp)
theorem edges_lit (w : World) (q : Nat) (hq : q = w.heap.size) : Edges (w.alloc (.cells #[.int .i64 1, .int .i64 1, .int .i64 2, .string ⟨#[84]⟩, .slice none 0 0, .int .i64 2, .int .i64 1, .int .i64 3, .string ⟨#[84]⟩, .slice none 0 0, .int .i64 3, .int .i64 2, .int .i64 3, .string ⟨#[84]⟩, .slice none 0 0] 60)) (fun _ => True) (some ⟨q, 0, none⟩) gT.edges := by
  subst hq
  refine ⟨by decide, fun _ => ⟨_, _, rfl, fun k hk => ?_⟩⟩
  have h3 : k < 3 := hk
  have hk' : k = 0 ∨ k = 1 ∨ k = 2 := by omega
  rcases hk' with rfl | rfl | rfl <;> exact edgeC_lit (by go_simp) (by go_simp) (by go_simp) (by go_simp) (by go_simp)
set_option maxRecDepth 100000 in
set_option maxHeartbeats 800000 in
theorem l_three (w : World) : Calls Tryz.prog 14 #[] w fun e w' => ∃ A B, e = .returned (.agg #[.slice A 3 3, .slice B 3 3, .int .i64 4, .int .i64 4]) ∧ GraphAt w' (fun _ => True) A B gT ∧ Ext w w' := by
  go_enter Tryz.func14, Tryz.ntmps14
  go_wp2_with fail
  refine bodyPost_ret (v := .agg #[.slice (some ⟨w.heap.size + 1, 0, none⟩) 3 3, .slice (some ⟨w.heap.size + 1 + 1, 0, none⟩) 3 3, .int .i64 4, .int .i64 4]) (by simp [results, Tryz.results14, go_sem]) rfl ⟨_, _, rfl, ⟨(nodes_lit _ _ (by simp)).ext ((Ext.refl _).alloc _), edges_lit _ _ (by simp)⟩, (((Ext.refl _).alloc _).alloc _).alloc _⟩
def sT : List Sh := [⟨1, 1, 3⟩, ⟨2, 1, 3⟩, ⟨3, 1, 3⟩]
def lT : List Sh := [⟨1, 2, 9⟩, ⟨2, 11, 36⟩, ⟨3, 17, 36⟩]
theorem chk_T : chkG gT = 0 := by decide +kernel
theorem start_T : startR gT = sT := by rw [startR_ok chk_T]; rfl
theorem step_T : stepP gT [] (1, 2) sT = (lT, 0) := by decide +kernel
theorem run_T : runP gT [] (1, 2) 9 = ([], 1) := runP_arg chk_T (by decide)
theorem tot_T : totV lT = (1, 1, true) := by decide +kernel
theorem top_T : topI lT = [3, 2, 1] := (topI_of (m := lT.reverse) (List.reverse_perm _) (by decide +kernel)).symm
section
variable (W : World) (A B : Option Addr)
theorem t_Start (h : GraphAt W (fun _ => True) A B gT) : Calls Tryz.prog 10 #[.agg #[.slice A 3 3, .slice B 3 3, .int .i64 4, .int .i64 4]] W fun e w' => ∃ A' c', e = .returned (.slice A' 3 c') ∧ Shares w' (fun _ => True) A' sT ∧ Ext W w' :=
  (rk_Start gT (fun _ => True) A B 3 3 W h).mono fun e w' ⟨A', c', h1, _, h3, h4⟩ => by
    rw [start_T] at h1 h3
    exact ⟨A', c', h1, h3.keep (fun _ _ _ _ hc => ⟨hc, trivial⟩), h4⟩
theorem t_Step (hz : ZeroAt W) (S : Option Addr) (f : Nat) (h : GraphAt W (fun _ => True) A B gT) (hs : Shares W (fun _ => True) S sT) : Calls Tryz.prog 7 #[.agg #[.slice A 3 3, .slice B 3 3, .int .i64 4, .int .i64 4], .slice none 0 0, .agg #[.int .i64 1, .int .i64 2], .slice S 3 f] W fun e w' => ∃ A' c', e = .returned (.tuple #[.slice A' 3 c', .int .i64 0]) ∧ Shares w' (fun _ => True) A' lT ∧ Ext W w' :=
  (rk_Step gT [] (1, 2) sT (fun _ => True) (fun _ => True) (fun _ => True) A B none S 3 3 0 f W hz h (SliceR.nil _ _ _) hs).mono fun e w' h => by
    rw [step_T] at h
    obtain ⟨⟨A', c', h1, _, h3⟩, h4⟩ := h
    exact ⟨A', c', h1, h3.keep (fun _ _ _ _ hc => ⟨hc, trivial⟩), h4⟩
theorem t_Run (hz : ZeroAt W) (h : GraphAt W (fun _ => True) A B gT) : Calls Tryz.prog 12 #[.agg #[.slice A 3 3, .slice B 3 3, .int .i64 4, .int .i64 4], .slice none 0 0, .agg #[.int .i64 1, .int .i64 2], .int .i64 9] W fun e w' => ∃ A' c', e = .returned (.tuple #[.slice A' 0 c', .int .i64 1]) ∧ Ext W w' :=
  (rk_Run gT [] (1, 2) 9 (fun _ => True) (fun _ => True) A B none 3 3 0 W hz h (SliceR.nil _ _ _)).mono fun e w' h => by
    rw [run_T] at h
    obtain ⟨⟨A', c', h1, _, _⟩, h4⟩ := h
    exact ⟨A', c', h1, h4⟩
theorem t_Total (hz : ZeroAt W) (f : Nat) (hs : Shares W (fun _ => True) A lT) : Calls Tryz.prog 15 #[.slice A 3 f] W fun e w' => e = .returned (.tuple #[.agg #[.int .i64 1, .int .i64 1], .bool true]) ∧ Ext W w' :=
  (rk_Total lT (fun _ => True) A f W hz hs (by decide)).mono fun e w' ⟨h1, h2⟩ => by
    rw [tot_T] at h1
    exact ⟨h1, h2⟩
theorem t_Top (hz : ZeroAt W) (f : Nat) (hs : Shares W (fun _ => True) A lT) : Calls Tryz.prog 16 #[.slice A 3 f] W fun e w' => ∃ b o c', e = .returned (.slice (some ⟨b, o, none⟩) 3 c') ∧ w'.cell? ⟨b, o, none⟩ = some (.int .i64 3) ∧ w'.cell? ⟨b, o + 2, none⟩ = some (.int .i64 1) ∧ Ext W w' :=
  (rk_TopS lT (fun _ => True) A f W hz hs (by decide)).mono fun e w' ⟨A', c', h1, _, h3, h4⟩ => by
    rw [top_T] at h1 h3
    obtain ⟨b, o, rfl, hc⟩ := h3.2 (by decide)
    exact ⟨b, o, c', h1, (hc 0 (by decide)).2, (hc 2 (by decide)).2, h4⟩
end
theorem shs_at {W : World} {ok : Nat → Prop} {A : Option Addr} {l : List Sh} (h : Shares W ok A l) (hn : 0 < l.length) : ∃ b o, A = some ⟨b, o, none⟩ ∧ ∀ k, k < l.length → W.cell? ⟨b, o + k * 3, none⟩ = some (.int .i64 l[k]!.id) ∧ W.cell? ⟨b, o + k * 3 + 1, none⟩ = some (.int .i64 l[k]!.n) ∧ W.cell? ⟨b, o + k * 3 + 2, none⟩ = some (.int .i64 l[k]!.d) := by
  obtain ⟨b, o, rfl, hc⟩ := h.at_ hn
  exact ⟨b, o, rfl, fun k hk => (hc k hk).2⟩
set_option maxRecDepth 100000 in
set_option maxHeartbeats 3200000 in
theorem l_alive (w : World) (hz : ZeroAt w) : Calls Tryz.prog 6 #[] w fun e w' => e = .returned (.bool true) ∧ Ext w w' := by
  have HZ := Lib.hid hz
  clear hz
  go_enter Tryz.func6, Tryz.ntmps6
  go_wp2_with fail
  refine (l_three w).mono ?_
  rintro e w1 ⟨A1, B1, rfl, hG1, x1⟩
  go_wp2_with fail
  refine (t_Start w1 A1 B1 hG1).mono ?_
  rintro e w2 ⟨S2, c2, rfl, hS2, x2⟩
  go_wp2_with fail
  refine (l_three w2).mono ?_
  rintro e w3 ⟨A3, B3, rfl, hG3, x3⟩
  go_wp2_with fail
  refine (t_Step w3 A3 B3 (HZ.out.ext (x1.trans (x2.trans x3))) S2 c2 hG3 (hS2.ext x3)).mono ?_
  rintro e w4 ⟨S4, c4, rfl, hS4, x4⟩
  go_wp2_with fail
  refine (l_three w4).mono ?_
  rintro e w5 ⟨A5, B5, rfl, hG5, x5⟩
  go_wp2_with fail
  refine (t_Run w5 A5 B5 (HZ.out.ext (x1.trans (x2.trans (x3.trans (x4.trans x5))))) hG5).mono ?_
  rintro e w6 ⟨S6, c6, rfl, x6⟩
  go_wp2_with fail
  have x06 := x1.trans (x2.trans (x3.trans (x4.trans (x5.trans x6))))
  refine (t_Total w6 S4 (HZ.out.ext x06) c4 (hS4.ext (x5.trans x6))).mono ?_
  rintro e w7 ⟨rfl, x7⟩
  obtain ⟨q, w8, hq, hw8, q0, q1, -, -, x8⟩ := box_frac w7 1 1 28
  go_upto_region 5 with (fail)
  rw [← hw8, ← hq]
  clear hq hw8
  go_wp2_with fail
  refine (t_Top w8 S4 (HZ.out.ext (x06.trans (x7.trans x8))) c4 (hS4.ext (x5.trans (x6.trans (x7.trans x8))))).mono ?_
  rintro e w9 ⟨b9, o9, c9, rfl, t0, t2, x9⟩
  have x09 := x06.trans (x7.trans (x8.trans x9))
  obtain ⟨b2, o2, rfl, k2⟩ := shs_at (hS2.ext (x3.trans (x4.trans (x5.trans (x6.trans (x7.trans (x8.trans x9))))))) (by decide)
  obtain ⟨b4, o4, rfl, k4⟩ := shs_at (hS4.ext (x5.trans (x6.trans (x7.trans (x8.trans x9))))) (by decide)
  replace q0 := x9.cell q0
  replace q1 := x9.cell q1
  have a1 := (k2 1 (by decide)).2
  have a2 := (k4 0 (by decide)).2
  have a3 := (k4 1 (by decide)).2
  have a4 := (k4 2 (by decide)).2
  change w9.cell? ⟨b2, o2 + 3 + 1, none⟩ = some (.int .i64 1) ∧ w9.cell? ⟨b2, o2 + 3 + 2, none⟩ = some (.int .i64 3) at a1
  change w9.cell? ⟨b4, o4 + 1, none⟩ = some (.int .i64 2) ∧ w9.cell? ⟨b4, o4 + 2, none⟩ = some (.int .i64 9) at a2
  change w9.cell? ⟨b4, o4 + 3 + 1, none⟩ = some (.int .i64 11) ∧ w9.cell? ⟨b4, o4 + 3 + 2, none⟩ = some (.int .i64 36) at a3
  change w9.cell? ⟨b4, o4 + 6 + 1, none⟩ = some (.int .i64 17) ∧ w9.cell? ⟨b4, o4 + 6 + 2, none⟩ = some (.int .i64 36) at a4
  obtain ⟨a10, a11⟩ := a1
  obtain ⟨a20, a21⟩ := a2
  obtain ⟨a30, a31⟩ := a3
  obtain ⟨a40, a41⟩ := a4
  clear k2 k4 hS2 hS4 hG1 hG3 hG5 x1 x2 x3 x4 x5 x6 x7 x8 x9 x06 HZ
  go_wp2_with fail
  go_ret
  exact ⟨rfl, x09⟩
end Go.Proofs.YtlkpmbkmmfoakaaGreatDoor

/- THE WALKS over the law's few, RankStep, RankRun (chapter 51). -/
namespace Go.Proofs.YtlkpmbkmmfoakaaGreatDoor
open Go.RowKit Go.Sort
def fewB (g : GraphG) (m : Nat) : Bool := decide (g.nodes.length ≤ 30) && decide (g.edges.length ≤ 60) && decide (m ≤ 20)
set_option maxRecDepth 100000 in
theorem l_few (g : GraphG) (m : Nat) (A B T : Option Addr) (c d e : Nat) (w : World) (hm : g.nodes.length ≤ 140737488355328 ∧ g.edges.length ≤ 140737488355328 ∧ m ≤ 140737488355328) :
    Calls Tryz.prog 5 #[.agg #[.slice A g.nodes.length c, .slice B g.edges.length d, .int .i64 g.nn, .int .i64 g.ne], .slice T m e] w fun e' w' => e' = .returned (.bool (fewB g m)) ∧ Ext w w' := by
  have HV := Lib.hid (show fewB g m = (decide (g.nodes.length ≤ 30) && decide (g.edges.length ≤ 60) && decide (m ≤ 20)) from rfl)
  obtain ⟨m1, m2, m3⟩ := hm
  generalize fewB g m = b at *
  by_cases h1 : g.nodes.length ≤ 30
  · have q1 : decide ((g.nodes.length : Int) ≤ 30) = true := decide_eq_true (by omega)
    by_cases h2 : g.edges.length ≤ 60
    · have q2 : decide ((g.edges.length : Int) ≤ 60) = true := decide_eq_true (by omega)
      have HB := Lib.hid (show b = decide ((m : Int) ≤ 20) by rw [HV.out, decide_eq_true h1, decide_eq_true h2, Bool.true_and, Bool.true_and]; by_cases h : m ≤ 20 <;> simp [h] <;> omega)
      clear HV h1 h2
      go_enter Tryz.func5, Tryz.ntmps5
      go_wp2
      all_goals
        go_ret
        exact ⟨ret_bool HB.out.symm, (Ext.refl _).alloc _⟩
    · have q2 : decide ((g.edges.length : Int) ≤ 60) = false := decide_eq_false (by omega)
      have HB := Lib.hid (show b = false by rw [HV.out, decide_eq_false h2, Bool.and_false, Bool.false_and])
      clear HV h1 h2
      go_enter Tryz.func5, Tryz.ntmps5
      go_wp2
      go_ret
      exact ⟨ret_bool HB.out.symm, (Ext.refl _).alloc _⟩
  · have q1 : decide ((g.nodes.length : Int) ≤ 30) = false := decide_eq_false (by omega)
    have HB := Lib.hid (show b = false by rw [HV.out, decide_eq_false h1, Bool.false_and, Bool.false_and])
    clear HV h1
    go_enter Tryz.func5, Tryz.ntmps5
    go_wp2
    go_ret
    exact ⟨ret_bool HB.out.symm, (Ext.refl _).alloc _⟩
theorem same_self (a : List Sh) (ok ok' : Nat → Prop) (A B : Option Addr) (c d : Nat) (w : World) (ha : Shares w ok A a) (hb : Shares w ok' B a) :
    Calls Tryz.prog 9 #[.slice A a.length c, .slice B a.length d] w fun e w' => e = .returned (.bool true) ∧ Ext w w' :=
  (r51_Same a a ok ok' A B c d w ha hb).mono fun e w' ⟨h1, h2⟩ => ⟨by rw [h1, decide_eq_true rfl], h2⟩
set_option maxRecDepth 100000 in
set_option maxHeartbeats 3200000 in
theorem l_RankStep (g : GraphG) (types : List ByteArray) (damp : Fr) (l : List Sh) (ok ok' ok2 : Nat → Prop) (A B T S : Option Addr) (c d e f : Nat) (w : World) (hz : ZeroAt w) (hg : GraphAt w ok A B g) (hs : SzG g) (ht : Strs w ok' T types) (hl : Shares w ok2 S l) :
    Calls Tryz.prog 3 #[.agg #[.slice A g.nodes.length c, .slice B g.edges.length d, .int .i64 g.nn, .int .i64 g.ne], .slice T types.length e, .agg #[.int .i64 damp.1, .int .i64 damp.2], .slice S l.length f] w fun e' w' => e' = .returned (.bool true) ∧ Ext w w' := by
  obtain ⟨q, w2, hq, hw2, g0, g1, g2, g3, d0, d1, hx2⟩ := box_gf w A B c d g damp 25 28
  have HW := Lib.hid hw2
  have HG := Lib.hid hq
  have HM := Lib.hid (And.intro hg.nodes.len (And.intro hg.edges.len ht.len))
  have HFW := Lib.hid (fun W => l_few g types.length A B T c d e W HM.out)
  have HAL := Lib.hid (fun W (x : Ext w W) => l_alive W (hz.ext x))
  have hm3 : types.length ≤ 140737488355328 := ht.len
  have hml : l.length ≤ 140737488355328 := hl.len
  cases hfw : fewB g types.length
  · rw [hfw] at HFW
    clear hfw hw2 hq hg ht hl hs
    go_enter Tryz.func3, Tryz.ntmps3
    go_upto_region 1 with (fail)
    rw [← HW.out, ← HG.out]
    clear HW HG
    go_wp2_with (first | (go_at_call 5; ((with_reducible refine (HFW.out _).mono ?_); rintro e w3 ⟨rfl, hx3⟩; have k0 := hx3.cell g0; have k1 := hx3.cell g1; have k2 := hx3.cell g2; have k3 := hx3.cell g3; have p0 := hx3.cell d0; have p1 := hx3.cell d1)) | (go_at_call 6; ((with_reducible refine (HAL.out _ (hx2.trans (by with_reducible repeat (first | exact Ext.refl _ | assumption | refine Ext.drew ?_ | refine Ext.drewN ?_ _ | refine Ext.alloc ?_ _)))).mono ?_); rintro e w4 ⟨rfl, hx4⟩; skip)))
    go_ret
    exact ⟨rfl, hx2.trans (hx3.trans hx4)⟩
  · rw [hfw] at HFW
    by_cases h60 : l.length ≤ 60
    · have q60 : decide (60 < (l.length : Int)) = false := decide_eq_false (by omega)
      have HS1 := Lib.hid (fun W (x : Ext w W) => rk_Step g types damp l ok ok' ok2 A B T S c d e f W (hz.ext x) (hg.ext x) (ht.ext x) (hl.ext x))
      have HS2 := Lib.hid (fun W (x : Ext w W) => r51_Step g types damp l ok ok' ok2 A B T S c d e f W (hg.ext x) hs (ht.ext x) (hl.ext x))
      have HA1 := Lib.hid (fun W (x : Ext w W) => rk_Start g ok A B c d W (hg.ext x))
      have HA2 := Lib.hid (fun W (x : Ext w W) => r51_Start g ok A B c d W (hg.ext x) hs)
      clear hfw hw2 hq hg ht hl hs h60
      generalize stepP g types damp l = P at *
      generalize startR g = s0 at *
      go_enter Tryz.func3, Tryz.ntmps3
      go_upto_region 1 with (fail)
      rw [← HW.out, ← HG.out]
      clear HW HG
      go_upto_region 4 with (first | (go_at_call 5; ((with_reducible refine (HFW.out _).mono ?_); rintro e w3 ⟨rfl, hx3⟩; have k0 := hx3.cell g0; have k1 := hx3.cell g1; have k2 := hx3.cell g2; have k3 := hx3.cell g3; have p0 := hx3.cell d0; have p1 := hx3.cell d1)) | (go_at_call 7; ((with_reducible refine (HS1.out _ (hx2.trans hx3)).mono ?_); rintro e w5 ⟨⟨A5, c5, rfl, hc5, hS5⟩, hx5⟩; replace k0 := hx5.cell k0; replace k1 := hx5.cell k1; replace k2 := hx5.cell k2; replace k3 := hx5.cell k3; replace p0 := hx5.cell p0; replace p1 := hx5.cell p1)))
      go_upto_region 5 with ((go_at_call 8; ((with_reducible refine (HS2.out _ (hx2.trans (hx3.trans hx5))).mono ?_); rintro e w6 ⟨⟨A6, c6, rfl, hc6, hS6⟩, hx6⟩; replace k0 := hx6.cell k0; replace k1 := hx6.cell k1; replace k2 := hx6.cell k2; replace k3 := hx6.cell k3; replace p0 := hx6.cell p0; replace p1 := hx6.cell p1)))
      have xw6 := hx2.trans (hx3.trans (hx5.trans hx6))
      have HSM := Lib.hid (fun W (x : Ext w6 W) => same_self P.1 _ _ A5 A6 c5 c6 W (hS5.ext (hx6.trans x)) (hS6.ext x))
      have MKC := Lib.hid (fun V (e : Ext w6 V) => (⟨e.cell k0, e.cell k1, e.cell k2, e.cell k3⟩ : V.cell? ⟨q, 0, none⟩ = some (.slice A g.nodes.length c) ∧ V.cell? ⟨q, 1, none⟩ = some (.slice B g.edges.length d) ∧ V.cell? ⟨q, 2, none⟩ = some (.int .i64 g.nn) ∧ V.cell? ⟨q, 3, none⟩ = some (.int .i64 g.ne)))
      clear hS5 hS6 hx2 hx3 hx5 hx6 HS1 HS2 k0 k1 k2 k3 p0 p1 g0 g1 g2 g3 d0 d1 q60
      refine wp_region_held_drew (S := (fun V => V.cell? ⟨q, 0, none⟩ = some (.slice A g.nodes.length c) ∧ V.cell? ⟨q, 1, none⟩ = some (.slice B g.edges.length d) ∧ V.cell? ⟨q, 2, none⟩ = some (.int .i64 g.nn) ∧ V.cell? ⟨q, 3, none⟩ = some (.int .i64 g.ne))) (by kernel_rfl) ?hs1 (fun hHeld => ?go1)
      case hs1 => (exact MKC.out _ (by with_reducible repeat (first | exact Ext.refl _ | assumption | refine Ext.drew ?_ | refine Ext.drewN ?_ _ | refine Ext.alloc ?_ _)))
      refine wpAnyH_take (i := 0) (oi := ⟨(some 39), (.load 25 (.tmp 4)), 25, "law.go:42", #[], none⟩) (v := ?v2) rfl (by kernel_rfl) (by kernel_rfl) (by kernel_rfl) (fun _ _ _ h => h) (Or.inl ⟨rfl, ?hy2⟩) hHeld ?rest2
      case hy2 => (intro w hSw; (try dsimp only at hSw); go_simp <;> first | with_reducible rfl | rw [if_neg (by omega)] | rw [if_pos (by omega)])
      (try simp only [PU])
      refine wpAnyH_take (i := 2) (oi := ⟨(some 41), (.load 25 (.tmp 4)), 25, "law.go:42", #[], none⟩) (v := ?v3) rfl (by kernel_rfl) (by kernel_rfl) (by kernel_rfl) (fun _ _ _ h => h) (Or.inl ⟨rfl, ?hy3⟩) hHeld ?rest3
      case hy3 => (intro w hSw; (try dsimp only at hSw); go_simp <;> first | with_reducible rfl | rw [if_neg (by omega)] | rw [if_pos (by omega)])
      (try simp only [PU])
      refine wpAnyH_ready (rs := [1]) (by kernel_rfl) (by simp) ?_
      refine AllReadyH.cons (o := ⟨(some 40), (.call { callee := (.value (.func 10)), args := #[(.tmp 39)], argTypes := #[25] }), 29, "law.go:42", #[⟨0, .data⟩], none⟩) rfl (fun K hK => ?step4x0) ?more4x0
      case more4x0 => exact AllReadyH.nil
      go_simp
      (refine (HA1.out _ (xw6.trans (by with_reducible repeat (first | exact Ext.refl _ | assumption | refine Ext.drew ?_ | refine Ext.drewN ?_ _ | refine Ext.alloc ?_ _)))).mono ?_; rintro e w7 ⟨A7, c7, rfl, hc7, hS7, hx7⟩; replace hx7 : Ext w6 w7 := Ext.trans (by with_reducible repeat (first | exact Ext.refl _ | assumption | refine Ext.drew ?_ | refine Ext.drewN ?_ _ | refine Ext.alloc ?_ _)) hx7)
      refine hK.out _ _ ?hS4x0 (fun hHeld4 => ?rest4x0)
      case hS4x0 => first | (exact MKC.out _ (by with_reducible repeat (first | exact Ext.refl _ | assumption | refine Ext.drew ?_ | refine Ext.drewN ?_ _ | refine Ext.alloc ?_ _))) | ((try dsimp only); (exact MKC.out _ (by with_reducible repeat (first | exact Ext.refl _ | assumption | refine Ext.drew ?_ | refine Ext.drewN ?_ _ | refine Ext.alloc ?_ _))))
      clear hK K
      clear hHeld
      (try simp only [PU])
      refine wpAnyH_ready (rs := [3]) (by kernel_rfl) (by simp) ?_
      refine AllReadyH.cons (o := ⟨(some 42), (.call { callee := (.value (.func 11)), args := #[(.tmp 41)], argTypes := #[25] }), 29, "law.go:42", #[⟨2, .data⟩, ⟨1, .chain⟩], none⟩) rfl (fun K hK => ?step5x0) ?more5x0
      case more5x0 => exact AllReadyH.nil
      go_simp
      (refine (HA2.out _ (xw6.trans (by with_reducible repeat (first | exact Ext.refl _ | assumption | refine Ext.drew ?_ | refine Ext.drewN ?_ _ | refine Ext.alloc ?_ _)))).mono ?_; rintro e w8 ⟨A8, c8, rfl, hc8, hS8, hx8⟩; have hS7' := hS7.ext hx8; replace hx8 : Ext w6 w8 := Ext.trans (by with_reducible repeat (first | exact Ext.refl _ | assumption | refine Ext.drew ?_ | refine Ext.drewN ?_ _ | refine Ext.alloc ?_ _)) hx8)
      refine hK.out _ _ ?hS5x0 (fun hHeld5 => ?rest5x0)
      case hS5x0 => first | (exact MKC.out _ (by with_reducible repeat (first | exact Ext.refl _ | assumption | refine Ext.drew ?_ | refine Ext.drewN ?_ _ | refine Ext.alloc ?_ _))) | ((try dsimp only); (exact MKC.out _ (by with_reducible repeat (first | exact Ext.refl _ | assumption | refine Ext.drew ?_ | refine Ext.drewN ?_ _ | refine Ext.alloc ?_ _))))
      clear hK K
      clear hHeld4
      (try simp only [PU])
      refine wpAnyH_ready (rs := [4]) (by kernel_rfl) (by simp) ?_
      refine AllReadyH.cons (o := ⟨(some 43), (.call { callee := (.value (.func 9)), args := #[(.tmp 40), (.tmp 42)], argTypes := #[29, 29] }), 4, "law.go:42", #[⟨1, .data⟩, ⟨3, .data⟩, ⟨3, .chain⟩], none⟩) rfl (fun K hK => ?step6x0) ?more6x0
      case more6x0 => exact AllReadyH.nil
      go_simp
      (refine (same_self s0 _ _ A7 A8 c7 c8 _ hS7' hS8).mono ?_; rintro e w9 ⟨rfl, hx9⟩; replace hx9 : Ext w6 w9 := Ext.trans (by with_reducible repeat (first | exact Ext.refl _ | assumption | refine Ext.drew ?_ | refine Ext.drewN ?_ _ | refine Ext.alloc ?_ _)) hx9)
      refine hK.out _ _ ?hS6x0 (fun hHeld6 => ?rest6x0)
      case hS6x0 => first | (exact MKC.out _ (by with_reducible repeat (first | exact Ext.refl _ | assumption | refine Ext.drew ?_ | refine Ext.drewN ?_ _ | refine Ext.alloc ?_ _))) | ((try dsimp only); (exact MKC.out _ (by with_reducible repeat (first | exact Ext.refl _ | assumption | refine Ext.drew ?_ | refine Ext.drewN ?_ _ | refine Ext.alloc ?_ _))))
      clear hK K
      clear hHeld5
      (try simp only [PU])
      refine wpAnyH_take (i := 5) (oi := ⟨(some 44), (.move (.tmp 43)), 4, "law.go:42", #[⟨4, .data⟩, ⟨4, .chain⟩], none⟩) (v := ?v7) rfl (by kernel_rfl) (by kernel_rfl) (by kernel_rfl) (fun _ _ _ h => h) (Or.inl ⟨rfl, ?hy7⟩) hHeld6 ?rest7
      case hy7 => (intro w _; go_simp <;> rfl)
      (try simp only [PU])
      refine wpAnyH_take (i := 6) (oi := ⟨(some 45), (.move (.tmp 9)), 29, "law.go:42", #[⟨5, .guard⟩], (some (5, true))⟩) (v := ?v8) rfl (by kernel_rfl) (by kernel_rfl) (by kernel_rfl) (fun _ _ _ h => h) (Or.inl ⟨rfl, ?hy8⟩) hHeld6 ?rest8
      case hy8 => (intro w _; go_simp <;> rfl)
      (try simp only [PU])
      refine wpAnyH_take (i := 7) (oi := ⟨(some 46), (.move (.tmp 11)), 29, "law.go:42", #[⟨5, .guard⟩], (some (5, true))⟩) (v := ?v9) rfl (by kernel_rfl) (by kernel_rfl) (by kernel_rfl) (fun _ _ _ h => h) (Or.inl ⟨rfl, ?hy9⟩) hHeld6 ?rest9
      case hy9 => (intro w _; go_simp <;> rfl)
      (try simp only [PU])
      refine wpAnyH_ready (rs := [8]) (by kernel_rfl) (by simp) ?_
      refine AllReadyH.cons (o := ⟨(some 47), (.call { callee := (.value (.func 9)), args := #[(.tmp 45), (.tmp 46)], argTypes := #[29, 29] }), 4, "law.go:42", #[⟨6, .data⟩, ⟨7, .data⟩, ⟨5, .chain⟩, ⟨5, .guard⟩], (some (5, true))⟩) rfl (fun K hK => ?step10x0) ?more10x0
      case more10x0 => exact AllReadyH.nil
      go_simp
      (refine (HSM.out _ (by with_reducible repeat (first | exact Ext.refl _ | assumption | refine Ext.drew ?_ | refine Ext.drewN ?_ _ | refine Ext.alloc ?_ _))).mono ?_; rintro e w10 ⟨rfl, hx10⟩; replace hx10 : Ext w6 w10 := Ext.trans (by with_reducible repeat (first | exact Ext.refl _ | assumption | refine Ext.drew ?_ | refine Ext.drewN ?_ _ | refine Ext.alloc ?_ _)) hx10)
      refine hK.out _ _ ?hS10x0 (fun hHeld10 => ?rest10x0)
      case hS10x0 => first | (exact MKC.out _ (by with_reducible repeat (first | exact Ext.refl _ | assumption | refine Ext.drew ?_ | refine Ext.drewN ?_ _ | refine Ext.alloc ?_ _))) | ((try dsimp only); (exact MKC.out _ (by with_reducible repeat (first | exact Ext.refl _ | assumption | refine Ext.drew ?_ | refine Ext.drewN ?_ _ | refine Ext.alloc ?_ _))))
      clear hK K
      clear hHeld6
      (try simp only [PU])
      refine wpAnyH_take (i := 9) (oi := ⟨(some 48), (.pick (.tmp 44) (.tmp 47) (.const (.bool false))), 4, "law.go:42", #[⟨5, .data⟩, ⟨8, .data⟩], none⟩) (v := ?v11) rfl (by kernel_rfl) (by kernel_rfl) (by kernel_rfl) (fun _ _ _ h => h) (Or.inl ⟨rfl, ?hy11⟩) hHeld10 ?rest11
      case hy11 => (intro w _; go_simp <;> rfl)
      (try simp only [PU])
      refine wpAnyH_take (i := 10) (oi := ⟨(some 49), (.move (.tmp 48)), 4, "law.go:42", #[⟨9, .data⟩, ⟨8, .chain⟩], none⟩) (v := ?v12) rfl (by kernel_rfl) (by kernel_rfl) (by kernel_rfl) (fun _ _ _ h => h) (Or.inl ⟨rfl, ?hy12⟩) hHeld10 ?rest12
      case hy12 => (intro w _; go_simp <;> rfl)
      (try simp only [PU])
      refine wpAnyH_take (i := 11) (oi := ⟨(some 50), (.move (.tmp 10)), 32, "law.go:42", #[⟨10, .guard⟩], (some (10, true))⟩) (v := ?v13) rfl (by kernel_rfl) (by kernel_rfl) (by kernel_rfl) (fun _ _ _ h => h) (Or.inl ⟨rfl, ?hy13⟩) hHeld10 ?rest13
      case hy13 => (intro w _; go_simp <;> rfl)
      (try simp only [PU])
      refine wpAnyH_take (i := 12) (oi := ⟨(some 51), (.move (.tmp 12)), 32, "law.go:42", #[⟨10, .guard⟩], (some (10, true))⟩) (v := ?v14) rfl (by kernel_rfl) (by kernel_rfl) (by kernel_rfl) (fun _ _ _ h => h) (Or.inl ⟨rfl, ?hy14⟩) hHeld10 ?rest14
      case hy14 => (intro w _; go_simp <;> rfl)
      (try simp only [PU])
      refine wpAnyH_take (i := 13) (oi := ⟨(some 52), (.binOp .eql 32 (.tmp 50) (.tmp 51) 32), 4, "law.go:42", #[⟨11, .data⟩, ⟨12, .data⟩, ⟨10, .guard⟩], (some (10, true))⟩) (v := ?v15) rfl (by kernel_rfl) (by kernel_rfl) (by kernel_rfl) (fun _ _ _ h => h) (Or.inl ⟨rfl, ?hy15⟩) hHeld10 ?rest15
      case hy15 => (intro w _; go_simp <;> first | with_reducible rfl | rw [if_neg (by omega)] | rw [if_pos (by omega)])
      (try simp only [PU])
      refine wpAnyH_take (i := 14) (oi := ⟨(some 53), (.pick (.tmp 49) (.tmp 52) (.const (.bool false))), 4, "law.go:42", #[⟨10, .data⟩, ⟨13, .data⟩], none⟩) (v := ?v16) rfl (by kernel_rfl) (by kernel_rfl) (by kernel_rfl) (fun _ _ _ h => h) (Or.inl ⟨rfl, ?hy16⟩) hHeld10 ?rest16
      case hy16 => (intro w _; go_simp <;> rfl)
      (try simp only [PU])
      refine wpAnyH_take (i := 15) (oi := ⟨(some 54), (.move (.tmp 53)), 4, "law.go:42", #[⟨14, .data⟩, ⟨10, .chain⟩], none⟩) (v := ?v17) rfl (by kernel_rfl) (by kernel_rfl) (by kernel_rfl) (fun _ _ _ h => h) (Or.inl ⟨rfl, ?hy17⟩) hHeld10 ?rest17
      case hy17 => (intro w _; go_simp <;> rfl)
      (try simp only [PU])
      refine wpAnyH_ready (rs := [16]) (by kernel_rfl) (by simp) ?_
      refine AllReadyH.cons (o := ⟨(some 55), (.call { callee := (.value (.func 6)), args := #[], argTypes := #[] }), 4, "law.go:42", #[⟨15, .chain⟩, ⟨15, .guard⟩], (some (15, true))⟩) rfl (fun K hK => ?step18x0) ?more18x0
      case more18x0 => exact AllReadyH.nil
      go_simp
      (refine (HAL.out _ (xw6.trans (by with_reducible repeat (first | exact Ext.refl _ | assumption | refine Ext.drew ?_ | refine Ext.drewN ?_ _ | refine Ext.alloc ?_ _)))).mono ?_; rintro e w11 ⟨rfl, hx11⟩; replace hx11 : Ext w6 w11 := Ext.trans (by with_reducible repeat (first | exact Ext.refl _ | assumption | refine Ext.drew ?_ | refine Ext.drewN ?_ _ | refine Ext.alloc ?_ _)) hx11)
      refine hK.out _ _ ?hS18x0 (fun hHeld18 => ?rest18x0)
      case hS18x0 => first | (exact MKC.out _ (by with_reducible repeat (first | exact Ext.refl _ | assumption | refine Ext.drew ?_ | refine Ext.drewN ?_ _ | refine Ext.alloc ?_ _))) | ((try dsimp only); (exact MKC.out _ (by with_reducible repeat (first | exact Ext.refl _ | assumption | refine Ext.drew ?_ | refine Ext.drewN ?_ _ | refine Ext.alloc ?_ _))))
      clear hK K
      clear hHeld10
      (try simp only [PU])
      refine wpAnyH_take (i := 17) (oi := ⟨(some 56), (.pick (.tmp 54) (.tmp 55) (.const (.bool false))), 4, "law.go:42", #[⟨15, .data⟩, ⟨16, .data⟩], none⟩) (v := ?v19) rfl (by kernel_rfl) (by kernel_rfl) (by kernel_rfl) (fun _ _ _ h => h) (Or.inl ⟨rfl, ?hy19⟩) hHeld18 ?rest19
      case hy19 => (intro w _; go_simp <;> rfl)
      (try simp only [PU])
      refine wpAnyH_take (i := 18) (oi := ⟨(some 8), (.assign (.tmp 56)), 4, "law.go:42", #[⟨17, .data⟩, ⟨16, .chain⟩, ⟨0, .phase⟩, ⟨1, .phase⟩, ⟨2, .phase⟩, ⟨3, .phase⟩, ⟨4, .phase⟩, ⟨5, .phase⟩, ⟨6, .phase⟩, ⟨7, .phase⟩, ⟨8, .phase⟩, ⟨9, .phase⟩, ⟨10, .phase⟩, ⟨11, .phase⟩, ⟨12, .phase⟩, ⟨13, .phase⟩, ⟨14, .phase⟩, ⟨15, .phase⟩, ⟨16, .phase⟩, ⟨17, .phase⟩], none⟩) (v := ?v20) rfl (by kernel_rfl) (by kernel_rfl) (by kernel_rfl) (fun _ _ _ h => h) (Or.inl ⟨rfl, ?hy20⟩) hHeld18 ?rest20
      case hy20 => (intro w _; go_simp <;> first | with_reducible rfl | rw [if_neg (by omega)] | rw [if_pos (by omega)])
      (try simp only [PU])
      refine wpAnyH_done (by kernel_rfl) ?_ _
      clear hHeld18
      go_wp2_with fail
      go_ret
      exact ⟨rfl, xw6.trans hx11⟩
    · have q60 : decide (60 < (l.length : Int)) = true := decide_eq_true (by omega)
      clear hfw hw2 hq hg ht hl hs h60
      go_enter Tryz.func3, Tryz.ntmps3
      go_upto_region 1 with (fail)
      rw [← HW.out, ← HG.out]
      clear HW HG
      go_wp2_with (first | (go_at_call 5; ((with_reducible refine (HFW.out _).mono ?_); rintro e w3 ⟨rfl, hx3⟩; have k0 := hx3.cell g0; have k1 := hx3.cell g1; have k2 := hx3.cell g2; have k3 := hx3.cell g3; have p0 := hx3.cell d0; have p1 := hx3.cell d1)) | (go_at_call 6; ((with_reducible refine (HAL.out _ (hx2.trans (by with_reducible repeat (first | exact Ext.refl _ | assumption | refine Ext.drew ?_ | refine Ext.drewN ?_ _ | refine Ext.alloc ?_ _)))).mono ?_); rintro e w4 ⟨rfl, hx4⟩; skip)))
      go_ret
      exact ⟨rfl, hx2.trans (hx3.trans hx4)⟩
set_option maxRecDepth 100000 in
set_option maxHeartbeats 3200000 in
theorem l_RankRun (g : GraphG) (types : List ByteArray) (damp : Fr) (k : Int) (ok ok' : Nat → Prop) (A B T : Option Addr) (c d e : Nat) (w : World) (hz : ZeroAt w) (hg : GraphAt w ok A B g) (hs : SzG g) (ht : Strs w ok' T types) :
    Calls Tryz.prog 4 #[.agg #[.slice A g.nodes.length c, .slice B g.edges.length d, .int .i64 g.nn, .int .i64 g.ne], .slice T types.length e, .agg #[.int .i64 damp.1, .int .i64 damp.2], .int .i64 k] w fun e' w' => e' = .returned (.bool true) ∧ Ext w w' := by
  obtain ⟨q, w2, hq, hw2, g0, g1, g2, g3, d0, d1, hx2⟩ := box_gf w A B c d g damp 25 28
  have HW := Lib.hid hw2
  have HG := Lib.hid hq
  have HM := Lib.hid (And.intro hg.nodes.len (And.intro hg.edges.len ht.len))
  have HFW := Lib.hid (fun W => l_few g types.length A B T c d e W HM.out)
  have HAL := Lib.hid (fun W (x : Ext w W) => l_alive W (hz.ext x))
  have hm3 : types.length ≤ 140737488355328 := ht.len
  cases hfw : fewB g types.length
  · rw [hfw] at HFW
    clear hfw hw2 hq hg ht hs
    go_enter Tryz.func4, Tryz.ntmps4
    go_upto_region 1 with (fail)
    rw [← HW.out, ← HG.out]
    clear HW HG
    go_wp2_with (first | (go_at_call 5; ((with_reducible refine (HFW.out _).mono ?_); rintro e w3 ⟨rfl, hx3⟩; have k0 := hx3.cell g0; have k1 := hx3.cell g1; have k2 := hx3.cell g2; have k3 := hx3.cell g3; have p0 := hx3.cell d0; have p1 := hx3.cell d1)) | (go_at_call 6; ((with_reducible refine (HAL.out _ (hx2.trans (by with_reducible repeat (first | exact Ext.refl _ | assumption | refine Ext.drew ?_ | refine Ext.drewN ?_ _ | refine Ext.alloc ?_ _)))).mono ?_); rintro e w4 ⟨rfl, hx4⟩; skip)))
    go_ret
    exact ⟨rfl, hx2.trans (hx3.trans hx4)⟩
  · rw [hfw] at HFW
    have HS1 := Lib.hid (fun W (x : Ext w W) => rk_Run g types damp k ok ok' A B T c d e W (hz.ext x) (hg.ext x) (ht.ext x))
    have HS2 := Lib.hid (fun W (x : Ext w W) => r51_Run g types damp k ok ok' A B T c d e W hs (hg.ext x) (ht.ext x))
    clear hfw hw2 hq hg ht hs
    generalize runP g types damp k = P at *
    go_enter Tryz.func4, Tryz.ntmps4
    go_upto_region 1 with (fail)
    rw [← HW.out, ← HG.out]
    clear HW HG
    go_upto_region 4 with (first | (go_at_call 5; ((with_reducible refine (HFW.out _).mono ?_); rintro e w3 ⟨rfl, hx3⟩; have k0 := hx3.cell g0; have k1 := hx3.cell g1; have k2 := hx3.cell g2; have k3 := hx3.cell g3; have p0 := hx3.cell d0; have p1 := hx3.cell d1)) | (go_at_call 12; ((with_reducible refine (HS1.out _ (hx2.trans hx3)).mono ?_); rintro e w5 ⟨⟨A5, c5, rfl, hc5, hS5⟩, hx5⟩; replace k0 := hx5.cell k0; replace k1 := hx5.cell k1; replace k2 := hx5.cell k2; replace k3 := hx5.cell k3; replace p0 := hx5.cell p0; replace p1 := hx5.cell p1)))
    go_upto_region 5 with ((go_at_call 13; ((with_reducible refine (HS2.out _ (hx2.trans (hx3.trans hx5))).mono ?_); rintro e w6 ⟨⟨A6, c6, rfl, hc6, hS6⟩, hx6⟩; replace k0 := hx6.cell k0; replace k1 := hx6.cell k1; replace k2 := hx6.cell k2; replace k3 := hx6.cell k3; replace p0 := hx6.cell p0; replace p1 := hx6.cell p1)))
    have xw6 := hx2.trans (hx3.trans (hx5.trans hx6))
    have HSM := Lib.hid (same_self P.1 _ _ A5 A6 c5 c6 w6 (hS5.ext hx6) hS6)
    clear hS5 hS6 hx2 hx3 hx5 hx6 HS1 HS2
    go_wp2_with (first | (go_at_call 9; ((with_reducible refine (HSM.out).mono ?_); rintro e w7 ⟨rfl, hx7⟩; skip)) | (go_at_call 6; ((with_reducible refine (HAL.out _ (xw6.trans (by with_reducible repeat (first | exact Ext.refl _ | assumption | refine Ext.drew ?_ | refine Ext.drewN ?_ _ | refine Ext.alloc ?_ _)))).mono ?_); rintro e w8 ⟨rfl, hx8⟩; skip)))
    go_ret
    exact ⟨rfl, xw6.trans (hx7.trans hx8)⟩
end Go.Proofs.YtlkpmbkmmfoakaaGreatDoor

/- WHAT THE ROWS OF CHAPTER 51 LIST; fractions and shares that come in. -/
namespace Go.Proofs.YtlkpmbkmmfoakaaGreatDoor
open Go.ChangeShapes Go.WideShapes Go.ChangeAt Go.RowKit
open Go.ChangeMaps (open_string shut_string)
theorem gZero : Tryz.prog.globalNamed "graphdb/frac.zero" = some 0 := by kernel_rfl
theorem gZeroType : (Tryz.prog.globals[0]?).map (·.type) = some 28 := by kernel_rfl
theorem cellsFrac : Tryz.prog.cellsOf 28 = 2 := by kernel_rfl
abbrev laidList : List (String × DataW Unit) := Rows.rankStepRow.laid
theorem zero_of {W : World} (h : laidMetH Tryz.prog laidList W) : ZeroAt W := by
  have h0 : laidMet Tryz.prog laidList W := h
  obtain ⟨ps, ⟨g', t', cs, fuel, p, q, hg', ht', hvar, hd, -, -⟩, -⟩ := h0
  obtain rfl := Option.some.inj (gZero.symm.trans hg')
  obtain rfl := Option.some.inj (gZeroType.symm.trans ht')
  obtain ⟨y0, y1, n, hx, hl, h0, h1⟩ := trod_struct2 Tryz.underlying28 hd
  rw [cellsFrac] at hl
  obtain ⟨c0, c1, rfl⟩ := Joins.array2 (show cs.size = 2 by simpa using hl)
  obtain ⟨a, e0, x0, -⟩ := DataW.trod_int (k := .i64) Tryz.underlying3 h0
  obtain ⟨b, e1, x1, -⟩ := DataW.trod_int (k := .i64) Tryz.underlying3 h1
  rw [x0, x1] at hx
  simp only [Rows.laid_graphdb_frac_zero, Prod.mk.injEq, DataW.agg.injEq, List.cons.injEq, DataW.lit.injEq, Lit.int.injEq] at hx
  have k0 : c0 = .int .i64 a := by simpa [show Tryz.prog.cellsOf 3 = 1 from by kernel_rfl] using e0
  have k1 : c1 = .int .i64 b := by simpa [show Tryz.prog.cellsOf 3 = 1 from by kernel_rfl] using e1
  have ha : (0 : Int) = a := hx.1.1.2
  have hb : (1 : Int) = b := hx.1.2.1.2
  subst ha hb k0 k1
  have z0 := World.var?_cell gZero hvar 0
  have z1 := World.var?_cell gZero hvar 1
  refine ⟨z0, z1, ?_⟩
  unfold World.var? at hvar
  rw [gZero] at hvar
  rcases Nat.lt_or_ge 0 W.heap.size with k | k
  · exact k
  · simp only [Option.bind_some, Array.getElem?_eq_none k] at hvar; cases hvar
/-- The laid heap meets the condition. -/
theorem door_met (os : Os) (args : Array Value) : laidMetH Tryz.prog laidList ((World.laidAll Tryz.prog os laidList).forCall (fun _ _ => 0) ⟨#[], args, []⟩).memory := by
  rw [MakeChecks.laidMetH_plain _ _ _ (by kernel_rfl)]
  exact laidMet_laidAll _ (by kernel_rfl) (by kernel_rfl)
theorem cellsShare : Tryz.prog.cellsOf 46 = 3 := by kernel_rfl
theorem bytesShare : 0 < Tryz.prog.bytesOf 46 := of_decide_eq_true (by kernel_rfl)
section
variable {H : Type} {enc : TypeId × Value → H} {w : World} {base : Nat} {spare : Nat → Bool} {held : Bool}
theorem open_frac {fuel : Nat} {cs : List Value} {x : DataW H × List MemPlace} (h : DataW.trod enc Tryz.prog w base spare held fuel 28 cs = some x) : ∃ a b : Int, cs = [.int .i64 a, .int .i64 b] := by
  obtain ⟨xs, m, hm, hxx, hl, hlen, hg⟩ := DataW.trod_struct Tryz.underlying28 h
  rw [cellsFrac] at hl
  obtain ⟨c0, c1, rfl⟩ := twoL hl
  obtain ⟨y0, y1, rfl⟩ := twoL (show xs.length = 2 from hlen)
  have g0 : DataW.trod enc Tryz.prog w base spare held m 3 (([c0, c1].drop 0).take (Tryz.prog.cellsOf 3)) = some y0 := hg 0 _ rfl
  rw [cellsInt] at g0
  have g1 : DataW.trod enc Tryz.prog w base spare held m 3 (([c0, c1].drop 1).take (Tryz.prog.cellsOf 3)) = some y1 := hg 1 _ rfl
  rw [cellsInt] at g1
  obtain ⟨k0, e0, -, -⟩ := DataW.trod_int (k := .i64) Tryz.underlying3 g0
  obtain ⟨k1, e1, -, -⟩ := DataW.trod_int (k := .i64) Tryz.underlying3 g1
  cases e0; cases e1
  exact ⟨k0, k1, rfl⟩
set_option maxRecDepth 100000 in
theorem open_share {fuel : Nat} {cs : List Value} {x : DataW H × List MemPlace} (_hwt : ∀ k ∈ x.1.weights Tryz.prog 46, k ≤ reachBytes) (h : DataW.trod enc Tryz.prog w base spare held fuel 46 cs = some x) : ∃ v : Sh, (True) ∧ ∀ b o, (∀ j u, cs[j]? = some u → w.cell? ⟨b, o + j, none⟩ = some u) → ShC w (fun _ => True) b o v := by
  obtain ⟨xs, m, hm, hxx, hl, hlen, hg⟩ := DataW.trod_struct Tryz.underlying46 h
  rw [cellsShare] at hl
  obtain ⟨c0, c1, c2, rfl⟩ := three_L hl
  obtain ⟨y0, y1, rfl⟩ := twoL (show xs.length = 2 from hlen)
  have g0 : DataW.trod enc Tryz.prog w base spare held m 3 (([c0, c1, c2].drop 0).take (Tryz.prog.cellsOf 3)) = some y0 := hg 0 _ rfl
  rw [cellsInt] at g0
  have g1 : DataW.trod enc Tryz.prog w base spare held m 28 (([c0, c1, c2].drop 1).take (Tryz.prog.cellsOf 28)) = some y1 := hg 1 _ rfl
  rw [cellsFrac] at g1
  obtain ⟨k0, e0, -, -⟩ := DataW.trod_int (k := .i64) Tryz.underlying3 g0
  obtain ⟨a, b, e1⟩ := open_frac g1
  cases e0; cases e1
  exact ⟨⟨k0, a, b⟩, trivial, fun b o hc => ⟨trivial, hc 0 _ rfl, hc 1 _ rfl, hc 2 _ rfl⟩⟩
theorem open_shares {fuel : Nat} {cs : List Value} {x : DataW H × List MemPlace} (hwt : ∀ k ∈ x.1.weights Tryz.prog 29, k ≤ reachBytes) (h : DataW.trod enc Tryz.prog w base spare held fuel 29 cs = some x) :
    ∃ (l : List Sh) (A : Option Addr) (c : Nat), cs = [.slice A l.length c] ∧ l.length ≤ c ∧ SliceR (ShC w (fun _ => True)) 3 A l ∧ ∀ v ∈ l, True :=
  slice_gen (α := Sh) Tryz.underlying29 cellsShare bytesShare (by decide) (ShC w (fun _ => True)) (fun v => True) (fun _ _ _ _ hk hy => open_share hk hy) hwt h
set_option maxRecDepth 100000 in
theorem top_frac {r : Reach} {b0 : Nat} {v : Value} {dd : DataW H} {p : List MemPlace} (hv : Value.okWide Tryz.prog w r b0 28 v) (h : DataW.Trod enc Tryz.prog w base spare held 28 v dd p) : ∃ a b : Int, v = .agg #[.int .i64 a, .int .i64 b] := by
  obtain ⟨csa, rfl, -⟩ := okWide_struct Tryz.underlying28 hv
  obtain ⟨fuel, hf⟩ := h
  obtain ⟨cs, rfl⟩ : ∃ cs : List Value, csa = cs.toArray := ⟨csa.toList, by simp⟩
  obtain ⟨a, b, rfl⟩ := open_frac (cs := cs) (by simpa [Value.cells] using hf)
  exact ⟨a, b, rfl⟩
set_option maxRecDepth 100000 in
theorem top_shares {r : Reach} {b0 : Nat} {v : Value} {dd : DataW H} {p : List MemPlace} (hw : Value.okWide Tryz.prog w r b0 29 v) (hwt : ∀ k ∈ dd.weights Tryz.prog 29, k ≤ reachBytes) (h : DataW.Trod enc Tryz.prog w base spare held 29 v dd p) : ∃ (l : List Sh) (A : Option Addr) (c : Nat), v = .slice A l.length c ∧ l.length ≤ c ∧ Shares w (fun _ => True) A l := by
  obtain ⟨fuel, hf⟩ := h
  obtain ⟨A', n', c', rfl⟩ := okWide_slice Tryz.underlying29 hw
  obtain ⟨l, A, c, e, h1, h2, -⟩ := open_shares hwt hf
  exact ⟨l, A, c, by simpa [Value.cells] using e, h1, h2⟩
set_option maxRecDepth 100000 in
theorem top_strs {r : Reach} {b0 : Nat} {v : Value} {dd : DataW H} {p : List MemPlace} (hw : Value.okWide Tryz.prog w r b0 26 v) (hwt : ∀ k ∈ dd.weights Tryz.prog 26, k ≤ reachBytes) (h : DataW.Trod enc Tryz.prog w base spare held 26 v dd p) : ∃ (l : List ByteArray) (A : Option Addr) (c : Nat), v = .slice A l.length c ∧ l.length ≤ c ∧ Strs w (fun _ => True) A l := by
  obtain ⟨fuel, hf⟩ := h
  obtain ⟨A', n', c', rfl⟩ := okWide_slice Tryz.underlying26 hw
  obtain ⟨l, A, c, e, h1, h2, -⟩ := open_strs Tryz.underlying26 hwt hf
  exact ⟨l, A, c, by simpa [Value.cells] using e, h1, h2⟩
end
end Go.Proofs.YtlkpmbkmmfoakaaGreatDoor
