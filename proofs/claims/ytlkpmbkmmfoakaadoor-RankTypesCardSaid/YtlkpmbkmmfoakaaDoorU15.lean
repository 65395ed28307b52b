/- PARTS OF THE WALKS, joined: RkM, RkN, RkLaidD, RkQ, RkR, RkS. -/
import Derived.Test.YtlkpmbkmmfoakaaDoorU14
import Derived.Test.YtlkpmbkmmfoakaaDoorU07
/- THE WALKS over the law's three, alive, few (chapter 51). -/
namespace Go.Proofs.YtlkpmbkmmfoakaaDoor
open Go.RowKit Go.Sort
def gT : GraphG := ⟨[⟨1, [], []⟩, ⟨2, [], []⟩, ⟨3, [], []⟩], [⟨1, 1, 2, ⟨#[84]⟩, []⟩, ⟨2, 1, 3, ⟨#[84]⟩, []⟩, ⟨3, 2, 3, ⟨#[84]⟩, []⟩], 4, 4⟩
theorem nodeC_lit {W : World} {b o : Nat} {i : Int} (h0 : W.cell? ⟨b, o, none⟩ = some (.int .i64 i)) (h1 : W.cell? ⟨b, o + 1, none⟩ = some (.slice none 0 0)) (h2 : W.cell? ⟨b, o + 2, none⟩ = some (.slice none 0 0)) : NodeC W (fun _ => True) b o ⟨i, [], []⟩ :=
  ⟨trivial, h0, none, 0, none, 0, h1, Nat.le_refl _, SliceR.nil _ _ _, h2, Nat.le_refl _, SliceR.nil _ _ _⟩
theorem edgeC_lit {W : World} {b o : Nat} {i f t : Int} {s : ByteArray} (h0 : W.cell? ⟨b, o, none⟩ = some (.int .i64 i)) (h1 : W.cell? ⟨b, o + 1, none⟩ = some (.int .i64 f)) (h2 : W.cell? ⟨b, o + 2, none⟩ = some (.int .i64 t)) (h3 : W.cell? ⟨b, o + 3, none⟩ = some (.string s)) (h4 : W.cell? ⟨b, o + 4, none⟩ = some (.slice none 0 0)) : EdgeC W (fun _ => True) b o ⟨i, f, t, s, []⟩ :=
  ⟨trivial, h0, h1, h2, h3, none, 0, h4, Nat.le_refl _, SliceR.nil _ _ _⟩
theorem nodes_lit (w : World) (q : Nat) (hq : q = w.heap.size) : Nodes (w.alloc (.cells #[.int .i64 1, .slice none 0 0, .slice none 0 0, .int .i64 2, .slice none 0 0, .slice none 0 0, .int .i64 3, .slice none 0 0, .slice none 0 0] 45)) (fun _ => True) (some ⟨q, 0, none⟩) gT.nodes := by
  subst hq
  refine ⟨by decide, fun _ => ⟨_, _, rfl, fun k hk => ?_⟩⟩
  have h3 : k < 3 := hk
  have hk' : k = 0 ∨ k = 1 ∨ k = 2 := by omega
  rcases hk' with rfl | rfl | rfl <;> exact nodeC_lit (by go_simp) (by go_simp) (by go_simp)
theorem edges_lit (w : World) (q : Nat) (hq : q = w.heap.size) : Edges (w.alloc (.cells #[.int .i64 1, .int .i64 1, .int .i64 2, .string ⟨#[84]⟩, .slice none 0 0, .int .i64 2, .int .i64 1, .int .i64 3, .string ⟨#[84]⟩, .slice none 0 0, .int .i64 3, .int .i64 2, .int .i64 3, .string ⟨#[84]⟩, .slice none 0 0] 55)) (fun _ => True) (some ⟨q, 0, none⟩) gT.edges := by
  subst hq
  refine ⟨by decide, fun _ => ⟨_, _, rfl, fun k hk => ?_⟩⟩
  have h3 : k < 3 := hk
  have hk' : k = 0 ∨ k = 1 ∨ k = 2 := by omega
  rcases hk' with rfl | rfl | rfl <;> exact edgeC_lit (by go_simp) (by go_simp) (by go_simp) (by go_simp) (by go_simp)
set_option maxRecDepth 100000 in
set_option maxHeartbeats 800000 in
theorem l_three (w : World) : Calls Tryd.prog 22 #[] w fun e w' => ∃ A B, e = .returned (.agg #[.slice A 3 3, .slice B 3 3, .int .i64 4, .int .i64 4]) ∧ GraphAt w' (fun _ => True) A B gT ∧ Ext w w' := by
  go_enter Tryd.func22, Tryd.ntmps22
  go_wp2_with fail
  refine bodyPost_ret (v := .agg #[.slice (some ⟨w.heap.size + 1, 0, none⟩) 3 3, .slice (some ⟨w.heap.size + 1 + 1, 0, none⟩) 3 3, .int .i64 4, .int .i64 4]) (by simp [results, Tryd.results22, go_sem]) rfl ⟨_, _, rfl, ⟨(nodes_lit _ _ (by simp)).ext ((Ext.refl _).alloc _), edges_lit _ _ (by simp)⟩, (((Ext.refl _).alloc _).alloc _).alloc _⟩
def sT : List Sh := [⟨1, 1, 3⟩, ⟨2, 1, 3⟩, ⟨3, 1, 3⟩]
def lT : List Sh := [⟨1, 2, 9⟩, ⟨2, 11, 36⟩, ⟨3, 17, 36⟩]
theorem chk_T : chkG gT = 0 := by decide +kernel
theorem start_T : startR gT = sT := by rw [startR_ok chk_T]; rfl
theorem step_T : stepP gT [] (1, 2) sT = (lT, 0) := by decide +kernel
theorem run_T : runP gT [] (1, 2) 9 = ([], 1) := runP_arg chk_T (by decide)
theorem tot_T : totV lT = (1, 1, true) := by decide +kernel
theorem top_T : topI lT = [3, 2, 1] := (topI_of (m := lT.reverse) (List.reverse_perm _) (by decide +kernel)).symm
section
variable (W : World) (A B : Option Addr)
theorem t_Start (h : GraphAt W (fun _ => True) A B gT) : Calls Tryd.prog 19 #[.agg #[.slice A 3 3, .slice B 3 3, .int .i64 4, .int .i64 4]] W fun e w' => ∃ A' c', e = .returned (.slice A' 3 c') ∧ Shares w' (fun _ => True) A' sT ∧ Ext W w' :=
  (rk_Start gT (fun _ => True) A B 3 3 W h).mono fun e w' ⟨A', c', h1, _, h3, h4⟩ => by
    rw [start_T] at h1 h3
    exact ⟨A', c', h1, h3.keep (fun _ _ _ _ hc => ⟨hc, trivial⟩), h4⟩
theorem t_Step (hz : ZeroAt W) (S : Option Addr) (f : Nat) (h : GraphAt W (fun _ => True) A B gT) (hs : Shares W (fun _ => True) S sT) : Calls Tryd.prog 20 #[.agg #[.slice A 3 3, .slice B 3 3, .int .i64 4, .int .i64 4], .slice none 0 0, .agg #[.int .i64 1, .int .i64 2], .slice S 3 f] W fun e w' => ∃ A' c', e = .returned (.tuple #[.slice A' 3 c', .int .i64 0]) ∧ Shares w' (fun _ => True) A' lT ∧ Ext W w' :=
  (rk_Step gT [] (1, 2) sT (fun _ => True) (fun _ => True) (fun _ => True) A B none S 3 3 0 f W hz h (SliceR.nil _ _ _) hs).mono fun e w' h => by
    rw [step_T] at h
    obtain ⟨⟨A', c', h1, _, h3⟩, h4⟩ := h
    exact ⟨A', c', h1, h3.keep (fun _ _ _ _ hc => ⟨hc, trivial⟩), h4⟩
theorem t_Run (hz : ZeroAt W) (h : GraphAt W (fun _ => True) A B gT) : Calls Tryd.prog 13 #[.agg #[.slice A 3 3, .slice B 3 3, .int .i64 4, .int .i64 4], .slice none 0 0, .agg #[.int .i64 1, .int .i64 2], .int .i64 9] W fun e w' => ∃ A' c', e = .returned (.tuple #[.slice A' 0 c', .int .i64 1]) ∧ Ext W w' :=
  (rk_Run gT [] (1, 2) 9 (fun _ => True) (fun _ => True) A B none 3 3 0 W hz h (SliceR.nil _ _ _)).mono fun e w' h => by
    rw [run_T] at h
    obtain ⟨⟨A', c', h1, _, _⟩, h4⟩ := h
    exact ⟨A', c', h1, h4⟩
theorem t_Total (hz : ZeroAt W) (f : Nat) (hs : Shares W (fun _ => True) A lT) : Calls Tryd.prog 8 #[.slice A 3 f] W fun e w' => e = .returned (.tuple #[.agg #[.int .i64 1, .int .i64 1], .bool true]) ∧ Ext W w' :=
  (rk_Total lT (fun _ => True) A f W hz hs (by decide)).mono fun e w' ⟨h1, h2⟩ => by
    rw [tot_T] at h1
    exact ⟨h1, h2⟩
theorem t_Top (hz : ZeroAt W) (f : Nat) (hs : Shares W (fun _ => True) A lT) : Calls Tryd.prog 10 #[.slice A 3 f] W fun e w' => ∃ b o c', e = .returned (.slice (some ⟨b, o, none⟩) 3 c') ∧ w'.cell? ⟨b, o, none⟩ = some (.int .i64 3) ∧ w'.cell? ⟨b, o + 2, none⟩ = some (.int .i64 1) ∧ Ext W w' :=
  (rk_TopS lT (fun _ => True) A f W hz hs (by decide)).mono fun e w' ⟨A', c', h1, _, h3, h4⟩ => by
    rw [top_T] at h1 h3
    obtain ⟨b, o, rfl, hc⟩ := h3.2 (by decide)
    exact ⟨b, o, c', h1, (hc 0 (by decide)).2, (hc 2 (by decide)).2, h4⟩
end
theorem shs_at {W : World} {ok : Nat → Prop} {A : Option Addr} {l : List Sh} (h : Shares W ok A l) (hn : 0 < l.length) : ∃ b o, A = some ⟨b, o, none⟩ ∧ ∀ k, k < l.length → W.cell? ⟨b, o + k * 3, none⟩ = some (.int .i64 l[k]!.id) ∧ W.cell? ⟨b, o + k * 3 + 1, none⟩ = some (.int .i64 l[k]!.n) ∧ W.cell? ⟨b, o + k * 3 + 2, none⟩ = some (.int .i64 l[k]!.d) := by
  obtain ⟨b, o, rfl, hc⟩ := h.at_ hn
  exact ⟨b, o, rfl, fun k hk => (hc k hk).2⟩
set_option maxRecDepth 100000 in
set_option maxHeartbeats 3200000 in
theorem l_alive (w : World) (hz : ZeroAt w) : Calls Tryd.prog 7 #[] w fun e w' => e = .returned (.bool true) ∧ Ext w w' := by
  have HZ := Lib.hid hz
  clear hz
  go_enter Tryd.func7, Tryd.ntmps7
  go_wp2_with fail
  refine (l_three w).mono ?_
  rintro e w1 ⟨A1, B1, rfl, hG1, x1⟩
  go_wp2_with fail
  refine (t_Start w1 A1 B1 hG1).mono ?_
  rintro e w2 ⟨S2, c2, rfl, hS2, x2⟩
  go_wp2_with fail
  refine (l_three w2).mono ?_
  rintro e w3 ⟨A3, B3, rfl, hG3, x3⟩
  go_wp2_with fail
  refine (t_Step w3 A3 B3 (HZ.out.ext (x1.trans (x2.trans x3))) S2 c2 hG3 (hS2.ext x3)).mono ?_
  rintro e w4 ⟨S4, c4, rfl, hS4, x4⟩
  go_wp2_with fail
  refine (l_three w4).mono ?_
  rintro e w5 ⟨A5, B5, rfl, hG5, x5⟩
  go_wp2_with fail
  refine (t_Run w5 A5 B5 (HZ.out.ext (x1.trans (x2.trans (x3.trans (x4.trans x5))))) hG5).mono ?_
  rintro e w6 ⟨S6, c6, rfl, x6⟩
  go_wp2_with fail
  have x06 := x1.trans (x2.trans (x3.trans (x4.trans (x5.trans x6))))
  refine (t_Total w6 S4 (HZ.out.ext x06) c4 (hS4.ext (x5.trans x6))).mono ?_
  rintro e w7 ⟨rfl, x7⟩
  obtain ⟨q, w8, hq, hw8, q0, q1, -, -, x8⟩ := box_frac w7 1 1 25
  go_upto_region 5 with (fail)
  rw [← hw8, ← hq]
  clear hq hw8
  go_wp2_with fail
  refine (t_Top w8 S4 (HZ.out.ext (x06.trans (x7.trans x8))) c4 (hS4.ext (x5.trans (x6.trans (x7.trans x8))))).mono ?_
  rintro e w9 ⟨b9, o9, c9, rfl, t0, t2, x9⟩
  have x09 := x06.trans (x7.trans (x8.trans x9))
  obtain ⟨b2, o2, rfl, k2⟩ := shs_at (hS2.ext (x3.trans (x4.trans (x5.trans (x6.trans (x7.trans (x8.trans x9))))))) (by decide)
  obtain ⟨b4, o4, rfl, k4⟩ := shs_at (hS4.ext (x5.trans (x6.trans (x7.trans (x8.trans x9))))) (by decide)
  replace q0 := x9.cell q0
  replace q1 := x9.cell q1
  have a1 := (k2 1 (by decide)).2
  have a2 := (k4 0 (by decide)).2
  have a3 := (k4 1 (by decide)).2
  have a4 := (k4 2 (by decide)).2
  change w9.cell? ⟨b2, o2 + 3 + 1, none⟩ = some (.int .i64 1) ∧ w9.cell? ⟨b2, o2 + 3 + 2, none⟩ = some (.int .i64 3) at a1
  change w9.cell? ⟨b4, o4 + 1, none⟩ = some (.int .i64 2) ∧ w9.cell? ⟨b4, o4 + 2, none⟩ = some (.int .i64 9) at a2
  change w9.cell? ⟨b4, o4 + 3 + 1, none⟩ = some (.int .i64 11) ∧ w9.cell? ⟨b4, o4 + 3 + 2, none⟩ = some (.int .i64 36) at a3
  change w9.cell? ⟨b4, o4 + 6 + 1, none⟩ = some (.int .i64 17) ∧ w9.cell? ⟨b4, o4 + 6 + 2, none⟩ = some (.int .i64 36) at a4
  obtain ⟨a10, a11⟩ := a1
  obtain ⟨a20, a21⟩ := a2
  obtain ⟨a30, a31⟩ := a3
  obtain ⟨a40, a41⟩ := a4
  clear k2 k4 hS2 hS4 hG1 hG3 hG5 x1 x2 x3 x4 x5 x6 x7 x8 x9 x06 HZ
  go_wp2_with fail
  go_ret
  exact ⟨rfl, x09⟩
end Go.Proofs.YtlkpmbkmmfoakaaDoor

/- THE WALKS over the law's few, RankStep, RankRun (chapter 51). -/
namespace Go.Proofs.YtlkpmbkmmfoakaaDoor
open Go.RowKit Go.Sort
def fewB (g : GraphG) (m : Nat) : Bool := decide (g.nodes.length ≤ 30) && decide (g.edges.length ≤ 60) && decide (m ≤ 20)
set_option maxRecDepth 100000 in
theorem l_few (g : GraphG) (m : Nat) (A B T : Option Addr) (c d e : Nat) (w : World) (hm : g.nodes.length ≤ 140737488355328 ∧ g.edges.length ≤ 140737488355328 ∧ m ≤ 140737488355328) :
    Calls Tryd.prog 12 #[.agg #[.slice A g.nodes.length c, .slice B g.edges.length d, .int .i64 g.nn, .int .i64 g.ne], .slice T m e] w fun e' w' => e' = .returned (.bool (fewB g m)) ∧ Ext w w' := by
  have HV := Lib.hid (show fewB g m = (decide (g.nodes.length ≤ 30) && decide (g.edges.length ≤ 60) && decide (m ≤ 20)) from rfl)
  obtain ⟨m1, m2, m3⟩ := hm
  generalize fewB g m = b at *
  by_cases h1 : g.nodes.length ≤ 30
  · have q1 : decide ((g.nodes.length : Int) ≤ 30) = true := decide_eq_true (by omega)
    by_cases h2 : g.edges.length ≤ 60
    · have q2 : decide ((g.edges.length : Int) ≤ 60) = true := decide_eq_true (by omega)
      have HB := Lib.hid (show b = decide ((m : Int) ≤ 20) by rw [HV.out, decide_eq_true h1, decide_eq_true h2, Bool.true_and, Bool.true_and]; by_cases h : m ≤ 20 <;> simp [h] <;> omega)
      clear HV h1 h2
      go_enter Tryd.func12, Tryd.ntmps12
      go_wp2
      all_goals
        go_ret
        exact ⟨ret_bool HB.out.symm, (Ext.refl _).alloc _⟩
    · have q2 : decide ((g.edges.length : Int) ≤ 60) = false := decide_eq_false (by omega)
      have HB := Lib.hid (show b = false by rw [HV.out, decide_eq_false h2, Bool.and_false, Bool.false_and])
      clear HV h1 h2
      go_enter Tryd.func12, Tryd.ntmps12
      go_wp2
      go_ret
      exact ⟨ret_bool HB.out.symm, (Ext.refl _).alloc _⟩
  · have q1 : decide ((g.nodes.length : Int) ≤ 30) = false := decide_eq_false (by omega)
    have HB := Lib.hid (show b = false by rw [HV.out, decide_eq_false h1, Bool.false_and, Bool.false_and])
    clear HV h1
    go_enter Tryd.func12, Tryd.ntmps12
    go_wp2
    go_ret
    exact ⟨ret_bool HB.out.symm, (Ext.refl _).alloc _⟩
theorem same_self (a : List Sh) (ok ok' : Nat → Prop) (A B : Option Addr) (c d : Nat) (w : World) (ha : Shares w ok A a) (hb : Shares w ok' B a) :
    Calls Tryd.prog 21 #[.slice A a.length c, .slice B a.length d] w fun e w' => e = .returned (.bool true) ∧ Ext w w' :=
  (r51_Same a a ok ok' A B c d w ha hb).mono fun e w' ⟨h1, h2⟩ => ⟨by rw [h1, decide_eq_true rfl], h2⟩
end Go.Proofs.YtlkpmbkmmfoakaaDoor

/- WHAT THE ROWS OF CHAPTER 51 LIST; fractions and shares that come in. -/
namespace Go.Proofs.YtlkpmbkmmfoakaaDoor
open Go.ChangeShapes Go.WideShapes Go.ChangeAt Go.RowKit
open Go.ChangeMaps (open_string shut_string)
theorem gZero : Tryd.prog.globalNamed "graphdb/frac.zero" = some 0 := by kernel_rfl
theorem gZeroType : (Tryd.prog.globals[0]?).map (·.type) = some 25 := by kernel_rfl
theorem cellsFrac : Tryd.prog.cellsOf 25 = 2 := by kernel_rfl
abbrev laidList : List (String × DataW Unit) := Rows.rankReadsRow.laid
theorem zero_of {W : World} (h : laidMetH Tryd.prog laidList W) : ZeroAt W := by
  have h0 : laidMet Tryd.prog laidList W := h
  obtain ⟨ps, ⟨g', t', cs, fuel, p, q, hg', ht', hvar, hd, -, -⟩, -⟩ := h0
  obtain rfl := Option.some.inj (gZero.symm.trans hg')
  obtain rfl := Option.some.inj (gZeroType.symm.trans ht')
  obtain ⟨y0, y1, n, hx, hl, h0, h1⟩ := trod_struct2 Tryd.underlying25 hd
  rw [cellsFrac] at hl
  obtain ⟨c0, c1, rfl⟩ := Joins.array2 (show cs.size = 2 by simpa using hl)
  obtain ⟨a, e0, x0, -⟩ := DataW.trod_int (k := .i64) Tryd.underlying3 h0
  obtain ⟨b, e1, x1, -⟩ := DataW.trod_int (k := .i64) Tryd.underlying3 h1
  rw [x0, x1] at hx
  simp only [Rows.laid_graphdb_frac_zero, Prod.mk.injEq, DataW.agg.injEq, List.cons.injEq, DataW.lit.injEq, Lit.int.injEq] at hx
  have k0 : c0 = .int .i64 a := by simpa [show Tryd.prog.cellsOf 3 = 1 from by kernel_rfl] using e0
  have k1 : c1 = .int .i64 b := by simpa [show Tryd.prog.cellsOf 3 = 1 from by kernel_rfl] using e1
  have ha : (0 : Int) = a := hx.1.1.2
  have hb : (1 : Int) = b := hx.1.2.1.2
  subst ha hb k0 k1
  have z0 := World.var?_cell gZero hvar 0
  have z1 := World.var?_cell gZero hvar 1
  refine ⟨z0, z1, ?_⟩
  unfold World.var? at hvar
  rw [gZero] at hvar
  rcases Nat.lt_or_ge 0 W.heap.size with k | k
  · exact k
  · simp only [Option.bind_some, Array.getElem?_eq_none k] at hvar; cases hvar
/-- The laid heap meets the condition. -/
theorem door_met (os : Os) (args : Array Value) : laidMetH Tryd.prog laidList ((World.laidAll Tryd.prog os laidList).forCall (fun _ _ => 0) ⟨#[], args, []⟩).memory := by
  rw [MakeChecks.laidMetH_plain _ _ _ (by kernel_rfl)]
  exact laidMet_laidAll _ (by kernel_rfl) (by kernel_rfl)
section
variable {H : Type} {enc : TypeId × Value → H} {w : World} {base : Nat} {spare : Nat → Bool} {held : Bool}
theorem open_frac {fuel : Nat} {cs : List Value} {x : DataW H × List MemPlace} (h : DataW.trod enc Tryd.prog w base spare held fuel 25 cs = some x) : ∃ a b : Int, cs = [.int .i64 a, .int .i64 b] := by
  obtain ⟨xs, m, hm, hxx, hl, hlen, hg⟩ := DataW.trod_struct Tryd.underlying25 h
  rw [cellsFrac] at hl
  obtain ⟨c0, c1, rfl⟩ := twoL hl
  obtain ⟨y0, y1, rfl⟩ := twoL (show xs.length = 2 from hlen)
  have g0 : DataW.trod enc Tryd.prog w base spare held m 3 (([c0, c1].drop 0).take (Tryd.prog.cellsOf 3)) = some y0 := hg 0 _ rfl
  rw [cellsInt] at g0
  have g1 : DataW.trod enc Tryd.prog w base spare held m 3 (([c0, c1].drop 1).take (Tryd.prog.cellsOf 3)) = some y1 := hg 1 _ rfl
  rw [cellsInt] at g1
  obtain ⟨k0, e0, -, -⟩ := DataW.trod_int (k := .i64) Tryd.underlying3 g0
  obtain ⟨k1, e1, -, -⟩ := DataW.trod_int (k := .i64) Tryd.underlying3 g1
  cases e0; cases e1
  exact ⟨k0, k1, rfl⟩
set_option maxRecDepth 100000 in
theorem top_frac {r : Reach} {b0 : Nat} {v : Value} {dd : DataW H} {p : List MemPlace} (hv : Value.okWide Tryd.prog w r b0 25 v) (h : DataW.Trod enc Tryd.prog w base spare held 25 v dd p) : ∃ a b : Int, v = .agg #[.int .i64 a, .int .i64 b] := by
  obtain ⟨csa, rfl, -⟩ := okWide_struct Tryd.underlying25 hv
  obtain ⟨fuel, hf⟩ := h
  obtain ⟨cs, rfl⟩ : ∃ cs : List Value, csa = cs.toArray := ⟨csa.toList, by simp⟩
  obtain ⟨a, b, rfl⟩ := open_frac (cs := cs) (by simpa [Value.cells] using hf)
  exact ⟨a, b, rfl⟩
set_option maxRecDepth 100000 in
theorem top_strs {r : Reach} {b0 : Nat} {v : Value} {dd : DataW H} {p : List MemPlace} (hw : Value.okWide Tryd.prog w r b0 35 v) (hwt : ∀ k ∈ dd.weights Tryd.prog 35, k ≤ reachBytes) (h : DataW.Trod enc Tryd.prog w base spare held 35 v dd p) : ∃ (l : List ByteArray) (A : Option Addr) (c : Nat), v = .slice A l.length c ∧ l.length ≤ c ∧ Strs w (fun _ => True) A l := by
  obtain ⟨fuel, hf⟩ := h
  obtain ⟨A', n', c', rfl⟩ := okWide_slice Tryd.underlying35 hw
  obtain ⟨l, A, c, e, h1, h2, -⟩ := open_strs Tryd.underlying35 hwt hf
  exact ⟨l, A, c, by simpa [Value.cells] using e, h1, h2⟩
end
end Go.Proofs.YtlkpmbkmmfoakaaDoor

/- PLAIN LAWS of chapter 51: edges left out; edges of other types. -/
namespace Go.Proofs.YtlkpmbkmmfoakaaDoor
open Go.RowKit
def okE (g : GraphG) (e : EdgeG) : Prop := 1 ≤ e.id ∧ e.id < g.ne ∧ (hasN g.nodes e.frm && hasN g.nodes e.to_) = true ∧ nameB e.typ = true ∧ partsE [] e.props = 0
theorem edge_parts {g : GraphG} {i : Nat} (h : edgeE g i = 0) : okE g g.edges[i]! ∧ (0 < i → g.edges[i - 1]!.id < g.edges[i]!.id) := by
  unfold edgeE at h
  split at h
  · cases h
  · rename_i h1
    split at h
    · cases h
    · rename_i h2
      split at h
      · rename_i h3
        split at h
        · rename_i h4
          exact ⟨⟨by omega, by omega, h3, h4, h⟩, fun hp => by omega⟩
        · cases h
      · cases h
theorem edge_whole {g : GraphG} {i : Nat} (h : okE g g.edges[i]!) (h2 : 0 < i → g.edges[i - 1]!.id < g.edges[i]!.id) : edgeE g i = 0 := by
  obtain ⟨a, b, c, d, e⟩ := h
  unfold edgeE
  rw [if_neg (fun hh => by have := h2 hh.1; omega), if_neg (by omega), if_pos c, if_pos d, e]
theorem edges_parts {g : GraphG} (h : edgesE g = 0) : (∀ e ∈ g.edges, okE g e) ∧ g.edges.Pairwise (fun a b => a.id < b.id) := by
  have h1 := firstE_all h
  refine ⟨fun e he => ?_, ?_⟩
  · obtain ⟨i, hi, rfl⟩ := List.getElem_of_mem he
    have := (edge_parts (h1 i hi)).1
    rwa [getElem!_pos g.edges i hi] at this
  · rw [List.pairwise_iff_getElem]
    intro i j hi hj hij
    induction j with
    | zero => omega
    | succ j ih =>
      have h2 := (edge_parts (h1 (j + 1) hj)).2 (by omega)
      rw [Nat.add_sub_cancel, getElem!_pos g.edges j (by omega), getElem!_pos g.edges (j + 1) hj] at h2
      rcases Nat.lt_or_eq_of_le (Nat.le_of_lt_succ hij) with h3 | h3
      · have := ih (by omega) h3; omega
      · subst h3; exact h2
theorem edges_whole {g : GraphG} (h : ∀ e ∈ g.edges, okE g e) (h2 : g.edges.Pairwise (fun a b => a.id < b.id)) : edgesE g = 0 := by
  refine firstE_zero (fun i hi => edge_whole ?_ (fun hp => ?_))
  · rw [getElem!_pos g.edges i hi]; exact h _ (List.getElem_mem hi)
  · rw [getElem!_pos g.edges i hi, getElem!_pos g.edges (i - 1) (by omega)]
    exact List.pairwise_iff_getElem.1 h2 (i - 1) i (by omega) hi (by omega)
/-- a graph with fewer edges -/
def lessG (g : GraphG) (p : EdgeG → Bool) : GraphG := { g with edges := g.edges.filter p }
theorem chk_less {g : GraphG} {p : EdgeG → Bool} (h : chkG g = 0) : chkG (lessG g p) = 0 := by
  obtain ⟨hn, he⟩ := chkG_parts h
  have hh : headE g = 0 := by
    unfold chkG at h
    split at h
    · assumption
    · rename_i h1; exact absurd h h1
  have hh' : headE (lessG g p) = 0 := by
    unfold headE at hh ⊢
    have hl : (lessG g p).edges.length ≤ g.edges.length := List.length_filter_le _ _
    split at hh
    · cases hh
    · rename_i h1
      split at hh
      · cases hh
      · rename_i h2
        rw [if_neg (fun hx => h1 (hx.imp (fun h => h) (fun h => by omega)))]; exact if_neg h2
  have hn' : nodesE (lessG g p) = 0 := hn
  obtain ⟨h1, h2⟩ := edges_parts he
  unfold chkG
  rw [if_pos hh', if_pos hn']
  exact edges_whole (fun e h => h1 e (List.mem_filter.1 h).1) (h2.filter _)
theorem start_less {g : GraphG} {p : EdgeG → Bool} (h : chkG g = 0) : startR (lessG g p) = startR g := by rw [startR_ok (chk_less h), startR_ok h]; rfl
section
variable {g : GraphG} {typ : ByteArray} {damp : Fr} {l : List Sh}
def ofT (typ : ByteArray) (e : EdgeG) : Bool := typB [typ] e.typ
theorem typB_nil (t : ByteArray) : typB [] t = true := rfl
theorem deg_less (E : List EdgeG) (i : Int) : degN [] (E.filter (ofT typ)) i = degN [typ] E i := by
  unfold degN
  rw [List.filter_filter]
  congr 1
  refine List.filter_congr (fun e _ => ?_)
  rw [typB_nil, Bool.and_true]; rfl
theorem in_less (d : Int → Nat) (E : List EdgeG) (i : Int) : inO [] d l (E.filter (ofT typ)) i = inO [typ] d l E i := by
  unfold inO
  rw [List.foldl_filter]
  congr 1
  funext a e
  unfold inStep ofT
  rw [typB_nil]
  by_cases h1 : typB [typ] e.typ = true
  · rw [if_pos h1]
    by_cases h2 : e.to_ = i
    · rw [if_pos ⟨h2, rfl⟩, if_pos ⟨h2, h1⟩]
    · rw [if_neg (fun h => h2 h.1), if_neg (fun h => h2 h.1)]
  · rw [if_neg h1, if_neg (fun h => h1 h.2)]
theorem stepR_less (E : List EdgeG) (nn : Int) : stepR [] (E.filter (ofT typ)) damp l nn = stepR [typ] E damp l nn := by
  unfold stepR
  have hd : (fun i => degN [] (E.filter (ofT typ)) i) = (fun i => degN [typ] E i) := funext (deg_less E)
  rw [hd]
  congr 1
  funext r
  congr 1
  funext b
  congr 1
  funext s
  rw [in_less]
theorem stepP_less (h : chkG g = 0) : stepP (lessG g (ofT typ)) [] damp l = stepP g [typ] damp l := by
  have h' := chk_less (p := ofT typ) h
  by_cases h1 : (dampB damp && fitsB g l) = true
  · have h1' : (dampB damp && fitsB (lessG g (ofT typ)) l) = true := h1
    by_cases h2 : l.length = 0
    · rw [stepP_nil h h1 h2, stepP_nil h' h1' h2]
    · rw [stepP_on h h1 h2, stepP_on h' h1' h2]
      have h3 : stepR [] (lessG g (ofT typ)).edges damp l ((lessG g (ofT typ)).nodes.length : Int) = stepR [typ] g.edges damp l (g.nodes.length : Int) := stepR_less _ _
      rw [h3]
  · have h1a : (dampB damp && fitsB g l) = false := by simpa using h1
    have h1' : (dampB damp && fitsB (lessG g (ofT typ)) l) = false := h1a
    rw [stepP_arg h h1a, stepP_arg h' h1']
theorem runK_less (h : chkG g = 0) : ∀ k, runK (lessG g (ofT typ)) [] damp k = runK g [typ] damp k
  | 0 => by rw [runK, runK, start_less h]
  | k + 1 => by rw [runK, runK, runK_less h k, stepP_less h]
theorem runP_less (h : chkG g = 0) (k : Int) : runP (lessG g (ofT typ)) [] damp k = runP g [typ] damp k := by
  have h' := chk_less (p := ofT typ) h
  unfold runP
  rw [if_pos h, if_pos h', runK_less h]
end
end Go.Proofs.YtlkpmbkmmfoakaaDoor

/- PLAIN: FRACTIONS AS RATIONAL NUMBERS; sums over lists. -/
namespace Go.Proofs.YtlkpmbkmmfoakaaDoor
open Go.RowKit
def qv (f : Fr) : Rat := (f.1 : Rat) / (f.2 : Rat)
def okF (f : Fr) : Prop := validB f.1 f.2 = true
theorem okF.pos {f : Fr} (h : okF f) : 1 ≤ f.2 := (validB_iff.1 h).1
theorem int_ne {d : Int} (h : 1 ≤ d) : (d : Rat) ≠ 0 := fun e => by
  have : (d : Rat) = ((0 : Int) : Rat) := e
  rw [Rat.intCast_inj] at this; omega
theorem int_pos {d : Int} (h : 1 ≤ d) : (0 : Rat) < (d : Rat) := by
  have : ((0 : Int) : Rat) < (d : Rat) := Rat.intCast_lt_intCast.2 (by omega)
  exact this
theorem q_eq {n d N D : Int} (hd : 1 ≤ d) (hD : 1 ≤ D) (h : n * D = N * d) : (n : Rat) / (d : Rat) = (N : Rat) / (D : Rat) := by
  have h1 : (n : Rat) * (D : Rat) = (N : Rat) * (d : Rat) := by rw [← Rat.intCast_mul, ← Rat.intCast_mul, h]
  have h2 := int_ne hd
  have h3 := int_ne hD
  grind
theorem addO_ok {a b c : Fr} (h : addO a b = some c) : okF a ∧ okF b ∧ okF c ∧ qv c = qv a + qv b := by
  unfold addO at h
  split at h
  · rename_i h1
    have hab : validB a.1 a.2 = true ∧ validB b.1 b.2 = true := by
      unfold addS at h1
      split at h1
      · rename_i h2; rwa [Bool.and_eq_true] at h2
      · cases h1
    have hr := addS_valid hab.1 hab.2
    injection h with h
    have ha := okF.pos hab.1
    have hb := okF.pos hab.2
    have hD : 1 ≤ a.2 * b.2 := pos_mul ha hb
    have hk : redS (a.1 * b.2 + b.1 * a.2) (a.2 * b.2) = (c.1, c.2, true) := by
      rw [← hr, ← h]
      exact Prod.ext rfl (Prod.ext rfl h1)
    obtain ⟨hv, he⟩ := redS_ok hD hk
    refine ⟨hab.1, hab.2, hv, ?_⟩
    unfold qv
    rw [q_eq (okF.pos hv) hD he]
    have h2 := int_ne ha
    have h3 := int_ne hb
    simp only [Rat.intCast_add, Rat.intCast_mul]
    grind
  · cases h
theorem mulO_ok {a b c : Fr} (h : mulO a b = some c) : okF a ∧ okF b ∧ okF c ∧ qv c = qv a * qv b := by
  unfold mulO at h
  split at h
  · rename_i h1
    have hab : validB a.1 a.2 = true ∧ validB b.1 b.2 = true := by
      unfold mulS at h1
      split at h1
      · rename_i h2; rwa [Bool.and_eq_true] at h2
      · cases h1
    have hr := mulS_valid hab.1 hab.2
    injection h with h
    have ha := okF.pos hab.1
    have hb := okF.pos hab.2
    have hD : 1 ≤ a.2 * b.2 := pos_mul ha hb
    have hk : redS (a.1 * b.1) (a.2 * b.2) = (c.1, c.2, true) := by
      rw [← hr, ← h]
      exact Prod.ext rfl (Prod.ext rfl h1)
    obtain ⟨hv, he⟩ := redS_ok hD hk
    refine ⟨hab.1, hab.2, hv, ?_⟩
    unfold qv
    rw [q_eq (okF.pos hv) hD he]
    have h2 := int_ne ha
    have h3 := int_ne hb
    simp only [Rat.intCast_mul]
    grind
  · cases h
theorem divO_ok {a c : Fr} {m : Int} (hm : 0 ≤ m) (h : divO a (m, 1) = some c) : 1 ≤ m ∧ okF a ∧ okF c ∧ qv c = qv a / (m : Rat) := by
  unfold divO at h
  split at h
  · rename_i h1
    have hmm : 1 ≤ m := by
      unfold divS at h1
      split at h1
      · rename_i h2
        rw [Bool.and_eq_true] at h2
        have := bne_iff_ne.1 h2.2
        omega
      · cases h1
    have hd : divS a.1 a.2 m 1 = mulS a.1 a.2 1 m := by
      unfold divS at h1 ⊢
      split at h1
      · rename_i h2
        rw [if_pos h2, if_neg (by omega)]
      · cases h1
    have h3 : mulO a (1, m) = some c := by
      unfold mulO
      dsimp only at h h1
      rw [hd] at h h1
      dsimp only
      rw [if_pos h1]; exact h
    obtain ⟨k1, k2, k3, k4⟩ := mulO_ok h3
    refine ⟨hmm, k1, k3, ?_⟩
    rw [k4]
    unfold qv
    have h4 := int_ne hmm
    have h5 := int_ne k1.pos
    have h6 : ((1 : Int) : Rat) = 1 := rfl
    dsimp only
    rw [h6]
    grind
  · cases h
theorem validB_neg (n d : Int) : validB (-n) d = validB n d := by
  unfold validB cgcd inB
  rw [Int.natAbs_neg]
  congr 2
  rw [Bool.eq_iff_iff]
  simp
  omega
theorem subO_ok {a b c : Fr} (h : subO a b = some c) : okF a ∧ okF b ∧ okF c ∧ qv c = qv a - qv b := by
  have h2 : addO a (-b.1, b.2) = some c := h
  obtain ⟨k1, k2, k3, k4⟩ := addO_ok h2
  have k5 : okF b := by unfold okF at k2 ⊢; rwa [validB_neg] at k2
  refine ⟨k1, k5, k3, ?_⟩
  rw [k4]
  unfold qv
  have h5 := int_ne k5.pos
  dsimp only
  rw [Rat.intCast_neg]
  grind
/-- sums -/
def sQ {α : Type} (f : α → Rat) : List α → Rat
  | [] => 0
  | x :: l => f x + sQ f l
section
variable {α β : Type} {f g : α → Rat}
theorem sQ_add (l : List α) : sQ (fun x => f x + g x) l = sQ f l + sQ g l := by
  induction l with
  | nil => rw [sQ, sQ, sQ]; grind
  | cons x l ih => rw [sQ, sQ, sQ, ih]; grind
theorem sQ_mul (c : Rat) (l : List α) : sQ (fun x => c * f x) l = c * sQ f l := by
  induction l with
  | nil => rw [sQ, sQ]; grind
  | cons x l ih => rw [sQ, sQ, ih]; grind
theorem sQ_const (c : Rat) (l : List α) : sQ (fun _ => c) l = ((l.length : Int) : Rat) * c := by
  induction l with
  | nil => rw [sQ]; have : (((([] : List α).length : Nat) : Int) : Rat) = 0 := rfl; rw [this]; grind
  | cons x l ih =>
    rw [sQ, ih, List.length_cons]
    have : (((l.length + 1 : Nat) : Int) : Rat) = ((l.length : Int) : Rat) + 1 := by rw [Int.natCast_add, Rat.intCast_add]; rfl
    rw [this]; grind
theorem sQ_congr {l : List α} (h : ∀ x ∈ l, f x = g x) : sQ f l = sQ g l := by
  induction l with
  | nil => rfl
  | cons x l ih => rw [sQ, sQ, h x (by simp), ih (fun y hy => h y (by simp [hy]))]
theorem sQ_zero {l : List α} (h : ∀ x ∈ l, f x = 0) : sQ f l = 0 := by
  induction l with
  | nil => rfl
  | cons x l ih => rw [sQ, h x (by simp), ih (fun y hy => h y (by simp [hy]))]; grind
theorem sQ_nonneg {l : List α} (h : ∀ x ∈ l, 0 ≤ f x) : 0 ≤ sQ f l := by
  induction l with
  | nil => rw [sQ]; grind
  | cons x l ih =>
    rw [sQ]
    have h1 := h x (by simp)
    have h2 := ih (fun y hy => h y (by simp [hy]))
    grind
theorem sQ_swap (F : α → β → Rat) (l : List α) (E : List β) : sQ (fun x => sQ (fun e => F x e) E) l = sQ (fun e => sQ (fun x => F x e) l) E := by
  induction l with
  | nil => rw [sQ]; exact (sQ_zero (fun _ _ => rfl)).symm
  | cons x l ih =>
    rw [sQ, ih, ← sQ_add]
    exact sQ_congr (fun e _ => by rw [sQ])
theorem sQ_map (h : β → α) (l : List β) : sQ f (l.map h) = sQ (fun x => f (h x)) l := by
  induction l with
  | nil => rfl
  | cons x l ih => rw [List.map_cons, sQ, sQ, ih]
end
end Go.Proofs.YtlkpmbkmmfoakaaDoor

/- PLAIN LAW: a step keeps the sum of the shares; every share is at least the base. -/
namespace Go.Proofs.YtlkpmbkmmfoakaaDoor
open Go.RowKit
def qs (x : Sh) : Rat := qv (x.n, x.d)
def okS (x : Sh) : Prop := okF (x.n, x.d)
theorem qv_one : qv (1, 1) = 1 := by unfold qv; show ((1 : Int) : Rat) / ((1 : Int) : Rat) = 1; have : ((1 : Int) : Rat) = 1 := rfl; rw [this]; grind
theorem qv_zero : qv (0, 1) = 0 := by unfold qv; show ((0 : Int) : Rat) / ((1 : Int) : Rat) = 0; have : ((0 : Int) : Rat) = 0 := rfl; rw [this]; grind
theorem okF_zero : okF (0, 1) := by unfold okF; decide
section
variable {types : List ByteArray} {E : List EdgeG} {l : List Sh} {d : Int → Nat}
theorem rest_aux : ∀ (l : List Sh) (a s : Fr), okF a → l.foldl (restStep d) (some a) = some s → okF s ∧ qv s = qv a + sQ (fun x => if d x.id = 0 then qs x else 0) l
  | [], a, s, ha, h => by
    injection h with h
    subst h
    exact ⟨ha, by rw [sQ]; grind⟩
  | x :: l, a, s, ha, h => by
    rw [List.foldl_cons] at h
    unfold restStep at h
    by_cases h0 : d x.id = 0
    · rw [if_pos h0, Option.bind_some] at h
      cases h1 : addO a (x.n, x.d) with
      | none =>
        rw [h1] at h
        have : ∀ l' : List Sh, l'.foldl (restStep d) none = none := fun l' => by
          induction l' with
          | nil => rfl
          | cons x r ih => rw [List.foldl_cons, restStep_none]; exact ih
        have h2 := this l
        unfold restStep at h2
        rw [h2] at h; cases h
      | some b =>
        rw [h1] at h
        obtain ⟨-, -, k3, k4⟩ := addO_ok h1
        obtain ⟨j1, j2⟩ := rest_aux l b s k3 h
        refine ⟨j1, ?_⟩
        rw [j2, k4, sQ, if_pos h0]
        unfold qs
        grind
    · rw [if_neg h0] at h
      obtain ⟨j1, j2⟩ := rest_aux l a s ha h
      refine ⟨j1, ?_⟩
      rw [j2, sQ, if_neg h0]; grind
theorem in_aux (id : Int) : ∀ (E : List EdgeG) (a s : Fr), okF a → E.foldl (inStep types d l id) (some a) = some s → okF s ∧ qv s = qv a + sQ (fun e => if e.to_ = id ∧ typB types e.typ = true then qv (shareOf l e.frm) / ((d e.frm : Int) : Rat) else 0) E
  | [], a, s, ha, h => by
    injection h with h
    subst h
    exact ⟨ha, by rw [sQ]; grind⟩
  | e :: E, a, s, ha, h => by
    rw [List.foldl_cons] at h
    unfold inStep at h
    have hno : ∀ E' : List EdgeG, E'.foldl (inStep types d l id) none = none := fun E' => by
      induction E' with
      | nil => rfl
      | cons x r ih => rw [List.foldl_cons, inStep_none]; exact ih
    by_cases h0 : e.to_ = id ∧ typB types e.typ = true
    · rw [if_pos h0, Option.bind_some] at h
      cases h1 : divO (shareOf l e.frm) ((d e.frm : Int), 1) with
      | none =>
        rw [h1, Option.bind_none] at h
        have h2 := hno E
        unfold inStep at h2
        rw [h2] at h; cases h
      | some q =>
        rw [h1, Option.bind_some] at h
        cases h3 : addO a q with
        | none =>
          rw [h3] at h
          have h2 := hno E
          unfold inStep at h2
          rw [h2] at h; cases h
        | some b =>
          rw [h3] at h
          obtain ⟨-, -, k3, k4⟩ := addO_ok h3
          obtain ⟨-, -, -, m4⟩ := divO_ok (by omega) h1
          obtain ⟨j1, j2⟩ := in_aux id E b s k3 h
          refine ⟨j1, ?_⟩
          rw [j2, k4, sQ, if_pos h0, m4]
          grind
    · rw [if_neg h0] at h
      obtain ⟨j1, j2⟩ := in_aux id E a s ha h
      refine ⟨j1, ?_⟩
      rw [j2, sQ, if_neg h0]; grind
theorem outs_map {f : Sh → Option Sh} : ∀ (l A O : List Sh), l.foldl (outsStep f) (some A) = some O → ∃ B, O = A ++ B ∧ l.map f = B.map some
  | [], A, O, h => by
    injection h with h
    exact ⟨[], by rw [List.append_nil]; exact h.symm, rfl⟩
  | x :: l, A, O, h => by
    rw [List.foldl_cons] at h
    unfold outsStep at h
    rw [Option.bind_some] at h
    cases h1 : f x with
    | none =>
      rw [h1, Option.map_none] at h
      have : ∀ l' : List Sh, l'.foldl (outsStep f) none = none := fun l' => by
        induction l' with
        | nil => rfl
        | cons x r ih => rw [List.foldl_cons]; exact ih
      have h2 := this l
      unfold outsStep at h2
      rw [h2] at h; cases h
    | some y =>
      rw [h1, Option.map_some] at h
      obtain ⟨B, e1, e2⟩ := outs_map l (A ++ [y]) O h
      refine ⟨y :: B, by rw [e1, List.append_assoc]; rfl, ?_⟩
      rw [List.map_cons, List.map_cons, h1, e2]
theorem sQ_pick : ∀ {l : List Sh} (_ : l.Pairwise (fun a b => a.id ≠ b.id)) {x : Sh} (_ : x ∈ l) (c : Sh → Rat), sQ (fun y => if y.id = x.id then c y else 0) l = c x
  | y :: l, hd, x, hx, c => by
    have hp := List.pairwise_cons.1 hd
    rw [sQ]
    rcases List.mem_cons.1 hx with e | e
    · subst e
      rw [if_pos rfl, sQ_zero (fun z hz => if_neg (fun h => hp.1 z hz h.symm))]; grind
    · rw [if_neg (fun h => hp.1 x e h), sQ_pick hp.2 e c]; grind
theorem Dist.pair {l : List Sh} (h : Dist l) : l.Pairwise (fun a b => a.id ≠ b.id) := by
  rw [List.pairwise_iff_getElem]
  intro i j hi hj hij
  have := h i j hij hj
  rw [getElem!_pos l i hi, getElem!_pos l j hj] at this
  omega
/-- how many edges leave, as a sum -/
theorem deg_sum (v : Rat) (id : Int) : ∀ E : List EdgeG, sQ (fun e => if id = e.frm ∧ typB types e.typ = true then v else 0) E = ((degN types E id : Int) : Rat) * v
  | [] => by rw [sQ]; have : ((degN types [] id : Int) : Rat) = 0 := rfl; rw [this]; grind
  | e :: E => by
    rw [sQ, deg_sum v id E]
    unfold degN
    rw [List.filter_cons]
    by_cases h : e.frm = id ∧ typB types e.typ = true
    · rw [if_pos ⟨h.1.symm, h.2⟩, if_pos (by simp [h.1, h.2]), List.length_cons]
      have : ∀ n : Nat, (((n + 1 : Nat) : Int) : Rat) = ((n : Int) : Rat) + 1 := fun n => by rw [Int.natCast_add, Rat.intCast_add]; rfl
      rw [this]; grind
    · rw [if_neg (fun hh => h ⟨hh.1.symm, hh.2⟩), if_neg (by simpa using fun h1 h2 => h ⟨h1, h2⟩)]; grind
/-- what all nodes get by their edges is what the nodes with edges have -/
theorem in_sum (hd : Dist l) (hE : ∀ e ∈ E, (∃ x ∈ l, x.id = e.frm) ∧ ∃ x ∈ l, x.id = e.to_) :
    sQ (fun x => sQ (fun e => if e.to_ = x.id ∧ typB types e.typ = true then qv (shareOf l e.frm) / ((degN types E e.frm : Int) : Rat) else 0) E) l = sQ (fun x => if degN types E x.id = 0 then 0 else qs x) l := by
  have hp := hd.pair
  rw [sQ_swap]
  have h1 : ∀ e ∈ E, sQ (fun x => if e.to_ = x.id ∧ typB types e.typ = true then qv (shareOf l e.frm) / ((degN types E e.frm : Int) : Rat) else 0) l = sQ (fun x => if x.id = e.frm ∧ typB types e.typ = true then qs x / ((degN types E x.id : Int) : Rat) else 0) l := by
    intro e he
    obtain ⟨⟨x, hx, hxe⟩, ⟨y, hy, hye⟩⟩ := hE e he
    by_cases ht : typB types e.typ = true
    · have e1 := sQ_pick hp hy (fun _ => qv (shareOf l e.frm) / ((degN types E e.frm : Int) : Rat))
      have e2 := sQ_pick hp hx (fun z => qs z / ((degN types E z.id : Int) : Rat))
      rw [hye] at e1
      rw [hxe] at e2
      have e3 : sQ (fun x => if e.to_ = x.id ∧ typB types e.typ = true then qv (shareOf l e.frm) / ((degN types E e.frm : Int) : Rat) else 0) l = qv (shareOf l e.frm) / ((degN types E e.frm : Int) : Rat) := by
        refine (sQ_congr (fun z _ => ?_)).trans e1
        by_cases hz : z.id = e.to_
        · rw [if_pos ⟨hz.symm, ht⟩, if_pos hz]
        · rw [if_neg (fun h => hz h.1.symm), if_neg hz]
      have e4 : sQ (fun x => if x.id = e.frm ∧ typB types e.typ = true then qs x / ((degN types E x.id : Int) : Rat) else 0) l = qs x / ((degN types E e.frm : Int) : Rat) := by
        refine (sQ_congr (fun z _ => ?_)).trans e2
        by_cases hz : z.id = e.frm
        · rw [if_pos ⟨hz, ht⟩, if_pos hz]
        · rw [if_neg (fun h => hz h.1), if_neg hz]
      rw [e3, e4]
      obtain ⟨k, hk, rfl⟩ := List.getElem_of_mem hx
      have h5 := hd.share hk
      rw [getElem!_pos l k hk, hxe] at h5
      rw [h5]; rfl
    · rw [sQ_zero (fun z _ => if_neg (fun h => ht h.2)), sQ_zero (fun z _ => if_neg (fun h => ht h.2))]
  rw [sQ_congr h1, ← sQ_swap]
  refine sQ_congr (fun x _ => ?_)
  rw [deg_sum]
  by_cases h0 : degN types E x.id = 0
  · rw [if_pos h0, h0]
    have : (((0 : Nat) : Int) : Rat) = 0 := rfl
    rw [this]; grind
  · rw [if_neg h0]
    have h2 := int_ne (show (1 : Int) ≤ (degN types E x.id : Int) by omega)
    grind
theorem fits_ok {g : GraphG} {l : List Sh} (h : fitsB g l = true) : ∀ x ∈ l, okS x := fun x hx => by
  obtain ⟨k, hk, rfl⟩ := List.getElem_of_mem hx
  have := ((fitsB_iff.1 h).2 k hk).2
  rwa [getElem!_pos l k hk] at this
theorem share_ok (hd : Dist l) {i : Int} (hi : ∃ x ∈ l, x.id = i) : ∃ x ∈ l, shareOf l i = (x.n, x.d) := by
  obtain ⟨x, hx, rfl⟩ := hi
  obtain ⟨k, hk, rfl⟩ := List.getElem_of_mem hx
  refine ⟨l[k], hx, ?_⟩
  have := hd.share hk
  rwa [getElem!_pos l k hk] at this
theorem inv_nonneg_ {b : Rat} (hb : 0 ≤ b) : 0 ≤ b⁻¹ := by
  rcases Rat.le_iff_lt_or_eq.1 hb with h | h
  · exact Rat.le_of_lt (Rat.inv_pos.2 h)
  · rw [← h, Rat.inv_zero]; exact Rat.le_refl
theorem div_nonneg {a b : Rat} (ha : 0 ≤ a) (hb : 0 ≤ b) : 0 ≤ a / b := by
  rw [Rat.div_def]
  exact Rat.mul_nonneg ha (inv_nonneg_ hb)
theorem nat_nonneg (n : Nat) : (0 : Rat) ≤ ((n : Int) : Rat) := by
  have : ((0 : Int) : Rat) ≤ ((n : Int) : Rat) := Rat.intCast_le_intCast.2 (by omega)
  exact this
/-- what a step does to the shares -/
structure Good (g : GraphG) (damp : Fr) (l : List Sh) : Prop where
  fits : fitsB g l = true
  sum : sQ qs l = 1
  low : ∀ x ∈ l, (1 - qv damp) / ((l.length : Int) : Rat) ≤ qs x
theorem qs_nonneg_of {g : GraphG} {damp : Fr} (h : Good g damp l) (hd1 : qv damp ≤ 1) : ∀ x ∈ l, 0 ≤ qs x := fun x hx => by
  have h1 := h.low x hx
  have h2 : 0 ≤ (1 - qv damp) / ((l.length : Int) : Rat) := div_nonneg (by grind) (nat_nonneg _)
  grind
end
theorem damp_q {damp : Fr} (h : dampB damp = true) : okF damp ∧ 0 ≤ qv damp ∧ qv damp ≤ 1 := by
  unfold dampB at h
  rw [Bool.and_eq_true, Bool.and_eq_true] at h
  have hv : okF damp := h.1.1
  have h1 := of_decide_eq_true h.1.2
  have h2 := of_decide_eq_true h.2
  have h3 := int_pos hv.pos
  have h4 : (0 : Rat) ≤ (damp.1 : Rat) := by
    have : ((0 : Int) : Rat) ≤ (damp.1 : Rat) := Rat.intCast_le_intCast.2 h1
    exact this
  have h5 : (damp.1 : Rat) ≤ (damp.2 : Rat) := Rat.intCast_le_intCast.2 h2
  refine ⟨hv, div_nonneg h4 (by grind), ?_⟩
  unfold qv
  rw [Rat.div_def]
  have h6 : (damp.1 : Rat) * (damp.2 : Rat)⁻¹ ≤ (damp.2 : Rat) * (damp.2 : Rat)⁻¹ := Rat.mul_le_mul_of_nonneg_right h5 (inv_nonneg_ (by grind))
  have h7 : (damp.2 : Rat) * (damp.2 : Rat)⁻¹ = 1 := Rat.mul_inv_cancel _ (int_ne hv.pos)
  grind
theorem step_vals {g : GraphG} {types : List ByteArray} {damp : Fr} {l O : List Sh} (hf : fitsB g l = true) (h : stepR types g.edges damp l (g.nodes.length : Int) = some O) :
    O.length = l.length ∧ ∀ k (hk : k < l.length) (hk' : k < O.length), O[k].id = l[k].id ∧ okS O[k] ∧ qs O[k] = (1 - qv damp) / ((l.length : Int) : Rat) + qv damp * (sQ (fun e => if e.to_ = l[k].id ∧ typB types e.typ = true then qv (shareOf l e.frm) / ((degN types g.edges e.frm : Int) : Rat) else 0) g.edges + (0 + sQ (fun x => if degN types g.edges x.id = 0 then qs x else 0) l) / ((l.length : Int) : Rat)) := by
  obtain ⟨hlen, hfit⟩ := fitsB_iff.1 hf
  unfold stepR at h
  cases h1 : restV (fun i => degN types g.edges i) l (g.nodes.length : Int) with
  | none => rw [h1] at h; cases h
  | some r =>
    rw [h1, Option.bind_some] at h
    cases h2 : subO (1, 1) damp with
    | none => rw [h2] at h; cases h
    | some sb =>
      rw [h2, Option.bind_some] at h
      cases h3 : divO sb ((l.length : Int), 1) with
      | none => rw [h3] at h; cases h
      | some b =>
        rw [h3, Option.bind_some] at h
        obtain ⟨-, -, -, s4⟩ := subO_ok h2
        obtain ⟨-, -, -, b4⟩ := divO_ok (by omega) h3
        rw [s4, qv_one] at b4
        obtain ⟨s, hs, hsd⟩ : ∃ s, restO (fun i => degN types g.edges i) l = some s ∧ divO s ((g.nodes.length : Int), 1) = some r := by
          unfold restV at h1
          cases hx : restO (fun i => degN types g.edges i) l with
          | none => rw [hx] at h1; cases h1
          | some s => rw [hx, Option.bind_some] at h1; exact ⟨s, rfl, h1⟩
        obtain ⟨-, r4⟩ := rest_aux l (0, 1) s okF_zero hs
        rw [qv_zero] at r4
        obtain ⟨-, -, -, r5⟩ := divO_ok (by omega) hsd
        rw [r4, ← hlen] at r5
        obtain ⟨B, e1, e2⟩ := outs_map l [] O h
        rw [List.nil_append] at e1
        subst e1
        have hOl : O.length = l.length := by have := congrArg List.length e2; rw [List.length_map, List.length_map] at this; omega
        have hj : ∀ k (hk : k < l.length) (hk' : k < O.length), (outF (inO types (fun i => degN types g.edges i) l g.edges l[k].id) r b damp).map (fun f => (⟨l[k].id, f.1, f.2⟩ : Sh)) = some O[k] := fun k hk hk' => by
          have := congrArg (fun z => z[k]?) e2
          simp only [List.getElem?_map, List.getElem?_eq_getElem hk, List.getElem?_eq_getElem hk', Option.map_some] at this
          exact Option.some.inj this
        have hj2 : ∀ k (hk : k < l.length) (hk' : k < O.length), O[k].id = l[k].id ∧ okS O[k] ∧ qs O[k] = (1 - qv damp) / ((l.length : Int) : Rat) + qv damp * (sQ (fun e => if e.to_ = l[k].id ∧ typB types e.typ = true then qv (shareOf l e.frm) / ((degN types g.edges e.frm : Int) : Rat) else 0) g.edges + (0 + sQ (fun x => if degN types g.edges x.id = 0 then qs x else 0) l) / ((l.length : Int) : Rat)) := fun k hk hk' => by
          have h5 := hj k hk hk'
          unfold outF at h5
          cases hx : inO types (fun i => degN types g.edges i) l g.edges l[k].id with
          | none => rw [hx] at h5; cases h5
          | some x =>
            rw [hx, Option.bind_some] at h5
            cases hy : addO x r with
            | none => rw [hy] at h5; cases h5
            | some y =>
              rw [hy, Option.bind_some] at h5
              cases hz : mulO damp y with
              | none => rw [hz] at h5; cases h5
              | some z =>
                rw [hz, Option.bind_some] at h5
                cases hf : addO b z with
                | none => rw [hf] at h5; cases h5
                | some f =>
                  rw [hf, Option.map_some] at h5
                  have h6 := (Option.some.inj h5).symm
                  obtain ⟨-, x4⟩ := in_aux l[k].id g.edges (0, 1) x okF_zero hx
                  rw [qv_zero] at x4
                  obtain ⟨-, -, -, y4⟩ := addO_ok hy
                  obtain ⟨-, -, -, z4⟩ := mulO_ok hz
                  obtain ⟨-, -, f3, f4⟩ := addO_ok hf
                  rw [h6]
                  refine ⟨rfl, f3, ?_⟩
                  show qv (f.1, f.2) = _
                  rw [show (f.1, f.2) = f from rfl, f4, z4, y4, x4, b4, r5]
                  grind
        exact ⟨hOl, hj2⟩
theorem step_good {g : GraphG} {types : List ByteArray} {damp : Fr} {l O : List Sh} (hc : chkG g = 0) (hd : dampB damp = true) (hg : Good g damp l) (hn : l.length ≠ 0) (h : stepR types g.edges damp l (g.nodes.length : Int) = some O) : Good g damp O := by
  obtain ⟨hdv, hd0, hd1⟩ := damp_q hd
  have hdi := dist_of hc hg.fits
  have hnn := qs_nonneg_of hg hd1
  obtain ⟨hlen, hfit⟩ := fitsB_iff.1 hg.fits
  have hE : ∀ e ∈ g.edges, (∃ x ∈ l, x.id = e.frm) ∧ ∃ x ∈ l, x.id = e.to_ := fun e he => by
    obtain ⟨k, hk, rfl⟩ := List.getElem_of_mem he
    obtain ⟨⟨j, hj, e1⟩, ⟨j', hj', e2⟩⟩ := ends_of hc hg.fits hk
    rw [getElem!_pos g.edges k hk] at e1 e2
    rw [getElem!_pos l j hj] at e1
    rw [getElem!_pos l j' hj'] at e2
    exact ⟨⟨_, List.getElem_mem hj, e1⟩, ⟨_, List.getElem_mem hj', e2⟩⟩
  obtain ⟨hOl, hj2⟩ := step_vals hg.fits h
  have hlq := int_ne (show (1 : Int) ≤ (l.length : Int) by omega)
  refine ⟨fitsB_iff.2 ⟨by omega, fun k hk => ?_⟩, ?_, fun x hx => ?_⟩
  · obtain ⟨k1, k2, -⟩ := hj2 k (by omega) hk
    rw [getElem!_pos O k hk, k1]
    have := (hfit k (by omega)).1
    rw [getElem!_pos l k (by omega)] at this
    exact ⟨this, k2⟩
  · have h7 : sQ qs O = sQ (fun x => (1 - qv damp) / ((l.length : Int) : Rat) + qv damp * (sQ (fun e => if e.to_ = x.id ∧ typB types e.typ = true then qv (shareOf l e.frm) / ((degN types g.edges e.frm : Int) : Rat) else 0) g.edges + (0 + sQ (fun x => if degN types g.edges x.id = 0 then qs x else 0) l) / ((l.length : Int) : Rat))) l := by
      have : O.map qs = l.map (fun x => (1 - qv damp) / ((l.length : Int) : Rat) + qv damp * (sQ (fun e => if e.to_ = x.id ∧ typB types e.typ = true then qv (shareOf l e.frm) / ((degN types g.edges e.frm : Int) : Rat) else 0) g.edges + (0 + sQ (fun x => if degN types g.edges x.id = 0 then qs x else 0) l) / ((l.length : Int) : Rat))) := by
        refine List.ext_getElem (by simp [hOl]) (fun k hk hk' => ?_)
        rw [List.length_map] at hk hk'
        rw [List.getElem_map, List.getElem_map]
        exact (hj2 k hk' hk).2.2
      have h8 : ∀ {α : Type} (f : α → Rat) (l : List α), sQ f l = sQ (fun x => x) (l.map f) := fun f l => (sQ_map (f := fun x : Rat => x) f l).symm
      rw [h8, this, ← h8]
    rw [h7, sQ_add, sQ_const, sQ_mul, sQ_add, sQ_const, in_sum hdi hE]
    have h9 : sQ (fun x => if degN types g.edges x.id = 0 then 0 else qs x) l + sQ (fun x => if degN types g.edges x.id = 0 then qs x else 0) l = 1 := by
      rw [← sQ_add, ← hg.sum]
      refine sQ_congr (fun x _ => ?_)
      split <;> grind
    generalize sQ (fun x => if degN types g.edges x.id = 0 then 0 else qs x) l = u at *
    generalize sQ (fun x => if degN types g.edges x.id = 0 then qs x else 0) l = v at *
    generalize ((l.length : Int) : Rat) = nq at *
    grind
  · obtain ⟨k, hk, rfl⟩ := List.getElem_of_mem hx
    rw [(hj2 k (by omega) hk).2.2, hOl]
    have hs1 : 0 ≤ sQ (fun e => if e.to_ = (l[k]'(by omega)).id ∧ typB types e.typ = true then qv (shareOf l e.frm) / ((degN types g.edges e.frm : Int) : Rat) else 0) g.edges := sQ_nonneg (fun e he => by
      split
      · obtain ⟨x, hx, e3⟩ := share_ok hdi (hE e he).1
        rw [e3]
        exact div_nonneg (hnn x hx) (nat_nonneg _)
      · grind)
    have hs2 : 0 ≤ (0 + sQ (fun x => if degN types g.edges x.id = 0 then qs x else 0) l) / ((l.length : Int) : Rat) := div_nonneg (by
      have : 0 ≤ sQ (fun x => if degN types g.edges x.id = 0 then qs x else 0) l := sQ_nonneg (fun x hx => by split; exact hnn x hx; grind)
      grind) (nat_nonneg _)
    have hs3 := Rat.mul_nonneg hd0 (show 0 ≤ sQ (fun e => if e.to_ = (l[k]'(by omega)).id ∧ typB types e.typ = true then qv (shareOf l e.frm) / ((degN types g.edges e.frm : Int) : Rat) else 0) g.edges + (0 + sQ (fun x => if degN types g.edges x.id = 0 then qs x else 0) l) / ((l.length : Int) : Rat) by grind)
    grind
end Go.Proofs.YtlkpmbkmmfoakaaDoor
