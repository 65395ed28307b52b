/- PARTS OF THE WALKS, joined: Jn, Kg, Jo. -/
import Derived.Test.YtbjddimafilflaaGreatDoorP25
import Derived.Laws.MakeOwn
/- THE WALKS over joiner.agrees, join.half, Semi and Anti. -/
namespace Go.Proofs.YtbjddimafilflaaGreatDoor
open Go.RowKit Go.Sort
set_option maxRecDepth 100000 in
set_option maxHeartbeats 1600000 in
theorem j_agrees1 (s key : List Val) (R : List Nat) (ok okk okn : Nat → Prop) (S K AR : Option Addr) (cs ck cr kc jc q : Nat) (w : World) (hz : ZeroAt w) (hk : w.cell? ⟨kc, 0, none⟩ = some (.slice K key.length ck)) (hj : w.cell? ⟨jc, 0, none⟩ = some (.pointer (some ⟨q, 0, none⟩))) (h5 : w.cell? ⟨q, 5, none⟩ = some (.slice AR R.length cr))
    (hs : Vals w ok S s) (hkv : Vals w okk K key) (hn : Nums w okn AR (ints R)) (hR : ∀ i ∈ R, i < s.length) (hl : R.length ≤ 8000000) :
    Calls Tryz.prog 61 #[.slice S s.length cs, .pointer (some ⟨kc, 0, none⟩), .pointer (some ⟨jc, 0, none⟩)] w fun e w' => e = .returned (.bool (decide (key = partJ s R))) ∧ Ext w w' := by
  have H1 := Lib.hid (fun W (e : Ext w W) => j_part s R ok okn S AR cs cr W (hs.ext e) (hn.ext e) hR hl)
  have H2 := Lib.hid (fun A2 c2 W (e : Ext w W) (h : Vals W (fun _ => True) A2 (partJ s R)) => v_OrderRows key (partJ s R) okk (fun _ => True) K A2 ck c2 W (hz.ext e) (hkv.ext e) h)
  have HQ := Lib.hid (show (ordL key (partJ s R) == 0) = decide (key = partJ s R) by rw [Bool.eq_iff_iff, beq_iff_eq, decide_eq_true_iff]; exact ordL_zero _ _)
  clear hs hkv hn hR hz
  generalize decide (key = partJ s R) = z at *
  generalize ordL key (partJ s R) = t at *
  generalize partJ s R = p at *
  go_enter Tryz.func61, Tryz.ntmps61
  go_upto_region 1 with (fail)
  have MKR11 := Lib.hid (fun V (e : Ext w V) => (⟨e.cell hk, e.cell hj, e.cell h5, e⟩ : V.cell? ⟨kc, 0, none⟩ = some (.slice K key.length ck) ∧ V.cell? ⟨jc, 0, none⟩ = some (.pointer (some ⟨q, 0, none⟩)) ∧ V.cell? ⟨q, 5, none⟩ = some (.slice AR R.length cr) ∧ Ext w V))
  refine wp_region_held_drew (S := (fun V => V.cell? ⟨kc, 0, none⟩ = some (.slice K key.length ck) ∧ V.cell? ⟨jc, 0, none⟩ = some (.pointer (some ⟨q, 0, none⟩)) ∧ V.cell? ⟨q, 5, none⟩ = some (.slice AR R.length cr) ∧ Ext w V)) (by kernel_rfl) ?hs178 (fun hHeld => ?go178)
  case hs178 => (exact MKR11.out _ (by repeat (first | with_reducible exact Ext.refl _ | with_reducible assumption | with_reducible refine Ext.drew ?_ | with_reducible refine Ext.drewN ?_ _ | with_reducible refine Ext.alloc ?_ _)))
  refine wpAnyH_take (i := 0) (oi := ⟨(some 5), (.load 37 (.tmp 1)), 37, "join.go:124", #[], none⟩) (v := ?v179) rfl (by kernel_rfl) (by kernel_rfl) (by kernel_rfl) (fun _ _ _ h => h) (Or.inl ⟨rfl, ?hy179⟩) hHeld ?rest179
  case hy179 => (intro w hSw; (try dsimp only at hSw); go_simp <;> first | with_reducible rfl | rw [if_neg (by omega)] | rw [if_pos (by omega)])
  (try simp only [Act.put]); (try simp only [List.setIfInBounds_toArray]); (try simp only [List.set_cons_succ]); (try simp only [List.set_cons_zero])
  refine wpAnyH_take (i := 1) (oi := ⟨(some 6), (.move (.tmp 0)), 37, "join.go:124", #[], none⟩) (v := ?v180) rfl (by kernel_rfl) (by kernel_rfl) (by kernel_rfl) (fun _ _ _ h => h) (Or.inl ⟨rfl, ?hy180⟩) hHeld ?rest180
  case hy180 => (intro w hSw; (try dsimp only at hSw); go_simp <;> first | with_reducible rfl | rw [if_neg (by omega)] | rw [if_pos (by omega)])
  (try simp only [Act.put]); (try simp only [List.setIfInBounds_toArray]); (try simp only [List.set_cons_succ]); (try simp only [List.set_cons_zero])
  refine wpAnyH_take (i := 2) (oi := ⟨(some 7), (.load 45 (.tmp 2)), 45, "join.go:124", #[], none⟩) (v := ?v181) rfl (by kernel_rfl) (by kernel_rfl) (by kernel_rfl) (fun _ _ _ h => h) (Or.inl ⟨rfl, ?hy181⟩) hHeld ?rest181
  case hy181 => (intro w hSw; (try dsimp only at hSw); go_simp <;> first | with_reducible rfl | rw [if_neg (by omega)] | rw [if_pos (by omega)])
  (try simp only [Act.put]); (try simp only [List.setIfInBounds_toArray]); (try simp only [List.set_cons_succ]); (try simp only [List.set_cons_zero])
  refine wpAnyH_take (i := 3) (oi := ⟨(some 8), (.nilCheck (.tmp 7)), 0, "join.go:124", #[⟨2, .data⟩], none⟩) (v := ?v182) rfl (by kernel_rfl) (by kernel_rfl) (by kernel_rfl) (fun _ _ _ h => h) (Or.inl ⟨rfl, ?hy182⟩) hHeld ?rest182
  case hy182 => (intro w hSw; (try dsimp only at hSw); go_simp <;> first | with_reducible rfl | rw [if_neg (by omega)] | rw [if_pos (by omega)])
  (try simp only [Act.put]); (try simp only [List.setIfInBounds_toArray]); (try simp only [List.set_cons_succ]); (try simp only [List.set_cons_zero])
  refine wpAnyH_take (i := 4) (oi := ⟨(some 9), (.fieldAddr 63 (.tmp 8) 3), 0, "join.go:124", #[⟨3, .data⟩], none⟩) (v := ?v183) rfl (by kernel_rfl) (by kernel_rfl) (by kernel_rfl) (fun _ _ _ h => h) (Or.inl ⟨rfl, ?hy183⟩) hHeld ?rest183
  case hy183 => (intro w hSw; (try dsimp only at hSw); go_simp <;> first | with_reducible rfl | rw [if_neg (by omega)] | rw [if_pos (by omega)])
  (try simp only [Act.put]); (try simp only [List.setIfInBounds_toArray]); (try simp only [List.set_cons_succ]); (try simp only [List.set_cons_zero])
  refine wpAnyH_take (i := 5) (oi := ⟨(some 10), (.load 61 (.tmp 9)), 61, "join.go:124", #[⟨4, .data⟩], none⟩) (v := ?v184) rfl (by kernel_rfl) (by kernel_rfl) (by kernel_rfl) (fun _ _ _ h => h) (Or.inl ⟨rfl, ?hy184⟩) hHeld ?rest184
  case hy184 => (intro w hSw; (try dsimp only at hSw); go_simp <;> first | with_reducible rfl | rw [if_neg (by omega)] | rw [if_pos (by omega)])
  (try simp only [Act.put]); (try simp only [List.setIfInBounds_toArray]); (try simp only [List.set_cons_succ]); (try simp only [List.set_cons_zero])
  refine wpAnyH_ready (rs := [6]) (by kernel_rfl) (by simp) ?_
  refine AllReadyH.cons (o := ⟨(some 11), (.call { callee := (.value (.func 55)), args := #[(.tmp 6), (.tmp 10)], argTypes := #[37, 61] }), 37, "join.go:124", #[⟨1, .data⟩, ⟨5, .data⟩], none⟩) rfl (fun K hK => ?step185x0) ?more185x0
  case more185x0 => exact AllReadyH.nil
  go_simp
  (refine (H1.out _ (by repeat (first | with_reducible exact Ext.refl _ | with_reducible assumption | with_reducible refine Ext.drew ?_ | with_reducible refine Ext.drewN ?_ _ | with_reducible refine Ext.alloc ?_ _))).mono ?_; rintro e w2 ⟨A2, c2, rfl, -, hV2, hx2⟩; replace hx2 : Ext w w2 := Ext.trans (by repeat (first | with_reducible exact Ext.refl _ | with_reducible assumption | with_reducible refine Ext.drew ?_ | with_reducible refine Ext.drewN ?_ _ | with_reducible refine Ext.alloc ?_ _)) hx2)
  refine hK.out _ _ ?hS185x0 (fun hHeld185 => ?rest185x0)
  case hS185x0 => first | (exact MKR11.out _ (by repeat (first | with_reducible exact Ext.refl _ | with_reducible assumption | with_reducible refine Ext.drew ?_ | with_reducible refine Ext.drewN ?_ _ | with_reducible refine Ext.alloc ?_ _))) | ((try dsimp only); (exact MKR11.out _ (by repeat (first | with_reducible exact Ext.refl _ | with_reducible assumption | with_reducible refine Ext.drew ?_ | with_reducible refine Ext.drewN ?_ _ | with_reducible refine Ext.alloc ?_ _))))
  clear hK K
  clear hHeld
  (try simp only [Act.put]); (try simp only [List.setIfInBounds_toArray]); (try simp only [List.set_cons_succ]); (try simp only [List.set_cons_zero])
  refine wpAnyH_ready (rs := [7]) (by kernel_rfl) (by simp) ?_
  refine AllReadyH.cons (o := ⟨(some 12), (.call { callee := (.value (.func 62)), args := #[(.tmp 5), (.tmp 11)], argTypes := #[37, 37] }), 3, "join.go:124", #[⟨0, .data⟩, ⟨6, .data⟩, ⟨6, .chain⟩], none⟩) rfl (fun K hK => ?step186x0) ?more186x0
  case more186x0 => exact AllReadyH.nil
  go_simp
  (refine (H2.out A2 c2 _ (by repeat (first | with_reducible exact Ext.refl _ | with_reducible assumption | with_reducible refine Ext.drew ?_ | with_reducible refine Ext.drewN ?_ _ | with_reducible refine Ext.alloc ?_ _)) (hV2.ext (by first | exact Ext.refl _ | exact (Ext.refl _).drew))).mono ?_; rintro e w3 ⟨rfl, hx3⟩; replace hx3 : Ext w w3 := Ext.trans (by repeat (first | with_reducible exact Ext.refl _ | with_reducible assumption | with_reducible refine Ext.drew ?_ | with_reducible refine Ext.drewN ?_ _ | with_reducible refine Ext.alloc ?_ _)) hx3)
  refine hK.out _ _ ?hS186x0 (fun hHeld186 => ?rest186x0)
  case hS186x0 => first | (exact MKR11.out _ (by repeat (first | with_reducible exact Ext.refl _ | with_reducible assumption | with_reducible refine Ext.drew ?_ | with_reducible refine Ext.drewN ?_ _ | with_reducible refine Ext.alloc ?_ _))) | ((try dsimp only); (exact MKR11.out _ (by repeat (first | with_reducible exact Ext.refl _ | with_reducible assumption | with_reducible refine Ext.drew ?_ | with_reducible refine Ext.drewN ?_ _ | with_reducible refine Ext.alloc ?_ _))))
  clear hK K
  clear hHeld185
  (try simp only [Act.put]); (try simp only [List.setIfInBounds_toArray]); (try simp only [List.set_cons_succ]); (try simp only [List.set_cons_zero])
  refine wpAnyH_take (i := 8) (oi := ⟨(some 13), (.binOp .eql 3 (.tmp 12) (.const (.int .i64 0)) 3), 4, "join.go:124", #[⟨7, .data⟩], none⟩) (v := ?v187) rfl (by kernel_rfl) (by kernel_rfl) (by kernel_rfl) (fun _ _ _ h => h) (Or.inl ⟨rfl, ?hy187⟩) hHeld186 ?rest187
  case hy187 => (intro w hSw; (try dsimp only at hSw); go_simp <;> first | with_reducible rfl | rw [if_neg (by omega)] | rw [if_pos (by omega)])
  (try simp only [Act.put]); (try simp only [List.setIfInBounds_toArray]); (try simp only [List.set_cons_succ]); (try simp only [List.set_cons_zero])
  refine wpAnyH_take (i := 9) (oi := ⟨(some 4), (.assign (.tmp 13)), 4, "join.go:124", #[⟨8, .data⟩, ⟨7, .chain⟩, ⟨0, .phase⟩, ⟨1, .phase⟩, ⟨2, .phase⟩, ⟨3, .phase⟩, ⟨4, .phase⟩, ⟨5, .phase⟩, ⟨6, .phase⟩, ⟨7, .phase⟩, ⟨8, .phase⟩], none⟩) (v := ?v188) rfl (by kernel_rfl) (by kernel_rfl) (by kernel_rfl) (fun _ _ _ h => h) (Or.inl ⟨rfl, ?hy188⟩) hHeld186 ?rest188
  case hy188 => (intro w hSw; (try dsimp only at hSw); go_simp <;> first | with_reducible rfl | rw [if_neg (by omega)] | rw [if_pos (by omega)])
  (try simp only [Act.put]); (try simp only [List.setIfInBounds_toArray]); (try simp only [List.set_cons_succ]); (try simp only [List.set_cons_zero])
  refine wpAnyH_done (by kernel_rfl) ?_ _
  clear hHeld186
  clear MKR11
  go_wp2_with fail
  go_ret
  exact ⟨ret_bool HQ.out, hx3⟩
theorem eg_agrees1 (args : Array Value) (w : World) : (callFunc 61 args).run Tryz.prog w = .ok (.enter 61 args) w :=
  run_enter (c := Tryz.f61.body.get!) Tryz.func61 (by kernel_rfl) (by kernel_rfl) args w
theorem hasJ_key {a b : Tab} (hok : JoinOk a b) (r : List Val) : hasJ a b r = (!voidJ (partJ r (leftK a.cols b.cols b.cols.length)) && b.rows.any (fun s => decide (partJ r (leftK a.cols b.cols b.cols.length) = partJ s (rightK a.cols b.cols b.cols.length)))) := by
  unfold hasJ
  induction b.rows with
  | nil => simp
  | cons s l ih =>
    rw [List.any_cons, List.any_cons, ih, agree_key hok.na hok.nb]
    cases voidJ (partJ r (leftK a.cols b.cols b.cols.length)) <;> simp
set_option maxRecDepth 100000 in
set_option maxHeartbeats 1600000 in
theorem j_agrees (a b : Tab) (q : Nat) (r : List Val) (okr : Nat → Prop) (X : Option Addr) (cx : Nat) (w : World) (hj : JoinAt w (fun _ => True) q a b) (hz : ZeroAt w) (hok : JoinOk a b) (hv : Vals w okr X r) (hr : r.length = a.cols.length) (hlb : b.cols.length ≤ 1000000) :
    Calls Tryz.prog 40 #[.pointer (some ⟨q, 0, none⟩), .slice X r.length cx] w fun e w' => e = .returned (.bool (hasJ a b r)) ∧ Ext w w' := by
  rw [hasJ_key hok r]
  obtain ⟨jc, hjc⟩ : ∃ jc, jc = w.heap.size := ⟨_, rfl⟩
  obtain ⟨w1, hw1⟩ : ∃ w1, w1 = w.alloc (.cells #[.pointer (some ⟨q, 0, none⟩)] 45) := ⟨_, rfl⟩
  have hx1 : Ext w w1 := by rw [hw1]; exact (Ext.refl _).alloc _
  have c1 : w1.cell? ⟨jc, 0, none⟩ = some (.pointer (some ⟨q, 0, none⟩)) := by rw [hw1, hjc]; exact cell_one_new w _ _ 0 _ rfl
  obtain ⟨A, B, A', B', AL, AR, AO, c, d, c', d', cl, cr, co, hJ⟩ := hj.ext hx1
  have j3 := hJ.j3
  have j4 := hJ.j4
  have j5 := hJ.j5
  have H1 := Lib.hid (fun W (e : Ext w1 W) => j_part r _ okr (fun _ => True) X AL cx cl W ((hv.ext hx1).ext e) (hJ.nl.ext e) (fun i hi => by rw [hr]; exact leftK_lt hi) (Nat.le_trans leftK_len (Nat.le_trans hlb (by decide))))
  have H2 := Lib.hid (fun W A2 c2 (e : Ext w1 W) h => j_void (partJ r (leftK a.cols b.cols b.cols.length)) (fun _ => True) A2 c2 W (hz.ext (hx1.trans e)) h)
  have H3 := Lib.hid (fun W K ck kc (e : Ext w1 W) (hk : W.cell? ⟨kc, 0, none⟩ = some (.slice K (partJ r (leftK a.cols b.cols b.cols.length)).length ck)) (hkv : Vals W (fun _ => True) K (partJ r (leftK a.cols b.cols b.cols.length))) =>
    j_ContainsR b.rows (fun s => decide (partJ r (leftK a.cols b.cols b.cols.length) = partJ s (rightK a.cols b.cols b.cols.length))) (fun _ => True) B' d' 61 #[.pointer (some ⟨kc, 0, none⟩), .pointer (some ⟨jc, 0, none⟩)] W (hJ.tb.rows.ext e) eg_agrees1
      (fun s hs As cs W' e' hvs _ => j_agrees1 s (partJ r (leftK a.cols b.cols b.cols.length)) (rightK a.cols b.cols b.cols.length) (fun _ => True) (fun _ => True) (fun _ => True) As K AR cs ck cr kc jc q W' (hz.ext (hx1.trans (e.trans e'))) (e'.cell hk) ((e.trans e').cell c1) ((e.trans e').cell j5) hvs (hkv.ext e') (hJ.nr.ext (e.trans e')) (fun i hi => by rw [hok.lb s hs]; exact rightK_lt hi) (Nat.le_trans rightK_len (Nat.le_trans hlb (by decide)))))
  have HW1 := Lib.hid hw1
  have HG := Lib.hid hjc
  have hjs : jc < w1.heap.size := block_lt_of_cell c1
  clear hj hJ hz hv hr hok hw1 hjc
  generalize b.rows.any (fun s => decide (partJ r (leftK a.cols b.cols b.cols.length) = partJ s (rightK a.cols b.cols b.cols.length))) = z2 at *
  generalize voidJ (partJ r (leftK a.cols b.cols b.cols.length)) = z1 at *
  generalize partJ r (leftK a.cols b.cols b.cols.length) = key at *
  go_enter Tryz.func40, Tryz.ntmps40
  go_upto_region 1 with (fail)
  rw [← HW1.out, ← HG.out]
  clear HW1 HG
  go_upto_region 2 with (go_at_call 55; ((with_reducible refine (H1.out _ (Ext.refl _)).mono ?_); rintro e w2 ⟨A2, c2, rfl, hc2, hV2, hx2⟩))
  obtain ⟨kc, hkc⟩ : ∃ kc, kc = w2.heap.size := ⟨_, rfl⟩
  obtain ⟨w3, hw3⟩ : ∃ w3, w3 = w2.alloc (.cells #[.slice A2 key.length c2] 37) := ⟨_, rfl⟩
  have hx3 : Ext w2 w3 := by rw [hw3]; exact (Ext.refl _).alloc _
  have ck3 : w3.cell? ⟨kc, 0, none⟩ = some (.slice A2 key.length c2) := by rw [hw3, hkc]; exact cell_one_new w2 _ _ 0 _ rfl
  rw [← hw3, ← hkc]
  have hx13 := hx2.trans hx3
  have cj3 := hx13.cell c1
  have hV3 := Lib.hid (hV2.ext hx3)
  clear hw3 hkc hx3 hV2 H1
  cases z1
  · go_wp2_with (first | (go_at_call 59; ((with_reducible refine (H2.out _ A2 c2 hx13 hV3.out).mono ?_); rintro e w4 ⟨rfl, hx4⟩; have cj4 := hx4.cell cj3; have j34 := (hx13.trans hx4).cell j3)) | (go_at_call 60; ((with_reducible refine (H3.out _ A2 c2 kc (hx13.trans hx4) (hx4.cell ck3) (hV3.out.ext hx4)).mono ?_); rintro e w5 ⟨rfl, hx5⟩)))
    go_ret
    exact ⟨rfl, hx1.trans (hx13.trans (hx4.trans hx5))⟩
  · go_wp2_with (go_at_call 59; ((with_reducible refine (H2.out _ A2 c2 hx13 hV3.out).mono ?_); rintro e w4 ⟨rfl, hx4⟩))
    go_ret
    exact ⟨rfl, hx1.trans (hx13.trans hx4)⟩
set_option maxRecDepth 100000 in
set_option maxHeartbeats 3200000 in
theorem j_half (a b : Tab) (wt : Bool) (ok ok' : Nat → Prop) (A A' B B' : Option Addr) (c c' d d' : Nat) (w : World) (hz0 : ZeroAt w) (ha : TabAt w ok A B a) (hb : TabAt w ok' A' B' b) (hfa : TabFit a) (hfb : TabFit b) (hsa : ∀ s ∈ a.cols, s.size ≤ maxLen) (hsb : ∀ s ∈ b.cols, s.size ≤ maxLen) :
    Calls Tryz.prog 45 #[.agg #[.slice A a.cols.length c, .slice B a.rows.length d], .agg #[.slice A' b.cols.length c', .slice B' b.rows.length d'], .bool wt] w (TabRet w (halfT a b wt) (errJ a b)) := by
  obtain ⟨q, w3, hq, hw3, q0, q1, p0, p1, hxw, hqs, hz⟩ := box_tab3 w A B A' B' a.cols.length c a.rows.length d b.cols.length c' b.rows.length d' 25 25 25
  have hm1 := ha.rows.len
  have HZ := Lib.hid hz
  have HBG := Lib.hid (j_begin a b ok ok' A A' B B' c c' d d' w3 (ha.ext hxw) (hb.ext hxw) hsa hsb (Nat.le_trans hfa.1 (by decide)) (Nat.le_trans hfb.1 (by decide)))
  have HAG := Lib.hid (fun W g (r : List Val) okr X cx (e : Ext w3 W) (h : JoinAt W (fun _ => True) g a b) (hok : JoinOk a b) (hv : Vals W okr X r) (hr : r.length = a.cols.length) => j_agrees a b g r okr X cx W h (hz0.ext (hxw.trans e)) hok hv hr (Nat.le_trans hfb.1 (by decide)))
  have HA := Lib.hid (ha.bnd.ext hxw)
  have HTB := Lib.hid (fun W A1 c1 B1 d1 N (e : Ext w3 W) (h1 : Strs W (fun b => w3.heap.size ≤ b) A1 a.cols) (h2 : Rows W (fun _ => True) B1 N) (hl : N.length ≤ 8000000) (hw : ∀ r ∈ N, wtL r ≤ 8000000) => j_table a.cols N (fun _ => True) w3.heap.size A1 B1 c1 d1 W h1 h2 (hz0.ext (hxw.trans e)) e.le hl hw)
  have HW3 := Lib.hid hw3
  have HG := Lib.hid hq
  have hqw : w.heap.size ≤ q := Nat.le_of_eq hq.symm
  have hle3 := hxw.le
  clear ha hb hz hw3 hq hz0
  go_enter Tryz.func45, Tryz.ntmps45
  go_upto_region 1 with (fail)
  rw [← HW3.out, ← HG.out]
  clear HW3 HG
  go_upto_region 2 with (go_at_call 30; ((with_reducible refine (HBG.out).mono ?_); rintro e w4 ⟨hor, hx4⟩; rcases hor with ⟨hen, rfl⟩ | ⟨hez, g, rfl, hJ⟩))
  · have HT := Lib.hid (show halfT a b wt = noTab by unfold halfT; rw [if_neg hen])
    have HE := Lib.hid hen
    clear hen HBG HAG HTB hfa hfb
    obtain ⟨z0, z1, f0, f1⟩ := HZ.out w4 hx4
    obtain ⟨er, her⟩ : ∃ er, er = errJ a b := ⟨_, rfl⟩
    have HER := Lib.hid her
    have hnz : ¬ er = 0 := by rw [her]; exact HE.out
    rw [← her]
    clear her
    go_wp2_with fail
    obtain ⟨W8, hW8⟩ : ∃ W8, W8 = (w4.setCell ⟨q + 1 + 1, 0, none⟩ (.slice none 0 0)).setCell ⟨q + 1 + 1, 1, none⟩ (.slice none 0 0) := ⟨_, rfl⟩
    obtain ⟨r0, r1⟩ := set2_cells (u0 := .slice none 0 0) (u1 := .slice none 0 0) z0 z1
    have HTA := Lib.hid ((TabAt.none_ w4 (fun b => w3.heap.size ≤ b)).set2 (u0 := .slice none 0 0) (u1 := .slice none 0 0) hqs hle3)
    have HEX := Lib.hid (show Ext w W8 by rw [hW8]; exact ((hxw.trans hx4).setCell (by simp; omega) _).setCell (by simp; omega) _)
    rw [← hW8] at r0 r1 HTA ⊢
    clear hW8 z0 z1 f0 f1
    go_wp2_with fail
    exact bodyPost_ret (v := .tuple #[.agg #[.slice none 0 0, .slice none 0 0], .int .i64 er]) (by simp [results, Tryz.results45, go_sem, r0, r1] <;> rfl) rfl (by rw [HT.out, ← HER.out]; exact ⟨none, none, 0, 0, rfl, Nat.le_refl _, Nat.le_refl _, HTA.out, HEX.out⟩)
  · have HT := Lib.hid (show halfT a b wt = ⟨a.cols, sortO ordL (halfR a b wt)⟩ by unfold halfT; rw [if_pos hez])
    have HOK := Lib.hid (JoinOk.of hez)
    have HEZ := Lib.hid hez
    have HJ := Lib.hid hJ
    have hrl := hfa.2.1
    have hcl := hfa.1
    have H3 := Lib.hid (show ∀ r ∈ halfR a b wt, wtL r ≤ 8000000 from fun r hr => Nat.le_trans (hfa.2.2 r (List.mem_filter.1 hr).1).2 (by decide))
    have HSL := Lib.hid (sortO_len TotC.row (halfR a b wt))
    have HEND := Lib.hid (accH_end a b wt)
    have HHL := Lib.hid (show (halfR a b wt).length ≤ 8000000 from Nat.le_trans (List.length_filter_le _ _) (Nat.le_trans hfa.2.1 (by decide)))
    have s1 := hx4.cell q1
    clear hez hJ hfa hfb HBG
    go_upto_region 6 with (fail)
    clear s1
    go_loopw [10, 26] (fun v u W => ∃ (k : Nat), u = .int .i64 k ∧ k ≤ a.rows.length ∧ Hid (OwnRows W w4.heap.size (fun _ => True) v (accH a b wt k)) ∧ Hid (Ext w4 W)) (fun _ u _ => a.rows.length - (intOf u).toNat)
    case atStart => exact ⟨0, rfl, Nat.zero_le _, Lib.hid (OwnRows.nil _ _ _), Lib.hid (Ext.refl _)⟩
    case round =>
      obtain ⟨k, rfl, hk, hown, hE⟩ := hrel
      have hE3 := hx4.trans hE.out
      by_cases hlt : k < a.rows.length
      · obtain ⟨ba, oa, rfl, hc⟩ := HA.out.rows.2 (by omega)
        obtain ⟨-, Ax, cx, h5, hlex, hvx⟩ := hc k hlt
        rw [Nat.mul_one] at h5
        have d5 := hE3.cell h5
        have HC := Lib.hid (HAG.out wr g a.rows[k] (okN ok w) Ax cx hE3 (HJ.out.ext hE.out) HOK.out (hvx.ext hE3) (HOK.out.la _ (List.getElem_mem hlt)))
        have HVX := Lib.hid hvx
        have HYES := Lib.hid (fun h => accH_yes (a := a) (b := b) (wt := wt) hlt h)
        have HNO := Lib.hid (fun h => accH_no (a := a) (b := b) (wt := wt) hlt h)
        have hsm : (accH a b wt k).length ≤ 8000000 := Nat.le_trans (accH_len a b wt k) (by omega)
        clear hc hvx h5
        generalize hasJ a b a.rows[k] = z at *
        generalize a.rows[k] = x at *
        cases hzw : (z == wt)
        · have HN := Lib.hid (HNO.out hzw)
          have hzw2 : z ≠ wt := fun e => by rw [e] at hzw; simp at hzw
          clear HYES HNO
          go_wp2_with (go_at_call 40; ((with_reducible refine (HC.out).mono ?_); rintro e w5 ⟨rfl, hy5⟩))
          have hO := Lib.hid (hown.out.ext hy5)
          go_roundw
          case rel => exact ⟨k + 1, by go_num, by omega, by rw [HN.out]; exact hO, Lib.hid (hE.out.trans hy5)⟩
          case measure => simp [intOf]; omega
        · have HN := Lib.hid (HYES.out hzw)
          have hzw2 : z = wt := by simpa using hzw
          subst hzw2
          clear HYES HNO hzw
          have hlw4 := hx4.le
          have HOW := Lib.hid (fun W (e : Ext wr W) => (⟨hown.out.ext e, (hE.out.trans e).le, (HVX.out.ext (hE3.trans e)).to (fun b hb => ⟨trivial, fun e2 => by have h1 := hown.out.lt e2.symm; have := hb.2; omega⟩)⟩ : OwnRows W w4.heap.size (fun _ => True) u10 (accH a b z k) ∧ w4.heap.size ≤ W.heap.size ∧ Vals W (fun b => True ∧ some b ≠ u10.ownBlock) Ax x))
          go_wp2_with (first | (go_at_call 40; ((with_reducible refine (HC.out).mono ?_); rintro e w5 ⟨rfl, hy5⟩)) | (at_builtin; refine own_pushR rfl (.tmp 35) (.tmp 37) rfl w4.heap.size (fun _ => True) w5 u10 (accH a b z k) x Ax cx rfl (HOW.out _ hy5).1 (HOW.out _ hy5).2.1 rfl rfl hlex (HOW.out _ hy5).2.2 hsm ?_; intro v9 w9 hO9 hg9))
          have hE9 : Ext w4 w9 := (hE.out.trans hy5).grown hg9 (fun k hk => (hown.out.lt hk).1)
          rw [← HN.out] at hO9
          go_roundw
          case rel => exact ⟨k + 1, by go_num, by omega, Lib.hid hO9, Lib.hid hE9⟩
          case measure => simp [intOf]; omega
      · have hkl : k = a.rows.length := by omega
        obtain ⟨A9, c9, e9, h9, hV9⟩ := hown.out.rows (Nat.le_trans (accH_len a b wt k) (by omega))
        rw [hkl, HEND.out] at hV9 h9
        rw [hkl, HEND.out] at e9
        subst e9
        have s0 := hE3.cell q0
        have hV9' := Lib.hid (hV9.to (ok' := fun _ => True) (fun _ _ => trivial))
        have hNW := Lib.hid (show Strs wr (okN ok w) A a.cols from HA.out.cols.ext hE3)
        have HCL := Lib.hid (c_Clone_str a.cols.length A c (a.cols.map Value.string) wr (fun e => hNW.out.none_ e) (by simp) hNW.out.news (fun u hu => by obtain ⟨s, -, rfl⟩ := List.mem_map.1 hu; rfl) (by omega))
        have hleE := hE3.le
        clear hown hE hkl hV9 HEND HAG HA
        generalize halfR a b wt = hr at *
        generalize hso : sortO ordL hr = so at *
        have HSO := Lib.hid hso
        clear hso
        go_wp2_with (first | (go_at_call 52; ((with_reducible refine (HCL.out).mono ?_); rintro e w6 ⟨v6, rfl, hO6, hx6⟩; obtain ⟨A5, c5, rfl, hc5, hV5⟩ := own_strs hO6 (by omega))) | (go_at_call 31; ((with_reducible refine (HTB.out _ A5 c5 A9 c9 hr (hE3.trans hx6) (hV5.ge hleE) (hV9'.out.ext hx6) HHL.out H3.out).mono ?_); rintro e w7 ⟨B7, d7, rfl, hd7, hT7, hx7⟩; obtain ⟨z0, z1, f0, f1⟩ := HZ.out w7 (hE3.trans (hx6.trans hx7)))))
        obtain ⟨W8, hW8⟩ : ∃ W8, W8 = (w7.setCell ⟨q + 1 + 1, 0, none⟩ (.slice A5 a.cols.length c5)).setCell ⟨q + 1 + 1, 1, none⟩ (.slice B7 hr.length d7) := ⟨_, rfl⟩
        obtain ⟨r0, r1⟩ := set2_cells (u0 := .slice A5 a.cols.length c5) (u1 := .slice B7 hr.length d7) z0 z1
        have HTA := Lib.hid ((hT7).set2 (u0 := .slice A5 a.cols.length c5) (u1 := .slice B7 hr.length d7) hqs hle3)
        have HEX := Lib.hid (show Ext w W8 by rw [hW8]; exact ((hxw.trans (hE3.trans (hx6.trans hx7))).setCell (by simp; omega) _).setCell (by simp; omega) _)
        rw [← hW8] at r0 r1 HTA ⊢
        clear hW8 z0 z1 f0 f1
        go_wp2_with fail
        exact bodyPost_ret (v := .tuple #[.agg #[.slice A5 a.cols.length c5, .slice B7 hr.length d7], .int .i64 0]) (by simp [results, Tryz.results45, go_sem, r0, r1] <;> rfl) rfl (by rw [HT.out, HEZ.out, ← HSO.out]; exact ⟨A5, B7, c5, d7, by rw [HSO.out, HSL.out], hc5, by rw [HSO.out, HSL.out]; exact hd7, HTA.out, HEX.out⟩)
set_option maxRecDepth 100000 in
set_option maxHeartbeats 1600000 in
theorem j_Semi (a b : Tab) (ok ok' : Nat → Prop) (A A' B B' : Option Addr) (c c' d d' : Nat) (w : World) (hz0 : ZeroAt w) (ha : TabAt w ok A B a) (hb : TabAt w ok' A' B' b) (hfa : TabFit a) (hfb : TabFit b) (hsa : ∀ s ∈ a.cols, s.size ≤ maxLen) (hsb : ∀ s ∈ b.cols, s.size ≤ maxLen) :
    Calls Tryz.prog 21 #[.agg #[.slice A a.cols.length c, .slice B a.rows.length d], .agg #[.slice A' b.cols.length c', .slice B' b.rows.length d']] w (TabRet w (halfT a b true) (errJ a b)) := by
  obtain ⟨q, w3, hq, hw3, q0, q1, p0, p1, hxw, hqs, hz⟩ := box_tab3 w A B A' B' a.cols.length c a.rows.length d b.cols.length c' b.rows.length d' 25 25 25
  have HZ := Lib.hid hz
  have HC := Lib.hid (j_half a b true ok ok' A A' B B' c c' d d' w3 (hz0.ext hxw) (ha.ext hxw) (hb.ext hxw) hfa hfb hsa hsb)
  have HW3 := Lib.hid hw3
  have HG := Lib.hid hq
  have hqw : w.heap.size ≤ q := Nat.le_of_eq hq.symm
  have hle3 := hxw.le
  clear ha hb hz hw3 hq
  generalize halfT a b true = t at *
  generalize errJ a b = er at *
  generalize a.cols.length = n1 at *
  generalize a.rows.length = n2 at *
  generalize b.cols.length = n3 at *
  generalize b.rows.length = n4 at *
  go_enter Tryz.func21, Tryz.ntmps21
  go_upto_region 1 with (fail)
  rw [← HW3.out, ← HG.out]
  clear HW3 HG
  go_wp2_with (go_at_call 45; ((with_reducible refine (HC.out).mono ?_); rintro e w4 ⟨A4, B4, c4, d4, rfl, hc4, hd4, hT4, hx4⟩; obtain ⟨z0, z1, f0, f1⟩ := HZ.out w4 hx4))
  obtain ⟨W8, hW8⟩ : ∃ W8, W8 = (w4.setCell ⟨q + 1 + 1, 0, none⟩ (.slice A4 t.cols.length c4)).setCell ⟨q + 1 + 1, 1, none⟩ (.slice B4 t.rows.length d4) := ⟨_, rfl⟩
  obtain ⟨r0, r1⟩ := set2_cells (u0 := .slice A4 t.cols.length c4) (u1 := .slice B4 t.rows.length d4) z0 z1
  have HTA := Lib.hid ((hT4).set2 (u0 := .slice A4 t.cols.length c4) (u1 := .slice B4 t.rows.length d4) hqs hle3)
  have HEX := Lib.hid (show Ext w W8 by rw [hW8]; exact ((hxw.trans hx4).setCell (by simp; omega) _).setCell (by simp; omega) _)
  rw [← hW8] at r0 r1 HTA ⊢
  clear hW8 z0 z1 f0 f1
  go_wp2_with fail
  exact bodyPost_ret (v := .tuple #[.agg #[.slice A4 t.cols.length c4, .slice B4 t.rows.length d4], .int .i64 er]) (by simp [results, Tryz.results21, go_sem, r0, r1] <;> rfl) rfl (by exact ⟨A4, B4, c4, d4, rfl, hc4, hd4, HTA.out, HEX.out⟩)
set_option maxRecDepth 100000 in
set_option maxHeartbeats 1600000 in
theorem j_Anti (a b : Tab) (ok ok' : Nat → Prop) (A A' B B' : Option Addr) (c c' d d' : Nat) (w : World) (hz0 : ZeroAt w) (ha : TabAt w ok A B a) (hb : TabAt w ok' A' B' b) (hfa : TabFit a) (hfb : TabFit b) (hsa : ∀ s ∈ a.cols, s.size ≤ maxLen) (hsb : ∀ s ∈ b.cols, s.size ≤ maxLen) :
    Calls Tryz.prog 23 #[.agg #[.slice A a.cols.length c, .slice B a.rows.length d], .agg #[.slice A' b.cols.length c', .slice B' b.rows.length d']] w (TabRet w (halfT a b false) (errJ a b)) := by
  obtain ⟨q, w3, hq, hw3, q0, q1, p0, p1, hxw, hqs, hz⟩ := box_tab3 w A B A' B' a.cols.length c a.rows.length d b.cols.length c' b.rows.length d' 25 25 25
  have HZ := Lib.hid hz
  have HC := Lib.hid (j_half a b false ok ok' A A' B B' c c' d d' w3 (hz0.ext hxw) (ha.ext hxw) (hb.ext hxw) hfa hfb hsa hsb)
  have HW3 := Lib.hid hw3
  have HG := Lib.hid hq
  have hqw : w.heap.size ≤ q := Nat.le_of_eq hq.symm
  have hle3 := hxw.le
  clear ha hb hz hw3 hq
  generalize halfT a b false = t at *
  generalize errJ a b = er at *
  generalize a.cols.length = n1 at *
  generalize a.rows.length = n2 at *
  generalize b.cols.length = n3 at *
  generalize b.rows.length = n4 at *
  go_enter Tryz.func23, Tryz.ntmps23
  go_upto_region 1 with (fail)
  rw [← HW3.out, ← HG.out]
  clear HW3 HG
  go_wp2_with (go_at_call 45; ((with_reducible refine (HC.out).mono ?_); rintro e w4 ⟨A4, B4, c4, d4, rfl, hc4, hd4, hT4, hx4⟩; obtain ⟨z0, z1, f0, f1⟩ := HZ.out w4 hx4))
  obtain ⟨W8, hW8⟩ : ∃ W8, W8 = (w4.setCell ⟨q + 1 + 1, 0, none⟩ (.slice A4 t.cols.length c4)).setCell ⟨q + 1 + 1, 1, none⟩ (.slice B4 t.rows.length d4) := ⟨_, rfl⟩
  obtain ⟨r0, r1⟩ := set2_cells (u0 := .slice A4 t.cols.length c4) (u1 := .slice B4 t.rows.length d4) z0 z1
  have HTA := Lib.hid ((hT4).set2 (u0 := .slice A4 t.cols.length c4) (u1 := .slice B4 t.rows.length d4) hqs hle3)
  have HEX := Lib.hid (show Ext w W8 by rw [hW8]; exact ((hxw.trans hx4).setCell (by simp; omega) _).setCell (by simp; omega) _)
  rw [← hW8] at r0 r1 HTA ⊢
  clear hW8 z0 z1 f0 f1
  go_wp2_with fail
  exact bodyPost_ret (v := .tuple #[.agg #[.slice A4 t.cols.length c4, .slice B4 t.rows.length d4], .int .i64 er]) (by simp [results, Tryz.results23, go_sem, r0, r1] <;> rfl) rfl (by exact ⟨A4, B4, c4, d4, rfl, hc4, hd4, HTA.out, HEX.out⟩)
end Go.Proofs.YtbjddimafilflaaGreatDoor

/- THE WALK over the reference's Left. -/
namespace Go.Proofs.YtbjddimafilflaaGreatDoor
open Go.RowKit Go.Sort
def othN (a b : List ByteArray) : Nat := (othersK a b b.length).length
def extJ (a b : List ByteArray) (x : List Val) : List Val := x ++ List.replicate (othN a b) nullV
def leftR (a b : Tab) : List (List Val) := natR a b ++ (a.rows.filter (fun x => !hasJ a b x)).map (extJ a.cols b.cols)
def leftT (a b : Tab) : Tab := if errJ a b = 0 then ⟨colsJ a.cols b.cols, sortO ordL (leftR a b)⟩ else noTab
def accL (a b : Tab) (k : Nat) : List (List Val) := natR a b ++ ((a.rows.take k).filter (fun x => !hasJ a b x)).map (extJ a.cols b.cols)
theorem accL_zero (a b : Tab) : accL a b 0 = natR a b := by unfold accL; simp
theorem accL_yes {a b : Tab} {k : Nat} (hk : k < a.rows.length) (h : hasJ a b a.rows[k] = false) : accL a b (k + 1) = accL a b k ++ [extJ a.cols b.cols a.rows[k]] := by
  unfold accL
  rw [List.take_succ_eq_append_getElem hk, List.filter_append, List.map_append, List.append_assoc]
  simp only [List.filter_cons, h, Bool.not_false, if_true, List.filter_nil, List.map_cons, List.map_nil]
theorem accL_no {a b : Tab} {k : Nat} (hk : k < a.rows.length) (h : hasJ a b a.rows[k] = true) : accL a b (k + 1) = accL a b k := by
  unfold accL
  rw [List.take_succ_eq_append_getElem hk, List.filter_append]
  simp only [List.filter_cons, h, List.filter_nil, Bool.not_true, Bool.false_eq_true, if_false, List.append_nil]
theorem accL_end (a b : Tab) : accL a b a.rows.length = leftR a b := by unfold accL leftR; rw [List.take_length]
theorem accL_len {a b : Tab} (ha : a.rows.length ≤ 2000) (hb : b.rows.length ≤ 2000) (k : Nat) (hk : k ≤ 2000) : (accL a b k).length ≤ 4004000 := by
  unfold accL
  rw [List.length_append, List.length_map]
  have h1 := natR_len ha hb
  have h2 := List.length_filter_le (fun x => !hasJ a b x) (a.rows.take k)
  rw [List.length_take] at h2
  omega
theorem cols_len (a b : List ByteArray) : (colsJ a b).length = a.length + othN a b := by unfold colsJ othN; rw [List.length_append, List.length_map]
theorem wt_rep : ∀ n : Nat, wtL (List.replicate n nullV) = n
  | 0 => by rw [List.replicate_zero, wtL]
  | n + 1 => by rw [List.replicate_succ, wtL_cons, wt_rep n]; unfold wtV; rw [show nullV.l = [] from rfl, wtL]; omega
theorem othN_le (a b : List ByteArray) : othN a b ≤ b.length := othersK_len
theorem ext_fit {a b : List ByteArray} {x : List Val} (hb : b.length ≤ 100) (hs : szL x) (hw : wtL x ≤ 10000) : wtL (extJ a b x) ≤ 8000000 ∧ szL (extJ a b x) := by
  have := othN_le a b
  unfold extJ
  refine ⟨by rw [wtL_append, wt_rep]; omega, szL_app hs (szL_of (fun v hv => by rw [(List.mem_replicate.1 hv).2]; exact szV_null))⟩
theorem leftR_fit {a b : Tab} (ha : TabFit a) (hb : TabFit b) (hb2 : ∀ r ∈ b.rows, r.length = b.cols.length) : ∀ r ∈ leftR a b, wtL r ≤ 8000000 ∧ szL r := fun r hr => by
  rcases List.mem_append.1 hr with h | h
  · exact ⟨Nat.le_trans (natR_fit ha hb hb2 r h).1 (by decide), (natR_fit ha hb hb2 r h).2⟩
  · obtain ⟨x, hx, rfl⟩ := List.mem_map.1 h
    have := ha.2.2 x (List.mem_filter.1 hx).1
    exact ext_fit hb.1 this.1 this.2
set_option maxRecDepth 100000 in
set_option maxHeartbeats 3200000 in
theorem r_Left (a b : Tab) (ok ok' : Nat → Prop) (A A' B B' : Option Addr) (c c' d d' : Nat) (w : World) (ha : TabAt w ok A B a) (hb : TabAt w ok' A' B' b) (hfa : TabFit a) (hfb : TabFit b) (hcp : a.cols.length ≤ c) (hcp' : b.cols.length ≤ c') :
    Calls Tryz.prog 20 #[.agg #[.slice A a.cols.length c, .slice B a.rows.length d], .agg #[.slice A' b.cols.length c', .slice B' b.rows.length d']] w (TabRet w (leftT a b) (errJ a b)) := by
  obtain ⟨q, w3, hq, hw3, q0, q1, p0, p1, hxw, hqs, hz⟩ := box_tab3 w A B A' B' a.cols.length c a.rows.length d b.cols.length c' b.rows.length d' 25 25 25
  have hm1 := ha.rows.len
  have HZ := Lib.hid hz
  have HBO := Lib.hid (fun W (e : Ext w3 W) => r_both a b ok ok' A B A' B' c d c' d' W (ha.ext (hxw.trans e)) (hb.ext (hxw.trans e)) hcp hcp')
  have HCO := Lib.hid (fun W (e : Ext w3 W) => r_cols a.cols b.cols ok ok' A A' B B' c c' a.rows.length d b.rows.length d' W (ha.cols.ext (hxw.trans e)) (hb.cols.ext (hxw.trans e)) (Nat.le_trans hfa.1 (by decide)) (Nat.le_trans hfb.1 (by decide)))
  have HPA := Lib.hid (fun W (e : Ext w3 W) h1 h2 => r_pairsO a b ok ok' A A' B B' c c' d d' W (ha.ext (hxw.trans e)) (hb.ext (hxw.trans e)) h1 h2 (Nat.le_trans hfa.1 (by decide)) (Nat.le_trans hfb.1 (by decide)) hfa.2.1 hfb.2.1)
  have HA := Lib.hid (ha.bnd.ext hxw)
  have HB := Lib.hid (hb.bnd.ext hxw)
  have HW3 := Lib.hid hw3
  have HG := Lib.hid hq
  have hqw : w.heap.size ≤ q := Nat.le_of_eq hq.symm
  have hle3 := hxw.le
  clear ha hb hz hw3 hq
  have HE := Lib.hid (show errJ a b = if chkT a = 0 then chkT b else chkT a from rfl)
  rw [← HE.out] at HBO
  go_enter Tryz.func20, Tryz.ntmps20
  go_upto_region 1 with (fail)
  rw [← HW3.out, ← HG.out]
  clear HW3 HG
  obtain ⟨z0, z1, f0, f1⟩ := HZ.out w3 (Ext.refl _)
  by_cases he : errJ a b = 0
  · have HT := Lib.hid (show leftT a b = ⟨colsJ a.cols b.cols, sortO ordL (leftR a b)⟩ by unfold leftT; rw [if_pos he])
    obtain ⟨hA, hB⟩ := errJ_zero he
    have hrl := hfa.2.1
    have hcl := hfa.1
    have hcl2 := hfb.1
    have H1 := Lib.hid (show TabOk a from fun r hr => ⟨hA.2 r hr, (hfa.2.2 r hr).1⟩)
    have H2 := Lib.hid (show TabOk b from fun r hr => ⟨hB.2 r hr, (hfb.2.2 r hr).1⟩)
    have H3 := Lib.hid (leftR_fit hfa hfb hB.2)
    have HLN := Lib.hid (fun k (hk : k ≤ 2000) => accL_len (a := a) (b := b) hfa.2.1 hfb.2.1 k hk)
    have HLE := Lib.hid (accL_end a b)
    have HSR := Lib.hid (fun W A2 c2 h => r4_SortRows (leftR a b) (fun _ => True) A2 c2 W (by rw [← HLE.out]; exact Nat.le_trans (HLN.out _ hrl) (by decide)) H3.out h)
    have HSL := Lib.hid (sortO_len TotC.row (leftR a b))
    have HCL := Lib.hid (cols_len a.cols b.cols)
    have hno := othN_le a.cols b.cols
    rw [he] at HBO
    have HEZ := Lib.hid he
    rw [← accL_zero] at HPA
    clear hA hB he hfa hfb HE z0 z1 f0 f1
    go_upto_region 4 with ((go_at_call 37; ((with_reducible refine (HBO.out _ (Ext.refl _)).mono ?_); rintro e w4 ⟨rfl, hx4⟩)))
    clear HBO
    have q0' := hx4.cell q0
    have q1' := hx4.cell q1
    have p0' := hx4.cell p0
    have p1' := hx4.cell p1
    go_upto_region 6 with ((go_at_call 39; ((with_reducible refine (HPA.out _ hx4 H1.out H2.out).mono ?_); rintro e w5 ⟨v0, rfl, hO5, hx5⟩)))
    have hO5' := Lib.hid (hO5.mono hx4.le)
    clear HPA q0' q1' p0' p1' hO5
    go_loopw [7, 8] (fun v u W => ∃ (k : Nat), u = .int .i64 k ∧ k ≤ a.rows.length ∧ Hid (OwnRows W w3.heap.size (fun _ => True) v (accL a b k)) ∧ Hid (Ext w3 W)) (fun _ u _ => a.rows.length - (intOf u).toNat)
    case atStart => exact ⟨0, rfl, Nat.zero_le _, hO5', Lib.hid (hx4.trans hx5)⟩
    case round =>
      clear hO5'
      obtain ⟨k, rfl, hk, hown, hE⟩ := hrel
      have s1 := hE.out.cell q1
      have s0 := hE.out.cell q0
      by_cases hlt : k < a.rows.length
      · obtain ⟨ba, oa, rfl, hc⟩ := HA.out.rows.2 (by omega)
        obtain ⟨-, Ax, cx, h5, hlex, hvx⟩ := hc k hlt
        rw [Nat.mul_one] at h5
        have hx := H1.out _ (List.getElem_mem hlt)
        have HC := Lib.hid (fun W (e : Ext w3 W) => r_has a b a.rows[k] (okN ok w) (okN ok' w) (okN ok w) A A' (some ⟨ba, oa, none⟩) B' Ax c c' d d' cx W (HA.out.ext e) (HB.out.ext e) (hvx.ext e) hx.1 hx.2 H2.out)
        have HVX := Lib.hid hvx
        have HXL := Lib.hid (show a.rows[k].length ≤ 100 by rw [hx.1]; exact hcl)
        have HYES := Lib.hid (fun h => accL_yes (a := a) (b := b) hlt h)
        have HNO := Lib.hid (fun h => accL_no (a := a) (b := b) hlt h)
        change Hid (∀ W, Ext w3 W → Calls _ _ _ W (fun e w' => e = .returned (.bool (hasJ a b a.rows[k])) ∧ Ext W w')) at HC
        change Hid (_ → _ = accL a b k ++ [a.rows[k] ++ List.replicate (othN a.cols b.cols) nullV]) at HYES
        have hsm : (accL a b k).length ≤ 8000000 := Nat.le_trans (HLN.out k (by omega)) (by decide)
        clear hc hvx hx
        generalize hasJ a b a.rows[k] = z at *
        generalize a.rows[k] = x at *
        have hE' := hE.out
        go_upto_region 8 with (fail)
        (have MKR1 := Lib.hid (fun V (e : Ext w3 V) => (⟨e.cell q0, e.cell q1, e.cell p0, e.cell p1, e.cell h5, e⟩ : V.cell? ⟨q, 0, none⟩ = some (.slice A a.cols.length c) ∧ V.cell? ⟨q, 1, none⟩ = some (.slice (some ⟨ba, oa, none⟩) a.rows.length d) ∧ V.cell? ⟨q + 1, 0, none⟩ = some (.slice A' b.cols.length c') ∧ V.cell? ⟨q + 1, 1, none⟩ = some (.slice B' b.rows.length d') ∧ V.cell? ⟨ba, oa + k, none⟩ = some (.slice Ax x.length cx) ∧ Ext w3 V)); go_region_held3 (fun V => V.cell? ⟨q, 0, none⟩ = some (.slice A a.cols.length c) ∧ V.cell? ⟨q, 1, none⟩ = some (.slice (some ⟨ba, oa, none⟩) a.rows.length d) ∧ V.cell? ⟨q + 1, 0, none⟩ = some (.slice A' b.cols.length c') ∧ V.cell? ⟨q + 1, 1, none⟩ = some (.slice B' b.rows.length d') ∧ V.cell? ⟨ba, oa + k, none⟩ = some (.slice Ax x.length cx) ∧ Ext w3 V) ((exact MKR1.out _ (by repeat (first | with_reducible exact Ext.refl _ | with_reducible assumption | with_reducible refine Ext.drew ?_ | with_reducible refine Ext.drewN ?_ _ | with_reducible refine Ext.alloc ?_ _)))) ((with_reducible refine (HC.out _ (by repeat (first | with_reducible exact Ext.refl _ | with_reducible assumption | with_reducible refine Ext.drew ?_ | with_reducible refine Ext.drewN ?_ _ | with_reducible refine Ext.alloc ?_ _))).mono ?_; rintro e w5 ⟨rfl, hx5⟩; have hy5 : Ext wr w5 := Ext.trans (by repeat (first | with_reducible exact Ext.refl _ | with_reducible assumption | with_reducible refine Ext.drew ?_ | with_reducible refine Ext.drewN ?_ _ | with_reducible refine Ext.alloc ?_ _)) hx5; replace hx5 : Ext w3 w5 := Ext.trans (by repeat (first | with_reducible exact Ext.refl _ | with_reducible assumption | with_reducible refine Ext.drew ?_ | with_reducible refine Ext.drewN ?_ _ | with_reducible refine Ext.alloc ?_ _)) hx5)); clear MKR1)
        clear ‹_ ∧ _› HC hE' hE s0 s1
        have hO := Lib.hid (hown.out.ext hy5)
        clear hown hy5
        cases z
        · have HN := Lib.hid (HYES.out rfl)
          clear HYES HNO
          have hle5 := hx5.le
          have HNUL := Lib.hid (fun W => r4_Null W)
          have t0 := hx5.cell q0
          generalize othN a.cols b.cols = no at *
          rw [HCL.out] at HCO
          go_upto_region 11 with (fail)
          simp only [Bool.not_false]
          go_loopw [9, 10] (fun v u W => ∃ (m : Nat) (cs : List (List Value)), u = .int .i64 ((a.cols.length + m : Nat) : Int) ∧ m ≤ no ∧ Hid (W.ownsRow w5.heap.size 40 5 v m cs.flatten) ∧ Hid (cs.length = m) ∧ Hid (CopyTo w5 (fun _ => False) (List.replicate m nullV) cs) ∧ Hid (Ext w5 W)) (fun _ u _ => a.cols.length + no - (intOf u).toNat)
          case atStart => exact ⟨0, [], by rw [Nat.add_zero], Nat.zero_le _, Lib.hid (World.ownsRow_nil _ _ _ _), Lib.hid rfl, Lib.hid (CopyTo.nil _ _ _), Lib.hid (Ext.refl _)⟩
          case round =>
            clear t0
            obtain ⟨m, cs, rfl, hm, hown, hcs, hct, hE⟩ := hrel
            have hE3 := hx5.trans hE.out
            have s0 := hE3.cell q0
            have s1 := hE3.cell q1
            have t0 := hE3.cell p0
            have t1 := hE3.cell p1
            by_cases hml : m < no
            · have hown' := hown.out
              have hE' := hE.out
              have HCT := Lib.hid (show CopyTo w5 (fun _ => False) (List.replicate (m + 1) nullV) (cs ++ [nullV.cells none 0]) by
                rw [List.replicate_succ']
                exact hct.out.snoc (by rw [hcs.out, List.length_replicate]) nullV (Nat.le_refl _) (SliceR.nil _ _ _))
              have hmb : m + 1 ≤ 8388608 := by omega
              have hnc : ((a.cols.length + no : Nat) : Int) = (a.cols.length : Int) + (no : Int) := by omega
              have hmc : ((a.cols.length + m : Nat) : Int) = (a.cols.length : Int) + (m : Int) := by omega
              clear hown hct hE
              go_wp2_with (first | (go_at_call 38; ((with_reducible refine (HCO.out _ hE3).mono ?_); rintro e w6 ⟨A6, c6, rfl, hc6, hV6, hx6⟩)) | (go_at_call 43; ((with_reducible refine (HNUL.out _).mono ?_); rintro e w7 ⟨rfl, hx7⟩)) | (at_builtin; refine own_pushF T_rowV rfl (.tmp 48) (.tmp 50) rfl w5 w7 _ m cs.flatten (nullV.cells none 0) rfl (own_ext (own_ext hown' hx6) hx7) (hE'.trans (hx6.trans hx7)) rfl rfl rfl (Val.cells_one _ _ _) hmb (by decide) ?_; intro v2 w9 hown2 hE9 hF9))
              have HO2 := Lib.hid (show w9.ownsRow w5.heap.size 40 5 v2 (m + 1) (cs ++ [nullV.cells none 0]).flatten by rw [List.flatten_append]; simpa using hown2)
              have HE9 := Lib.hid hE9
              clear hF9 hown2 hE9 hown'
              go_roundw
              case rel => exact ⟨m + 1, cs ++ [nullV.cells none 0], by go_num, by omega, HO2, Lib.hid (by rw [List.length_append, hcs.out]; rfl), HCT, HE9⟩
              case measure => simp [intOf]; omega
            · have hmn : m = no := by omega
              subst hmn
              obtain ⟨A4, c4, e4, hc4, hV4⟩ := (hct.out.ext hE.out).fin (ok' := fun b => w5.heap.size ≤ b) (by rw [List.length_replicate]; exact hown.out) (by rw [hcs.out, List.length_replicate]) (by rw [List.length_replicate]; omega) (fun _ h => h.elim) (fun _ h => h)
              subst e4
              have HGL := Lib.hid (fun W (e : Ext w3 W) A4 c4 h4 => r_glued x (List.replicate m nullV) (okN ok w) (fun b => w5.heap.size ≤ b) Ax A4 cx c4 W (HVX.out.ext e) h4 (Nat.le_trans HXL.out (by decide)) (by rw [List.length_replicate]; omega))
              have HV4 := Lib.hid hV4
              have hE' := Lib.hid hE.out
              have h5' := hE3.cell h5
              have hmc : ((a.cols.length + m : Nat) : Int) = (a.cols.length : Int) + (m : Int) := by omega
              clear hct hown hE hcs hV4
              generalize List.replicate m nullV = nl at *
              generalize x ++ nl = xr at *
              go_wp2_with (first | (go_at_call 38; ((with_reducible refine (HCO.out _ hE3).mono ?_); rintro e w6 ⟨A6, c6, rfl, hc6, hV6, hx6⟩; have s6 := hx6.cell s1; have t6 := hx6.cell h5')) | (go_at_call 44; ((with_reducible refine (HGL.out _ (hE3.trans hx6) A4 c4 (HV4.out.ext hx6)).mono ?_); rintro e w7 ⟨A7, c7, rfl, hc7, hV7, hx7⟩)) | (at_builtin; refine own_pushR rfl (.tmp 52) (.tmp 60) rfl w3.heap.size (fun _ => True) w7 u7 (accL a b k) xr A7 c7 rfl (hO.out.ext (hE'.out.trans (hx6.trans hx7))) ((hE3.trans (hx6.trans hx7)).le) rfl rfl hc7 (hV7.to (fun b hb => ⟨trivial, fun e => by have h1 := hO.out.lt e.symm; have h2 := hE'.out.le; have h3 := hx6.le; rcases hb with (h | h) | h <;> first | omega | (have := h.2; omega)⟩)) hsm ?_; intro v9 w9 hO9 hg9))
              have hE9 : Ext w3 w9 := (hE3.trans (hx6.trans hx7)).grown hg9 (fun k hk => (hO.out.lt hk).1)
              rw [← HN.out] at hO9
              go_roundw
              case rel => exact ⟨k + 1, by go_num, by omega, Lib.hid hO9, Lib.hid hE9⟩
              case measure => simp [intOf]; omega
        · have HN := Lib.hid (HNO.out rfl)
          clear HYES HNO
          go_wp2_with fail
          go_roundw
          case rel => exact ⟨k + 1, by go_num, by omega, by rw [HN.out]; exact hO, Lib.hid hx5⟩
          case measure => simp [intOf]; omega
      · have hkl : k = a.rows.length := by omega
        obtain ⟨A9, c9, e9, h9, hV9⟩ := hown.out.rows (Nat.le_trans (HLN.out k (by omega)) (by decide))
        rw [hkl, HLE.out] at hV9 h9
        rw [hkl, HLE.out] at e9
        subst e9
        have hE' := hE.out
        have hV9' := Lib.hid (hV9.to (ok' := fun _ => True) (fun _ _ => trivial))
        have hleE := hE'.le
        have t0 := hE'.cell p0
        have t1 := hE'.cell p1
        clear hown hE hkl hV9 HLN HLE HCL
        generalize colsJ a.cols b.cols = cs at *
        generalize leftR a b = hr at *
        generalize sortO ordL hr = so at *
        go_wp2_with (first | (go_at_call 38; ((with_reducible refine (HCO.out _ hE').mono ?_); rintro e w6 ⟨A5, c5, rfl, hc5, hV5, hx6⟩; replace hV5 := hV5.ge (m' := w3.heap.size) hleE)) | (go_at_call 15; ((with_reducible refine (HSR.out _ A9 c9 (hV9'.out.ext hx6)).mono ?_); rintro e w7 ⟨A7, c7, rfl, hc7, hV7, hx7⟩; replace hV7 := hV7.to (ok' := fun b => w3.heap.size ≤ b) (fun b hb => Nat.le_trans hleE (Nat.le_trans hx6.le hb)); replace hV5 := hV5.ext hx7; replace hx7 : Ext w3 w7 := hE'.trans (hx6.trans hx7); obtain ⟨z0, z1, f0, f1⟩ := HZ.out w7 hx7)))
        obtain ⟨W8, hW8⟩ : ∃ W8, W8 = (w7.setCell ⟨q + 1 + 1, 0, none⟩ (.slice A5 cs.length c5)).setCell ⟨q + 1 + 1, 1, none⟩ (.slice A7 hr.length c7) := ⟨_, rfl⟩
        obtain ⟨r0, r1⟩ := set2_cells (u0 := .slice A5 cs.length c5) (u1 := .slice A7 hr.length c7) z0 z1
        have HTA := Lib.hid ((show TabAt w7 (fun b => w3.heap.size ≤ b) A5 A7 ⟨cs, so⟩ from ⟨hV5, hV7⟩).set2 (u0 := .slice A5 cs.length c5) (u1 := .slice A7 hr.length c7) hqs hle3)
        have HEX := Lib.hid (show Ext w W8 by rw [hW8]; exact ((hxw.trans hx7).setCell (by simp; omega) _).setCell (by simp; omega) _)
        rw [← hW8] at r0 r1 HTA ⊢
        clear hW8 z0 z1 f0 f1
        go_wp2_with fail
        exact bodyPost_ret (v := .tuple #[.agg #[.slice A5 cs.length c5, .slice A7 hr.length c7], .int .i64 0]) (by simp [results, Tryz.results20, go_sem, r0, r1] <;> rfl) rfl (by rw [HT.out, HEZ.out]; exact ⟨A5, A7, c5, c7, by rw [HSL.out], hc5, by rw [HSL.out]; exact hc7, HTA.out, HEX.out⟩)
  · have HT := Lib.hid (show leftT a b = noTab by unfold leftT; rw [if_neg he])
    have hen : ¬ (errJ a b) = 0 := he
    clear HE he hfa hfb
    generalize errJ a b = er at *
    go_wp2_with ((go_at_call 37; ((with_reducible refine (HBO.out _ (Ext.refl _)).mono ?_); rintro e w4 ⟨rfl, hx4⟩; obtain ⟨z0, z1, f0, f1⟩ := HZ.out w4 hx4)))
    obtain ⟨W8, hW8⟩ : ∃ W8, W8 = (w4.setCell ⟨q + 1 + 1, 0, none⟩ (.slice none 0 0)).setCell ⟨q + 1 + 1, 1, none⟩ (.slice none 0 0) := ⟨_, rfl⟩
    obtain ⟨r0, r1⟩ := set2_cells (u0 := .slice none 0 0) (u1 := .slice none 0 0) z0 z1
    have HTA := Lib.hid ((TabAt.none_ w4 (fun b => w3.heap.size ≤ b)).set2 (u0 := .slice none 0 0) (u1 := .slice none 0 0) hqs hle3)
    have HEX := Lib.hid (show Ext w W8 by rw [hW8]; exact ((hxw.trans hx4).setCell (by simp; omega) _).setCell (by simp; omega) _)
    rw [← hW8] at r0 r1 HTA ⊢
    clear hW8 z0 z1 f0 f1
    go_wp2_with fail
    exact bodyPost_ret (v := .tuple #[.agg #[.slice none 0 0, .slice none 0 0], .int .i64 er]) (by simp [results, Tryz.results20, go_sem, r0, r1] <;> rfl) rfl (by rw [HT.out]; exact ⟨none, none, 0, 0, rfl, Nat.le_refl _, Nat.le_refl _, HTA.out, HEX.out⟩)
end Go.Proofs.YtbjddimafilflaaGreatDoor

/- THE WALK over join.Left. -/
namespace Go.Proofs.YtbjddimafilflaaGreatDoor
open Go.RowKit Go.Sort
def nullC : Array Value := #[.int .i64 0, .int .i64 0, .int .i64 0, .string ⟨#[]⟩, .slice none 0 0]
theorem run_make_vals (n : Nat) (hn : n ≤ 1000000) (W : World) : (Instr.makeSlice 37 (.int .i64 (n : Int)) (.int .i64 (n : Int))).run Tryz.prog W = .ok (.slice (some ⟨W.heap.size, 0, none⟩) n n) (W.alloc (.cells (madeCells nullC (n * 5)) 40)) := by
  obtain ⟨i, hi, h0, h1, h2⟩ := info_parts (show (Tryz.prog.info? 40).map (fun i => (i.zero, i.size, i.bytes)) = some (some (.agg nullC), 5, 64) by kernel_rfl)
  have h := run_make (P := Tryz.prog) W 37 40 i (.agg nullC) Tryz.underlying37 hi h0 .i64 .i64 n n (by omega) (by omega) (by rw [h2]; omega) (by omega)
  rw [h1] at h
  simp only [Int.toNat_natCast] at h
  exact h
theorem made_get (n k j : Nat) (hk : k < n) (hj : j < 5) : (madeCells nullC (n * 5))[k * 5 + j]? = nullC[j]? := by
  unfold madeCells
  have hlt : k * 5 + j < n * 5 := by omega
  rw [Array.getElem?_map, Array.getElem?_eq_getElem (by simpa using hlt)]
  simp only [Option.map_some, Array.getElem_range]
  have h5 : nullC.size = 5 := rfl
  rw [h5, show (k * 5 + j) % 5 = j by omega]
  match j, hj with
  | 0, _ => rfl
  | 1, _ => rfl
  | 2, _ => rfl
  | 3, _ => rfl
  | 4, _ => rfl
theorem made_vals (w : World) (n : Nat) (hn : n ≤ 1000000) : Vals (w.alloc (.cells (madeCells nullC (n * 5)) 40)) (fun b => w.heap.size ≤ b) (some ⟨w.heap.size, 0, none⟩) (List.replicate n nullV) := by
  refine ⟨by rw [List.length_replicate]; omega, fun _ => ⟨w.heap.size, 0, rfl, fun k hk => ?_⟩⟩
  rw [List.length_replicate] at hk
  have hc : ∀ j, j < 5 → (w.alloc (.cells (madeCells nullC (n * 5)) 40)).cell? ⟨w.heap.size, 0 + k * 5 + j, none⟩ = nullC[j]? := fun j hj => by
    rw [cell_of_row _ _ _ _ _ _ (heap_alloc_new w _), Nat.zero_add]
    exact made_get n k j hk hj
  rw [List.getElem_replicate]
  exact VCells.iff.2 ⟨Nat.le_refl _, none, 0, ⟨hc 0 (by decide), hc 1 (by decide), hc 2 (by decide), hc 3 (by decide), hc 4 (by decide)⟩, Nat.le_refl _, SliceR.nil _ _ _⟩
/-- what Left lists, the natural rows in any order -/
def accM (a b : Tab) (N : List (List Val)) (k : Nat) : List (List Val) := N ++ ((a.rows.take k).filter (fun x => !hasJ a b x)).map (extJ a.cols b.cols)
theorem accM_zero (a b : Tab) (N : List (List Val)) : accM a b N 0 = N := by unfold accM; simp
theorem accM_yes {a b : Tab} {N : List (List Val)} {k : Nat} (hk : k < a.rows.length) (h : hasJ a b a.rows[k] = false) : accM a b N (k + 1) = accM a b N k ++ [a.rows[k] ++ List.replicate (othersK a.cols b.cols b.cols.length).length nullV] := by
  unfold accM
  rw [List.take_succ_eq_append_getElem hk, List.filter_append, List.map_append, List.append_assoc]
  simp only [List.filter_cons, h, Bool.not_false, if_true, List.filter_nil, List.map_cons, List.map_nil]
  rfl
theorem accM_no {a b : Tab} {N : List (List Val)} {k : Nat} (hk : k < a.rows.length) (h : hasJ a b a.rows[k] = true) : accM a b N (k + 1) = accM a b N k := by
  unfold accM
  rw [List.take_succ_eq_append_getElem hk, List.filter_append]
  simp only [List.filter_cons, h, List.filter_nil, Bool.not_true, Bool.false_eq_true, if_false, List.append_nil]
theorem accM_end (a b : Tab) {N : List (List Val)} (hN : N.Perm (natR a b)) : (accM a b N a.rows.length).Perm (leftR a b) := by
  unfold accM leftR
  rw [List.take_length]
  exact hN.append_right _
theorem accM_len {a b : Tab} (ha : a.rows.length ≤ 2000) (hb : b.rows.length ≤ 2000) {N : List (List Val)} (hN : N.Perm (natR a b)) (k : Nat) (hk : k ≤ 2000) : (accM a b N k).length ≤ 4004000 := by
  unfold accM
  rw [List.length_append, List.length_map, hN.length_eq]
  have h1 := natR_len ha hb
  have h2 := List.length_filter_le (fun x => !hasJ a b x) (a.rows.take k)
  rw [List.length_take] at h2
  omega
set_option maxRecDepth 100000 in
set_option maxHeartbeats 3200000 in
theorem j_Left (a b : Tab) (ok ok' : Nat → Prop) (A A' B B' : Option Addr) (c c' d d' : Nat) (w : World) (hz0 : ZeroAt w) (ha : TabAt w ok A B a) (hb : TabAt w ok' A' B' b) (hfa : TabFit a) (hfb : TabFit b) (hsa : ∀ s ∈ a.cols, s.size ≤ maxLen) (hsb : ∀ s ∈ b.cols, s.size ≤ maxLen) :
    Calls Tryz.prog 19 #[.agg #[.slice A a.cols.length c, .slice B a.rows.length d], .agg #[.slice A' b.cols.length c', .slice B' b.rows.length d']] w (TabRet w (leftT a b) (errJ a b)) := by
  obtain ⟨q, w3, hq, hw3, q0, q1, p0, p1, hxw, hqs, hz⟩ := box_tab3 w A B A' B' a.cols.length c a.rows.length d b.cols.length c' b.rows.length d' 25 25 25
  have hm1 := ha.rows.len
  have HZ := Lib.hid hz
  have HBG := Lib.hid (j_begin a b ok ok' A A' B B' c c' d d' w3 (ha.ext hxw) (hb.ext hxw) hsa hsb (Nat.le_trans hfa.1 (by decide)) (Nat.le_trans hfb.1 (by decide)))
  have HCO := Lib.hid (fun W g (h : JoinAt W (fun _ => True) g a b) => j_columns a b (fun _ => True) g W h (Nat.le_trans hfa.1 (by decide)) (Nat.le_trans hfb.1 (by decide)))
  have HNA := Lib.hid (fun W g (e : Ext w3 W) (h : JoinAt W (fun _ => True) g a b) (hok : JoinOk a b) => j_natural a b g W h (hz0.ext (hxw.trans e)) hok hfa hfb)
  have HAG := Lib.hid (fun W g (r : List Val) okr X cx (e : Ext w3 W) (h : JoinAt W (fun _ => True) g a b) (hok : JoinOk a b) (hv : Vals W okr X r) (hr : r.length = a.cols.length) => j_agrees a b g r okr X cx W h (hz0.ext (hxw.trans e)) hok hv hr (Nat.le_trans hfb.1 (by decide)))
  have HA := Lib.hid (ha.bnd.ext hxw)
  have HTB := Lib.hid (fun W A1 c1 B1 d1 N (e : Ext w3 W) (h1 : Strs W (fun b => w3.heap.size ≤ b) A1 (colsJ a.cols b.cols)) (h2 : Rows W (fun _ => True) B1 N) (hl : N.length ≤ 8000000) (hw : ∀ r ∈ N, wtL r ≤ 8000000) => j_table (colsJ a.cols b.cols) N (fun _ => True) w3.heap.size A1 B1 c1 d1 W h1 h2 (hz0.ext (hxw.trans e)) e.le hl hw)
  have HW3 := Lib.hid hw3
  have HG := Lib.hid hq
  have hqw : w.heap.size ≤ q := Nat.le_of_eq hq.symm
  have hle3 := hxw.le
  clear ha hb hz hw3 hq hz0
  go_enter Tryz.func19, Tryz.ntmps19
  go_upto_region 1 with (fail)
  rw [← HW3.out, ← HG.out]
  clear HW3 HG
  go_upto_region 2 with (go_at_call 30; ((with_reducible refine (HBG.out).mono ?_); rintro e w4 ⟨hor, hx4⟩; rcases hor with ⟨hen, rfl⟩ | ⟨hez, g, rfl, hJ⟩))
  · have HT := Lib.hid (show leftT a b = noTab by unfold leftT; rw [if_neg hen])
    have HE := Lib.hid hen
    clear hen HBG HAG HTB HCO HNA hfa hfb
    obtain ⟨z0, z1, f0, f1⟩ := HZ.out w4 hx4
    obtain ⟨er, her⟩ : ∃ er, er = errJ a b := ⟨_, rfl⟩
    have HER := Lib.hid her
    have hnz : ¬ er = 0 := by rw [her]; exact HE.out
    rw [← her]
    clear her
    go_wp2_with fail
    obtain ⟨W8, hW8⟩ : ∃ W8, W8 = (w4.setCell ⟨q + 1 + 1, 0, none⟩ (.slice none 0 0)).setCell ⟨q + 1 + 1, 1, none⟩ (.slice none 0 0) := ⟨_, rfl⟩
    obtain ⟨r0, r1⟩ := set2_cells (u0 := .slice none 0 0) (u1 := .slice none 0 0) z0 z1
    have HTA := Lib.hid ((TabAt.none_ w4 (fun b => w3.heap.size ≤ b)).set2 (u0 := .slice none 0 0) (u1 := .slice none 0 0) hqs hle3)
    have HEX := Lib.hid (show Ext w W8 by rw [hW8]; exact ((hxw.trans hx4).setCell (by simp; omega) _).setCell (by simp; omega) _)
    rw [← hW8] at r0 r1 HTA ⊢
    clear hW8 z0 z1 f0 f1
    go_wp2_with fail
    exact bodyPost_ret (v := .tuple #[.agg #[.slice none 0 0, .slice none 0 0], .int .i64 er]) (by simp [results, Tryz.results19, go_sem, r0, r1] <;> rfl) rfl (by rw [HT.out, ← HER.out]; exact ⟨none, none, 0, 0, rfl, Nat.le_refl _, Nat.le_refl _, HTA.out, HEX.out⟩)
  · have HT := Lib.hid (show leftT a b = ⟨colsJ a.cols b.cols, sortO ordL (leftR a b)⟩ by unfold leftT; rw [if_pos hez])
    have HOK := Lib.hid (JoinOk.of hez)
    have HEZ := Lib.hid hez
    have HJ := Lib.hid hJ
    have hrl := hfa.2.1
    have hrb := hfb.2.1
    have hcl := hfa.1
    have hcb := hfb.1
    have HWT := Lib.hid (fun r hr => (leftR_fit hfa hfb HOK.out.lb r hr).1)
    clear hez hJ hfa hfb HBG
    go_upto_region 5 with (go_at_call 33; ((with_reducible refine (HNA.out _ _ hx4 HJ.out HOK.out).mono ?_); rintro e w5 ⟨v5, N, rfl, hN, hO5, hx5⟩))
    have HN := Lib.hid hN
    have HEND := Lib.hid (accM_end a b hN)
    have HLEN := Lib.hid (fun k (hk : k ≤ 2000) => accM_len hrl hrb hN k hk)
    have HO5 := Lib.hid (show OwnRows w5 w4.heap.size (fun _ => True) v5 (accM a b N 0) by rw [accM_zero]; exact hO5)
    have s1 := (hx4.trans hx5).cell q1
    have HX5 := Lib.hid hx5
    clear HNA hN hO5 hx5
    go_upto_region 6 with (fail)
    clear s1
    go_loopw [8, 26] (fun v u W => ∃ (k : Nat), u = .int .i64 k ∧ k ≤ a.rows.length ∧ Hid (OwnRows W w4.heap.size (fun _ => True) v (accM a b N k)) ∧ Hid (Ext w4 W)) (fun _ u _ => a.rows.length - (intOf u).toNat)
    case atStart => exact ⟨0, rfl, Nat.zero_le _, HO5, HX5⟩
    case round =>
      clear HO5 HX5
      obtain ⟨k, rfl, hk, hown, hE⟩ := hrel
      have hE3 := hx4.trans hE.out
      by_cases hlt : k < a.rows.length
      · obtain ⟨ba, oa, rfl, hc⟩ := HA.out.rows.2 (by omega)
        obtain ⟨-, Ax, cx, h5, hlex, hvx⟩ := hc k hlt
        rw [Nat.mul_one] at h5
        have d5 := hE3.cell h5
        have HC := Lib.hid (HAG.out wr g a.rows[k] (okN ok w) Ax cx hE3 (HJ.out.ext hE.out) HOK.out (hvx.ext hE3) (HOK.out.la _ (List.getElem_mem hlt)))
        have HVX := Lib.hid hvx
        have HXL := Lib.hid (show a.rows[k].length ≤ 100 by rw [HOK.out.la _ (List.getElem_mem hlt)]; exact hcl)
        have HYES := Lib.hid (fun h => accM_yes (a := a) (b := b) (N := N) hlt h)
        have HNO := Lib.hid (fun h => accM_no (a := a) (b := b) (N := N) hlt h)
        have hsm : (accM a b N k).length ≤ 8000000 := Nat.le_trans (HLEN.out k (by omega)) (by decide)
        clear hc hvx h5
        generalize hasJ a b a.rows[k] = z at *
        generalize a.rows[k] = x at *
        cases z
        · have HN2 := Lib.hid (HYES.out rfl)
          clear HYES HNO
          have hol := othersK_len (a := a.cols) (b := b.cols) (k := b.cols.length)
          have hmk := run_make_vals (othersK a.cols b.cols b.cols.length).length (by omega)
          have HMV := Lib.hid (fun W => made_vals W (othersK a.cols b.cols b.cols.length).length (by omega))
          have HGL := Lib.hid (fun W ok2 gg Bx dx (e : Ext wr W) (h0 : W.cell? ⟨gg, 0, none⟩ = some (.slice Ax x.length cx)) (h1 : W.cell? ⟨gg, 1, none⟩ = some (.slice Bx (List.replicate (othersK a.cols b.cols b.cols.length).length nullV).length dx)) (h2 : Vals W ok2 Bx (List.replicate (othersK a.cols b.cols b.cols.length).length nullV)) => j_Concat x _ gg (okN ok w) ok2 Ax Bx cx dx W h0 h1 ((HVX.out.ext hE3).ext e) h2 (Nat.le_trans HXL.out (by decide)) (by rw [List.length_replicate]; omega))
          simp only [List.length_replicate] at HGL
          have HJ6 := Lib.hid (fun W (e : Ext wr W) => (by
            obtain ⟨_, _, _, _, _, _, _, _, _, _, _, _, _, _, hJ⟩ := HJ.out
            exact ⟨_, _, e.cell (hE.out.cell hJ.j6)⟩ : ∃ AO co, W.cell? ⟨g, 6, none⟩ = some (.slice AO (othersK a.cols b.cols b.cols.length).length co)))
          have hlw4 := hx4.le
          have HOW := Lib.hid (fun W (e : Ext wr W) => (⟨hown.out.ext e, (hE.out.trans e).le⟩ : OwnRows W w4.heap.size (fun _ => True) u8 (accM a b N k) ∧ w4.heap.size ≤ W.heap.size))
          have HBO := Lib.hid (fun bk (h : bk < w.heap.size ∨ wr.heap.size ≤ bk) (e2 : some bk = u8.ownBlock) => (by have h1 := hown.out.lt e2.symm; omega : False))
          generalize (othersK a.cols b.cols b.cols.length).length = no at *
          generalize x ++ List.replicate no nullV = xr at *
          generalize List.replicate no nullV = nl at *
          go_upto_region 9 with (go_at_call 40; ((with_reducible refine (HC.out).mono ?_); rintro e w5 ⟨rfl, hy5⟩))
          obtain ⟨AO, co, j6⟩ := HJ6.out w5 hy5
          have hgs : g < w5.heap.size := block_lt_of_cell j6
          have HY5 := Lib.hid hy5
          have hl5 := hy5.le
          have hsz : (w5.alloc (.cells (madeCells nullC (no * 5)) 40)).heap.size = w5.heap.size + 1 := by simp
          have HGL2 := Lib.hid (HGL.out ((w5.alloc (.cells (madeCells nullC (no * 5)) 40)).alloc (.cells #[.slice Ax x.length cx, .slice (some ⟨w5.heap.size, 0, none⟩) no no] 37)) (fun b => w5.heap.size ≤ b) (w5.heap.size + 1) (some ⟨w5.heap.size, 0, none⟩) no ((hy5.alloc _).alloc _) (by rw [← hsz, cell_of_row _ _ _ _ _ _ (heap_alloc_new (w5.alloc (.cells (madeCells nullC (no * 5)) 40)) _)]; rfl) (by rw [← hsz, cell_of_row _ _ _ _ _ _ (heap_alloc_new (w5.alloc (.cells (madeCells nullC (no * 5)) 40)) _)]; rfl) ((HMV.out w5).ext ((Ext.refl _).alloc _)))
          clear hsz HGL HMV
          go_wp2_with (first | (go_at_call 41; ((with_reducible refine (HGL2.out).mono ?_); rintro e w6 ⟨A6, c6, rfl, hc6, hV6, hx6⟩; have he6 : Ext wr w6 := Ext.trans ((HY5.out.alloc _).alloc _) hx6; have HV6 := Lib.hid (hV6.to (ok' := fun bk => bk < w.heap.size ∨ wr.heap.size ≤ bk) (fun b hb => by rcases hb with (h | h) | h <;> first | exact .inl h.2 | exact .inr (Nat.le_trans hl5 h) | exact .inr (Nat.le_trans ((HY5.out.alloc _).alloc _).le h))))) | (at_builtin; refine own_pushR rfl (.tmp 34) (.tmp 44) rfl w4.heap.size (fun _ => True) w6 u8 (accM a b N k) xr A6 c6 rfl (HOW.out _ he6).1 (HOW.out _ he6).2 rfl rfl hc6 (HV6.out.to (fun b hb => ⟨trivial, fun e2 => HBO.out b hb e2⟩)) hsm ?_; intro v9 w9 hO9 hg9))
          have hE9 : Ext w4 w9 := (hE.out.trans he6).grown hg9 (fun k hk => (hown.out.lt hk).1)
          rw [← HN2.out] at hO9
          go_roundw
          case rel => exact ⟨k + 1, by go_num, by omega, Lib.hid hO9, Lib.hid hE9⟩
          case measure => simp [intOf]; omega
        · have HN2 := Lib.hid (HNO.out rfl)
          clear HYES HNO
          go_wp2_with (go_at_call 40; ((with_reducible refine (HC.out).mono ?_); rintro e w5 ⟨rfl, hy5⟩))
          have hO := Lib.hid (hown.out.ext hy5)
          go_roundw
          case rel => exact ⟨k + 1, by go_num, by omega, by rw [HN2.out]; exact hO, Lib.hid (hE.out.trans hy5)⟩
          case measure => simp [intOf]; omega
      · have hkl : k = a.rows.length := by omega
        obtain ⟨A9, c9, e9, h9, hV9⟩ := hown.out.rows (Nat.le_trans (HLEN.out k (by omega)) (by decide))
        have HL9 := Lib.hid (HLEN.out k (by omega))
        have HP9 := Lib.hid (show (accM a b N k).Perm (leftR a b) by rw [hkl]; exact HEND.out)
        subst e9
        have hV9' := Lib.hid (hV9.to (ok' := fun _ => True) (fun _ _ => trivial))
        have HJE := Lib.hid (HJ.out.ext hE.out)
        have hleE := hE3.le
        clear hown hE hkl hV9 HEND HAG HA HLEN
        generalize accM a b N k = M at *
        have HSM := Lib.hid (sortO_of_perm HP9.out)
        have HWM := Lib.hid (fun r hr => HWT.out r (HP9.out.mem_iff.1 hr))
        have HSL := Lib.hid (sortO_len TotC.row M)
        generalize colsJ a.cols b.cols = cs at *
        go_wp2_with (first | (go_at_call 32; ((with_reducible refine (HCO.out _ _ HJE.out).mono ?_); rintro e w6 ⟨A5, c5, rfl, hc5, hV5, hx6⟩)) | (go_at_call 31; ((with_reducible refine (HTB.out _ A5 c5 A9 c9 M (hE3.trans hx6) (hV5.ge hleE) (hV9'.out.ext hx6) (Nat.le_trans HL9.out (by decide)) HWM.out).mono ?_); rintro e w7 ⟨B7, d7, rfl, hd7, hT7, hx7⟩; obtain ⟨z0, z1, f0, f1⟩ := HZ.out w7 (hE3.trans (hx6.trans hx7)))))
        obtain ⟨W8, hW8⟩ : ∃ W8, W8 = (w7.setCell ⟨q + 1 + 1, 0, none⟩ (.slice A5 cs.length c5)).setCell ⟨q + 1 + 1, 1, none⟩ (.slice B7 M.length d7) := ⟨_, rfl⟩
        obtain ⟨r0, r1⟩ := set2_cells (u0 := .slice A5 cs.length c5) (u1 := .slice B7 M.length d7) z0 z1
        have HTA := Lib.hid ((hT7).set2 (u0 := .slice A5 cs.length c5) (u1 := .slice B7 M.length d7) hqs hle3)
        have HEX := Lib.hid (show Ext w W8 by rw [hW8]; exact ((hxw.trans (hE3.trans (hx6.trans hx7))).setCell (by simp; omega) _).setCell (by simp; omega) _)
        rw [← hW8] at r0 r1 HTA ⊢
        clear hW8 z0 z1 f0 f1
        go_wp2_with fail
        exact bodyPost_ret (v := .tuple #[.agg #[.slice A5 cs.length c5, .slice B7 M.length d7], .int .i64 0]) (by simp [results, Tryz.results19, go_sem, r0, r1] <;> rfl) rfl (by rw [HT.out, HEZ.out, ← HSM.out]; exact ⟨A5, B7, c5, d7, by rw [HSL.out], hc5, by rw [HSL.out]; exact hd7, HTA.out, HEX.out⟩)
end Go.Proofs.YtbjddimafilflaaGreatDoor
