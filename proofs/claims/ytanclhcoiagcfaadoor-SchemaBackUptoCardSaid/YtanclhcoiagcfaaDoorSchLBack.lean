/- THE LAW Back. -/
import Derived.Test.YtanclhcoiagcfaaDoorSchLParses
namespace Go.Proofs.YtanclhcoiagcfaaDoor
open Go.RowKit

theorem asB_of {l : List UInt8} {s : ByteArray} (h : l = s.data.toList) : asB l = s := ba_ext h
theorem joinW_leU : ∀ (ws : List (List UInt8)) (m : Nat), (∀ w ∈ ws, w.length ≤ m) → (joinW ws).length ≤ ws.length * (m + 1)
  | [], m, _ => by simp [joinW]
  | [a], m, h => by have := h a (by simp); simp [joinW]; omega
  | a :: b :: ws, m, h => by
    have h1 := h a (by simp)
    have h2 := joinW_leU (b :: ws) m (fun w hw => h w (List.mem_cons_of_mem _ hw))
    rw [joinW_cons a (by simp)]
    simp only [List.length_append, List.length_cons] at *
    rw [Nat.add_mul]; omega
theorem wordN_le (n : Int) : (wordN n).length ≤ 20 := by unfold wordN; repeat' split
                                                         all_goals simp
theorem starL_le {s : ByteArray} (h : s.size ≠ 0 → nameB s = true) : (starL s.data.toList).length ≤ 20 := by
  unfold starL
  split
  · simp
  · rename_i hne
    exact name_len (h (fun e => hne (size_zero e)))
theorem textL_small {r : RuleP} (h : chkR r = 0) : (asB (textL r)).size ≤ 1048576 := by
  have h0 := textL_head h
  have hh : (headL r.kind).length ≤ 20 := by unfold headL; repeat' split
                                             all_goals simp
  have ht : (joinW (tailW r)).length ≤ 10 * 21 := by
    obtain ⟨h1, h2, h3, h4, h5, h6, h7, h8, h9⟩ := chkR_ok h
    have hw : ∀ w ∈ tailW r, w.length ≤ 20 := by
      intro w hw
      have hkey : keyK r.kind = false → ¬ (r.kind = 3 ∨ r.kind = 5) → r.kind ≠ 6 → r.kind = 7 := fun a b c => by
        unfold keyK at a
        simp at a
        omega
      unfold tailW at hw
      split at hw
      · rename_i k
        simp only [List.mem_cons, List.not_mem_nil, or_false] at hw
        rcases hw with rfl | rfl | rfl
        · exact name_len h6
        · exact name_len (h7 (by rcases k with k | k <;> rw [k] <;> decide))
        · exact wordN_le _
      · rename_i k
        split at hw
        · rename_i k2
          simp only [List.mem_cons, List.not_mem_nil, or_false] at hw
          rcases hw with rfl | rfl
          · exact name_len h6
          · exact name_len (h7 k2)
        · rename_i k2
          split at hw
          · simp only [List.mem_cons, List.not_mem_nil, or_false] at hw
            rcases hw with rfl | rfl | rfl
            · exact name_len h6
            · exact starL_le h8
            · exact starL_le h9
          · rename_i k3
            simp only [List.mem_cons, List.not_mem_nil, or_false] at hw
            rcases hw with rfl | rfl
            · exact name_len h6
            · have k7 := hkey (by simpa using k2) k k3
              rw [k7] at h3
              unfold numB at h3
              simp at h3
              exact Nat.le_trans (itoa_length (inB_true.2 ⟨by omega, by omega⟩)) (by decide)
    have := joinW_leU (tailW r) 20 hw
    have hl : (tailW r).length ≤ 10 := by unfold tailW; repeat' split
                                          all_goals simp
    exact Nat.le_trans this (Nat.mul_le_mul_right _ hl)
  show (textL r).length ≤ _
  rw [h0]; simp; omega



set_option maxRecDepth 100000 in
set_option maxHeartbeats 3200000 in
theorem l_BackK (r : RuleP) (s : ByteArray) (w : World) (hw : LaidS w) (hs : s.size ≤ 1048576) (hk : chkR r = 0) : Calls Tryd.prog 5 #[r.val, .string s] w fun e w' => e = .returned (.bool true) ∧ Ext w w' := by
  have HPs := Lib.hid (fun W h => s_Parse s W h hs)
  obtain ⟨rk, rn, rnm, rky, rfr, rto⟩ := r
  simp only [RuleP.val]
  obtain ⟨g, w2, hg, hw2, hb, hx, -⟩ := box_rule w ⟨rk, rn, rnm, rky, rfr, rto⟩ 23
  have Hg := Lib.hid hg
  have Hw2 := Lib.hid hw2
  clear hg hw2
  have HB := Lib.hid (fun V (e : Ext w2 V) => hb.ext e)
  clear hb
  have HW := Lib.hid hw
  replace HPs := Lib.hid (HPs.out w2 (hw.ext hx))
  clear hw hs
  have HK := Lib.hid hk
  have hU0 : ParsedR (asB (textL ⟨rk, rn, rnm, rky, rfr, rto⟩)).data.toList ⟨rk, rn, rnm, rky, rfr, rto⟩ 0 := .inl ⟨rfl, hk, rfl⟩
  have HU := Lib.hid hU0
  clear hU0
  have HQ := Lib.hid (fun W h => s_Parse (asB (textL ⟨rk, rn, rnm, rky, rfr, rto⟩)) W h (textL_small hk))
  clear hk
  go_enter Tryd.func5, Tryd.ntmps5
  go_upto_region 1 with (fail)
  rw [← Hw2.out, ← Hg.out]
  clear Hw2
  obtain ⟨a0, a1, a2, a3, a4, a5⟩ := HB.out w2 (Ext.refl _)
  dsimp only at a0 a1 a2 a3 a4 a5
  go_wp2_with fail
  refine (HPs.out).mono ?_
  rintro e w3 ⟨⟨pk, pn, pnm, pky, pfr, pto⟩, n, rfl, hp, hE3⟩
  clear HPs
  obtain ⟨g2, w4, hg2, hw4, hb2, hx4, -⟩ := box_rule w3 ⟨pk, pn, pnm, pky, pfr, pto⟩ 23
  have hB2 : w4.heap[g2]? = some (.cells #[.int .i64 pk, .int .i64 pn, .string pnm, .string pky, .string pfr, .string pto] 23) := by rw [hw4, hg2]; exact heap_alloc_new _ _
  have hgg : g < g2 := by have h1 : w2.heap.size ≤ w3.heap.size := hE3.le; have h2 : g < w2.heap.size := block_lt_of_cell a0; omega
  have hne : ¬ g = g2 := by omega
  have hne' : ¬ g2 = g := by omega
  have Hg2 := Lib.hid hg2
  have Hw4 := Lib.hid hw4
  clear hg2 hw4
  simp only [RuleP.val]
  go_upto_region 2 with (fail)
  rw [← Hw4.out, ← Hg2.out]
  clear Hw4
  have hE4 := hE3.trans hx4
  have HP2 := Lib.hid (fun V (e : Ext w4 V) => hb2.ext e)
  have HB2 := Lib.hid (fun V (e : Ext w4 V) => e.heap hB2)
  have hx0 : w.heap.size ≤ g2 := by have := Hg2.out; have := hx.le; have := hE3.le; omega
  clear hE3 hx4 hb2 hB2 Hg2
  obtain ⟨p0, p1, p2, p3, p4, p5⟩ := HP2.out w4 (Ext.refl _)
  dsimp only at p0 p1 p2 p3 p4 p5
  clear a0 a1 a2 a3 a4 a5
  obtain ⟨a0, a1, a2, a3, a4, a5⟩ := HB.out w4 hE4
  dsimp only at a0 a1 a2 a3 a4 a5
  rcases hp with ⟨rfl, hc, ht⟩ | ⟨rfl, -, -⟩
  · have C := s_Text ⟨pk, pn, pnm, pky, pfr, pto⟩ w4 (HW.out.ext (hx.trans hE4)).1
    rw [asB_of ht] at C
    have HC := Lib.hid C
    clear C
    go_wp2_with fail
    refine (HC.out).mono ?_
    rintro e w5 ⟨rfl, hE5⟩
    clear HC
    clear a0 a1 a2 a3 a4 a5
    obtain ⟨a0, a1, a2, a3, a4, a5⟩ := HB.out w5 (hE4.trans hE5)
    dsimp only at a0 a1 a2 a3 a4 a5
    clear p0 p1 p2 p3 p4 p5
    obtain ⟨p0, p1, p2, p3, p4, p5⟩ := HP2.out w5 (hE5)
    dsimp only at p0 p1 p2 p3 p4 p5
    have HC := Lib.hid (s_Check ⟨rk, rn, rnm, rky, rfr, rto⟩ w5)
    go_wp2_with fail
    refine (HC.out).mono ?_
    rintro e w6 ⟨rfl, hE6⟩
    replace hE6 := hE5.trans hE6
    clear HC hE5
    rw [HK.out]
    clear a0 a1 a2 a3 a4 a5
    obtain ⟨a0, a1, a2, a3, a4, a5⟩ := HB.out w6 (hE4.trans hE6)
    dsimp only at a0 a1 a2 a3 a4 a5
    clear p0 p1 p2 p3 p4 p5
    obtain ⟨p0, p1, p2, p3, p4, p5⟩ := HP2.out w6 (hE6)
    dsimp only at p0 p1 p2 p3 p4 p5
    have HC := Lib.hid (s_Text ⟨rk, rn, rnm, rky, rfr, rto⟩ w6 (HW.out.ext (hx.trans (hE4.trans hE6))).1)
    go_wp2_with fail
    refine (HC.out).mono ?_
    rintro e w7 ⟨rfl, hE7⟩
    replace hE7 := hE6.trans hE7
    clear HC hE6
    have HC := Lib.hid (HQ.out w7 (HW.out.ext (hx.trans (hE4.trans hE7))))
    go_wp2_with fail
    refine (HC.out).mono ?_
    rintro e w8 ⟨⟨qk, qn, qnm, qky, qfr, qto⟩, m, rfl, hq, hE8⟩
    replace hE8 := hE7.trans hE8
    clear HC hE7
    obtain ⟨h1, h2⟩ := parsed_uniq hq HU.out
    injection h1 with h11 h12 h13 h14 h15 h16
    subst h11 h12 h13 h14 h15 h16 h2
    clear hq
    simp only [RuleP.val]
    clear a0 a1 a2 a3 a4 a5
    obtain ⟨a0, a1, a2, a3, a4, a5⟩ := HB.out w8 (hE4.trans hE8)
    dsimp only at a0 a1 a2 a3 a4 a5
    clear p0 p1 p2 p3 p4 p5
    obtain ⟨p0, p1, p2, p3, p4, p5⟩ := HP2.out w8 (hE8)
    dsimp only at p0 p1 p2 p3 p4 p5
    have hfr : ∀ i, w8.frozen? ⟨g2, i, none⟩ = false := fun i => by have := HB2.out w8 hE8; simp [World.frozen?, this]
    obtain ⟨f0, f1, f2, f3, f4, f5⟩ := (⟨hfr 0, hfr 1, hfr 2, hfr 3, hfr 4, hfr 5⟩ : _ ∧ _ ∧ _ ∧ _ ∧ _ ∧ _)
    clear hfr
    have HGR := guard_rule
    have HPQ := fun W => (eql_rule ⟨qk, qn, qnm, qky, qfr, qto⟩ ⟨qk, qn, qnm, qky, qfr, qto⟩ W).trans (by rw [decide_eq_true rfl])
    dsimp only at HPQ
    go_wp2_with fail
    have hEs : Ext w _ := (hx.trans (hE4.trans hE8))
    refine (l_lives _ (HW.out.ext ?ex)).mono ?_
    case ex => exact (by repeat (first | with_reducible exact Ext.refl _ | with_reducible assumption | (with_reducible refine Ext.setCell ?_ (by omega) _) | with_reducible refine Ext.drew ?_ | with_reducible refine Ext.alloc ?_ _))
    rintro e w9 ⟨rfl, hE9⟩
    go_wp2_with fail
    exact bodyPost_ret (v := .bool true) (by simp [results, Tryd.results5, go_sem] <;> rfl) rfl ⟨rfl, Ext.trans (by repeat (first | with_reducible exact Ext.refl _ | with_reducible assumption | (with_reducible refine Ext.setCell ?_ (by omega) _) | with_reducible refine Ext.drew ?_ | with_reducible refine Ext.alloc ?_ _)) hE9⟩
  · obtain ⟨w5, hE5⟩ : ∃ w5, w5 = w4 := ⟨_, rfl⟩
    subst hE5
    have hE5 : Ext w5 w5 := Ext.refl _
    clear a0 a1 a2 a3 a4 a5
    obtain ⟨a0, a1, a2, a3, a4, a5⟩ := HB.out w5 (hE4.trans hE5)
    dsimp only at a0 a1 a2 a3 a4 a5
    clear p0 p1 p2 p3 p4 p5
    obtain ⟨p0, p1, p2, p3, p4, p5⟩ := HP2.out w5 (hE5)
    dsimp only at p0 p1 p2 p3 p4 p5
    have HC := Lib.hid (s_Check ⟨rk, rn, rnm, rky, rfr, rto⟩ w5)
    go_wp2_with fail
    refine (HC.out).mono ?_
    rintro e w6 ⟨rfl, hE6⟩
    replace hE6 := hE5.trans hE6
    clear HC hE5
    rw [HK.out]
    clear a0 a1 a2 a3 a4 a5
    obtain ⟨a0, a1, a2, a3, a4, a5⟩ := HB.out w6 (hE4.trans hE6)
    dsimp only at a0 a1 a2 a3 a4 a5
    clear p0 p1 p2 p3 p4 p5
    obtain ⟨p0, p1, p2, p3, p4, p5⟩ := HP2.out w6 (hE6)
    dsimp only at p0 p1 p2 p3 p4 p5
    have HC := Lib.hid (s_Text ⟨rk, rn, rnm, rky, rfr, rto⟩ w6 (HW.out.ext (hx.trans (hE4.trans hE6))).1)
    go_wp2_with fail
    refine (HC.out).mono ?_
    rintro e w7 ⟨rfl, hE7⟩
    replace hE7 := hE6.trans hE7
    clear HC hE6
    have HC := Lib.hid (HQ.out w7 (HW.out.ext (hx.trans (hE4.trans hE7))))
    go_wp2_with fail
    refine (HC.out).mono ?_
    rintro e w8 ⟨⟨qk, qn, qnm, qky, qfr, qto⟩, m, rfl, hq, hE8⟩
    replace hE8 := hE7.trans hE8
    clear HC hE7
    obtain ⟨h1, h2⟩ := parsed_uniq hq HU.out
    injection h1 with h11 h12 h13 h14 h15 h16
    subst h11 h12 h13 h14 h15 h16 h2
    clear hq
    simp only [RuleP.val]
    clear a0 a1 a2 a3 a4 a5
    obtain ⟨a0, a1, a2, a3, a4, a5⟩ := HB.out w8 (hE4.trans hE8)
    dsimp only at a0 a1 a2 a3 a4 a5
    clear p0 p1 p2 p3 p4 p5
    obtain ⟨p0, p1, p2, p3, p4, p5⟩ := HP2.out w8 (hE8)
    dsimp only at p0 p1 p2 p3 p4 p5
    have hfr : ∀ i, w8.frozen? ⟨g2, i, none⟩ = false := fun i => by have := HB2.out w8 hE8; simp [World.frozen?, this]
    obtain ⟨f0, f1, f2, f3, f4, f5⟩ := (⟨hfr 0, hfr 1, hfr 2, hfr 3, hfr 4, hfr 5⟩ : _ ∧ _ ∧ _ ∧ _ ∧ _ ∧ _)
    clear hfr
    have HGR := guard_rule
    have HPQ := fun W => (eql_rule ⟨qk, qn, qnm, qky, qfr, qto⟩ ⟨qk, qn, qnm, qky, qfr, qto⟩ W).trans (by rw [decide_eq_true rfl])
    dsimp only at HPQ
    go_wp2_with fail
    have hEs : Ext w _ := (hx.trans (hE4.trans hE8))
    refine (l_lives _ (HW.out.ext ?ex)).mono ?_
    case ex => exact (by repeat (first | with_reducible exact Ext.refl _ | with_reducible assumption | (with_reducible refine Ext.setCell ?_ (by omega) _) | with_reducible refine Ext.drew ?_ | with_reducible refine Ext.alloc ?_ _))
    rintro e w9 ⟨rfl, hE9⟩
    go_wp2_with fail
    exact bodyPost_ret (v := .bool true) (by simp [results, Tryd.results5, go_sem] <;> rfl) rfl ⟨rfl, Ext.trans (by repeat (first | with_reducible exact Ext.refl _ | with_reducible assumption | (with_reducible refine Ext.setCell ?_ (by omega) _) | with_reducible refine Ext.drew ?_ | with_reducible refine Ext.alloc ?_ _)) hE9⟩

set_option maxRecDepth 100000 in
set_option maxHeartbeats 3200000 in
theorem l_BackN (r : RuleP) (s : ByteArray) (w : World) (hw : LaidS w) (hs : s.size ≤ 1048576) (hk : ¬ chkR r = 0) : Calls Tryd.prog 5 #[r.val, .string s] w fun e w' => e = .returned (.bool true) ∧ Ext w w' := by
  have HPs := Lib.hid (fun W h => s_Parse s W h hs)
  obtain ⟨rk, rn, rnm, rky, rfr, rto⟩ := r
  simp only [RuleP.val]
  obtain ⟨g, w2, hg, hw2, hb, hx, -⟩ := box_rule w ⟨rk, rn, rnm, rky, rfr, rto⟩ 23
  have Hg := Lib.hid hg
  have Hw2 := Lib.hid hw2
  clear hg hw2
  have HB := Lib.hid (fun V (e : Ext w2 V) => hb.ext e)
  clear hb
  have HW := Lib.hid hw
  replace HPs := Lib.hid (HPs.out w2 (hw.ext hx))
  clear hw hs
  have hk' : (chkR ⟨rk, rn, rnm, rky, rfr, rto⟩ != 0) = true := by simpa using hk
  have HT := Lib.hid (show textL ⟨rk, rn, rnm, rky, rfr, rto⟩ = [] by unfold textL; rw [if_neg hk])
  generalize hz : chkR ⟨rk, rn, rnm, rky, rfr, rto⟩ = z at hk'
  have HK := Lib.hid hz
  clear hk hz
  go_enter Tryd.func5, Tryd.ntmps5
  go_upto_region 1 with (fail)
  rw [← Hw2.out, ← Hg.out]
  clear Hw2
  obtain ⟨a0, a1, a2, a3, a4, a5⟩ := HB.out w2 (Ext.refl _)
  dsimp only at a0 a1 a2 a3 a4 a5
  go_wp2_with fail
  refine (HPs.out).mono ?_
  rintro e w3 ⟨⟨pk, pn, pnm, pky, pfr, pto⟩, n, rfl, hp, hE3⟩
  clear HPs
  obtain ⟨g2, w4, hg2, hw4, hb2, hx4, -⟩ := box_rule w3 ⟨pk, pn, pnm, pky, pfr, pto⟩ 23
  have hB2 : w4.heap[g2]? = some (.cells #[.int .i64 pk, .int .i64 pn, .string pnm, .string pky, .string pfr, .string pto] 23) := by rw [hw4, hg2]; exact heap_alloc_new _ _
  have hgg : g < g2 := by have h1 : w2.heap.size ≤ w3.heap.size := hE3.le; have h2 : g < w2.heap.size := block_lt_of_cell a0; omega
  have hne : ¬ g = g2 := by omega
  have hne' : ¬ g2 = g := by omega
  have Hg2 := Lib.hid hg2
  have Hw4 := Lib.hid hw4
  clear hg2 hw4
  simp only [RuleP.val]
  go_upto_region 2 with (fail)
  rw [← Hw4.out, ← Hg2.out]
  clear Hw4
  have hE4 := hE3.trans hx4
  have HP2 := Lib.hid (fun V (e : Ext w4 V) => hb2.ext e)
  have HB2 := Lib.hid (fun V (e : Ext w4 V) => e.heap hB2)
  have hx0 : w.heap.size ≤ g2 := by have := Hg2.out; have := hx.le; have := hE3.le; omega
  clear hE3 hx4 hb2 hB2 Hg2
  obtain ⟨p0, p1, p2, p3, p4, p5⟩ := HP2.out w4 (Ext.refl _)
  dsimp only at p0 p1 p2 p3 p4 p5
  clear a0 a1 a2 a3 a4 a5
  obtain ⟨a0, a1, a2, a3, a4, a5⟩ := HB.out w4 hE4
  dsimp only at a0 a1 a2 a3 a4 a5
  rcases hp with ⟨rfl, hc, ht⟩ | ⟨rfl, -, -⟩
  · have C := s_Text ⟨pk, pn, pnm, pky, pfr, pto⟩ w4 (HW.out.ext (hx.trans hE4)).1
    rw [asB_of ht] at C
    have HC := Lib.hid C
    clear C
    go_wp2_with fail
    refine (HC.out).mono ?_
    rintro e w5 ⟨rfl, hE5⟩
    clear HC
    clear a0 a1 a2 a3 a4 a5
    obtain ⟨a0, a1, a2, a3, a4, a5⟩ := HB.out w5 (hE4.trans hE5)
    dsimp only at a0 a1 a2 a3 a4 a5
    clear p0 p1 p2 p3 p4 p5
    obtain ⟨p0, p1, p2, p3, p4, p5⟩ := HP2.out w5 (hE5)
    dsimp only at p0 p1 p2 p3 p4 p5
    have HC := Lib.hid (s_Check ⟨rk, rn, rnm, rky, rfr, rto⟩ w5)
    go_wp2_with fail
    refine (HC.out).mono ?_
    rintro e w6 ⟨rfl, hE6⟩
    replace hE6 := hE5.trans hE6
    clear HC hE5
    rw [HK.out]
    clear a0 a1 a2 a3 a4 a5
    obtain ⟨a0, a1, a2, a3, a4, a5⟩ := HB.out w6 (hE4.trans hE6)
    dsimp only at a0 a1 a2 a3 a4 a5
    clear p0 p1 p2 p3 p4 p5
    obtain ⟨p0, p1, p2, p3, p4, p5⟩ := HP2.out w6 (hE6)
    dsimp only at p0 p1 p2 p3 p4 p5
    have C := s_Text ⟨rk, rn, rnm, rky, rfr, rto⟩ w6 (HW.out.ext (hx.trans (hE4.trans hE6))).1
    rw [HT.out] at C
    have HC := Lib.hid C
    clear C
    have hnil : (asB []).toList = [] := by rw [ByteArray.toList_eq]; rfl
    go_wp2_with fail
    refine (HC.out).mono ?_
    rintro e w7 ⟨rfl, hE7⟩
    replace hE7 := hE6.trans hE7
    clear HC hE6
    have HC := Lib.hid (l_lives w7 (HW.out.ext (hx.trans (hE4.trans hE7))))
    go_wp2_with fail
    refine (HC.out).mono ?_
    rintro e w8 ⟨rfl, hE8⟩
    replace hE8 := hE7.trans hE8
    go_wp2_with fail
    exact bodyPost_ret (v := .bool true) (by simp [results, Tryd.results5, go_sem] <;> rfl) rfl ⟨rfl, hx.trans (hE4.trans hE8)⟩
  · obtain ⟨w5, hE5⟩ : ∃ w5, w5 = w4 := ⟨_, rfl⟩
    subst hE5
    have hE5 : Ext w5 w5 := Ext.refl _
    clear a0 a1 a2 a3 a4 a5
    obtain ⟨a0, a1, a2, a3, a4, a5⟩ := HB.out w5 (hE4.trans hE5)
    dsimp only at a0 a1 a2 a3 a4 a5
    clear p0 p1 p2 p3 p4 p5
    obtain ⟨p0, p1, p2, p3, p4, p5⟩ := HP2.out w5 (hE5)
    dsimp only at p0 p1 p2 p3 p4 p5
    have HC := Lib.hid (s_Check ⟨rk, rn, rnm, rky, rfr, rto⟩ w5)
    go_wp2_with fail
    refine (HC.out).mono ?_
    rintro e w6 ⟨rfl, hE6⟩
    replace hE6 := hE5.trans hE6
    clear HC hE5
    rw [HK.out]
    clear a0 a1 a2 a3 a4 a5
    obtain ⟨a0, a1, a2, a3, a4, a5⟩ := HB.out w6 (hE4.trans hE6)
    dsimp only at a0 a1 a2 a3 a4 a5
    clear p0 p1 p2 p3 p4 p5
    obtain ⟨p0, p1, p2, p3, p4, p5⟩ := HP2.out w6 (hE6)
    dsimp only at p0 p1 p2 p3 p4 p5
    have C := s_Text ⟨rk, rn, rnm, rky, rfr, rto⟩ w6 (HW.out.ext (hx.trans (hE4.trans hE6))).1
    rw [HT.out] at C
    have HC := Lib.hid C
    clear C
    have hnil : (asB []).toList = [] := by rw [ByteArray.toList_eq]; rfl
    go_wp2_with fail
    refine (HC.out).mono ?_
    rintro e w7 ⟨rfl, hE7⟩
    replace hE7 := hE6.trans hE7
    clear HC hE6
    have HC := Lib.hid (l_lives w7 (HW.out.ext (hx.trans (hE4.trans hE7))))
    go_wp2_with fail
    refine (HC.out).mono ?_
    rintro e w8 ⟨rfl, hE8⟩
    replace hE8 := hE7.trans hE8
    go_wp2_with fail
    exact bodyPost_ret (v := .bool true) (by simp [results, Tryd.results5, go_sem] <;> rfl) rfl ⟨rfl, hx.trans (hE4.trans hE8)⟩

theorem l_Back (r : RuleP) (s : ByteArray) (w : World) (hw : LaidS w) (hs : s.size ≤ 1048576) : Calls Tryd.prog 5 #[r.val, .string s] w fun e w' => e = .returned (.bool true) ∧ Ext w w' := by
  by_cases hk : chkR r = 0
  · exact l_BackK r s w hw hs hk
  · exact l_BackN r s w hw hs hk

end Go.Proofs.YtanclhcoiagcfaaDoor
