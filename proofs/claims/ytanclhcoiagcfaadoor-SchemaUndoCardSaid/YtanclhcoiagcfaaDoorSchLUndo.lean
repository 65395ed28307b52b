/- THE LAW Undo. -/
import Derived.Test.YtanclhcoiagcfaaDoorSchLLen
namespace Go.Proofs.YtanclhcoiagcfaaDoor
open Go.RowKit

theorem rules_none {w : World} {A : Option Addr} {s : List RuleP} (h : Rules w A s) : A = none → s.length = 0 := fun e => by
  subst e
  rcases Nat.eq_zero_or_pos s.length with h0 | h0
  · exact h0
  · obtain ⟨b, o, h1, _⟩ := h h0
    cases h1
theorem undo_addF {s : List RuleP} {r : RuleP} (h : (addR s r).2 = 0) : ∃ x q k, addR s r = (x, 0) ∧ validB x = true ∧ x.length = s.length + 1 ∧ dropR x r = (s, 0) ∧ dropR s r = (q, k) ∧ k ≠ 0 ∧ q.length ≤ 1000 := by
  obtain ⟨h1, h2, h3⟩ := undo_add h
  obtain ⟨hv, hc, hr, hl, he⟩ := add_ok h
  refine ⟨(addR s r).1, (dropR s r).1, (dropR s r).2, ?_, h1, h2, h3, rfl, fun h0 => hr (drop_ok h0).2.2.1, ?_⟩
  · rw [← h]
  · exact dropR_le s r (by omega)
theorem undo_dropF {s : List RuleP} {r : RuleP} (h : (dropR s r).2 = 0) : ∃ x q k, dropR s r = (x, 0) ∧ validB x = true ∧ x.length + 1 = s.length ∧ addR x r = (s, 0) ∧ addR s r = (q, k) ∧ k ≠ 0 ∧ q.length ≤ 1000 := by
  obtain ⟨h1, h2, h3⟩ := undo_drop h
  obtain ⟨hv, hc, hr, he⟩ := drop_ok h
  refine ⟨(dropR s r).1, (addR s r).1, (addR s r).2, ?_, h1, h2, h3, rfl, fun h0 => (add_ok h0).2.2.1 hr, ?_⟩
  · rw [← h]
  · exact addR_le s r (by have := (validB_iff.1 hv).1; omega)



set_option maxRecDepth 100000 in
set_option maxHeartbeats 3200000 in
theorem l_UndoBig (s : List RuleP) (A : Option Addr) (c : Nat) (r : RuleP) (w : World) (hw : LaidS w) (hs : Rules w A s) (hl : 200 < s.length) : Calls Tryd.prog 4 #[.slice A s.length c, r.val] w fun e w' => e = .returned (.bool true) ∧ Ext w w' := by
  obtain ⟨rk, rn, rnm, rky, rfr, rto⟩ := r
  simp only [RuleP.val]
  obtain ⟨g, w2, hg, hw2, hb, hx, -⟩ := box_rule w ⟨rk, rn, rnm, rky, rfr, rto⟩ 23
  have Hg := Lib.hid hg
  have Hw2 := Lib.hid hw2
  clear hg hw2
  have HB := Lib.hid (fun V (e : Ext w2 V) => hb.ext e)
  clear hb
  have HW := Lib.hid hw
  clear hw
  go_enter Tryd.func4, Tryd.ntmps4
  go_upto_region 1 with (fail)
  rw [← Hw2.out, ← Hg.out]
  clear Hw2 Hg
  obtain ⟨a0, a1, a2, a3, a4, a5⟩ := HB.out w2 (Ext.refl _)
  dsimp only at a0 a1 a2 a3 a4 a5
  have hw' := HW.out.ext hx
  have hs' := hs.ext hx
  clear hs HW
  have C := (l_lives w2 (hw'.ext (Ext.refl w2)))
  have HC := Lib.hid C
  clear C
  go_wp2_with fail
  refine (HC.out).mono ?_
  rintro e w3 ⟨rfl, hE3⟩
  clear HC
  go_wp2_with fail
  exact bodyPost_ret (v := .bool true) (by simp [results, Tryd.results4, go_sem] <;> rfl) rfl ⟨rfl, hx.trans hE3⟩

set_option maxRecDepth 100000 in
set_option maxHeartbeats 3200000 in
theorem l_UndoA (s : List RuleP) (A : Option Addr) (c : Nat) (r : RuleP) (w : World) (hw : LaidS w) (hs : Rules w A s) (hl : s.length ≤ 200) (x q : List RuleP) (k : Int) (h1 : addR s r = (x, 0)) (h2 : validB x = true) (h3 : x.length = s.length + 1) (h4 : dropR x r = (s, 0)) (h5 : dropR s r = (q, k)) (h6 : k ≠ 0) : Calls Tryd.prog 4 #[.slice A s.length c, r.val] w fun e w' => e = .returned (.bool true) ∧ Ext w w' := by
  have H1 := Lib.hid h1
  have H2 := Lib.hid h2
  have H3 := Lib.hid h3
  have H4 := Lib.hid h4
  have H5 := Lib.hid h5
  have h6' : (k == 0) = false := by simpa using h6
  have h10 : s.length ≤ 1000 := by omega
  have hx10 : x.length ≤ 1000 := by omega
  clear h1 h2 h3 h4 h5 h6
  obtain ⟨rk, rn, rnm, rky, rfr, rto⟩ := r
  simp only [RuleP.val]
  obtain ⟨g, w2, hg, hw2, hb, hx, -⟩ := box_rule w ⟨rk, rn, rnm, rky, rfr, rto⟩ 23
  have Hg := Lib.hid hg
  have Hw2 := Lib.hid hw2
  clear hg hw2
  have HB := Lib.hid (fun V (e : Ext w2 V) => hb.ext e)
  clear hb
  have HW := Lib.hid hw
  clear hw
  go_enter Tryd.func4, Tryd.ntmps4
  go_upto_region 1 with (fail)
  rw [← Hw2.out, ← Hg.out]
  clear Hw2 Hg
  obtain ⟨a0, a1, a2, a3, a4, a5⟩ := HB.out w2 (Ext.refl _)
  dsimp only at a0 a1 a2 a3 a4 a5
  have hw' := HW.out.ext hx
  have hs' := hs.ext hx
  clear hs HW
  have hne : ((x.length : Int) != (s.length : Int) + 1) = false := by rw [H3.out]; simp
  skip
  have C := s_Add s A c ⟨rk, rn, rnm, rky, rfr, rto⟩ w2 (hs'.ext (Ext.refl w2)) (rules_none hs') h10
  rw [H1.out] at C
  have HC := Lib.hid C
  clear C
  go_wp2_with fail
  refine (HC.out).mono ?_
  rintro e w3 ⟨A3, c3, rfl, hl3, hE3⟩
  clear HC
  clear a0 a1 a2 a3 a4 a5
  obtain ⟨a0, a1, a2, a3, a4, a5⟩ := HB.out w3 hE3
  dsimp only at a0 a1 a2 a3 a4 a5
  have C := s_Drop x A3 c3 ⟨rk, rn, rnm, rky, rfr, rto⟩ w3 hl3 (rules_none hl3) hx10
  rw [H4.out] at C
  have HC := Lib.hid C
  clear C
  go_wp2_with fail
  refine (HC.out).mono ?_
  rintro e w4 ⟨A4, c4, rfl, hl4, hE4⟩
  clear HC
  replace hl3 := hl3.ext hE4
  replace hE4 := hE3.trans hE4
  clear hE3
  have C := (s_Valid x A3 c3 w4 hl3 hx10).mono (fun _ _ h => (⟨h.1.trans (by rw [H2.out]), h.2⟩ : _ = Ending.returned (.bool true) ∧ _))
  have HC := Lib.hid C
  clear C
  go_wp2_with fail
  refine (HC.out).mono ?_
  rintro e w5 ⟨rfl, hE5⟩
  clear HC
  replace hl3 := hl3.ext hE5
  replace hl4 := hl4.ext hE5
  replace hE5 := hE4.trans hE5
  clear hE4
  clear hl3
  have C := (r9_Same s s A4 A c4 c w5 hl4 (hs'.ext hE5) h10 h10).mono (fun _ _ h => (⟨h.1.trans (by rw [decide_eq_true rfl]), h.2⟩ : _ = Ending.returned (.bool true) ∧ _))
  have HC := Lib.hid C
  clear C
  go_wp2_with fail
  refine (HC.out).mono ?_
  rintro e w6 ⟨rfl, hE6⟩
  clear HC
  replace hl4 := hl4.ext hE6
  replace hE6 := hE5.trans hE6
  clear hE5
  clear a0 a1 a2 a3 a4 a5
  obtain ⟨a0, a1, a2, a3, a4, a5⟩ := HB.out w6 hE6
  dsimp only at a0 a1 a2 a3 a4 a5
  clear hl4
  have C := s_Drop s A c ⟨rk, rn, rnm, rky, rfr, rto⟩ w6 (hs'.ext hE6) (rules_none hs') h10
  rw [H5.out] at C
  have HC := Lib.hid C
  clear C
  go_wp2_with fail
  refine (HC.out).mono ?_
  rintro e w7 ⟨A6, c6, rfl, -, hE7⟩
  clear HC
  replace hE7 := hE6.trans hE7
  clear hE6
  have C := (l_lives w7 (hw'.ext hE7))
  have HC := Lib.hid C
  clear C
  go_wp2_with fail
  refine (HC.out).mono ?_
  rintro e w8 ⟨rfl, hE8⟩
  clear HC
  replace hE8 := hE7.trans hE8
  clear hE7
  go_wp2_with fail
  exact bodyPost_ret (v := .bool true) (by simp [results, Tryd.results4, go_sem] <;> rfl) rfl ⟨rfl, hx.trans hE8⟩

set_option maxRecDepth 100000 in
set_option maxHeartbeats 3200000 in
theorem l_UndoD (s : List RuleP) (A : Option Addr) (c : Nat) (r : RuleP) (w : World) (hw : LaidS w) (hs : Rules w A s) (hl : s.length ≤ 200) (x q : List RuleP) (k : Int) (h1 : dropR s r = (x, 0)) (h2 : validB x = true) (h3 : x.length + 1 = s.length) (h4 : addR x r = (s, 0)) (h5 : addR s r = (q, k)) (h6 : k ≠ 0) : Calls Tryd.prog 4 #[.slice A s.length c, r.val] w fun e w' => e = .returned (.bool true) ∧ Ext w w' := by
  have H1 := Lib.hid h1
  have H2 := Lib.hid h2
  have H3 := Lib.hid h3
  have H4 := Lib.hid h4
  have H5 := Lib.hid h5
  have h6' : (k == 0) = false := by simpa using h6
  have h10 : s.length ≤ 1000 := by omega
  have hx10 : x.length ≤ 1000 := by omega
  clear h1 h2 h3 h4 h5 h6
  obtain ⟨rk, rn, rnm, rky, rfr, rto⟩ := r
  simp only [RuleP.val]
  obtain ⟨g, w2, hg, hw2, hb, hx, -⟩ := box_rule w ⟨rk, rn, rnm, rky, rfr, rto⟩ 23
  have Hg := Lib.hid hg
  have Hw2 := Lib.hid hw2
  clear hg hw2
  have HB := Lib.hid (fun V (e : Ext w2 V) => hb.ext e)
  clear hb
  have HW := Lib.hid hw
  clear hw
  go_enter Tryd.func4, Tryd.ntmps4
  go_upto_region 1 with (fail)
  rw [← Hw2.out, ← Hg.out]
  clear Hw2 Hg
  obtain ⟨a0, a1, a2, a3, a4, a5⟩ := HB.out w2 (Ext.refl _)
  dsimp only at a0 a1 a2 a3 a4 a5
  have hw' := HW.out.ext hx
  have hs' := hs.ext hx
  clear hs HW
  have hne : ((x.length : Int) != (s.length : Int) - 1) = false := by have := H3.out; simp; omega
  have C := s_Add s A c ⟨rk, rn, rnm, rky, rfr, rto⟩ w2 (hs'.ext (Ext.refl w2)) (rules_none hs') h10
  rw [H5.out] at C
  have HC := Lib.hid C
  clear C
  go_wp2_with fail
  refine (HC.out).mono ?_
  rintro e w3 ⟨A3, c3, rfl, -, hE3⟩
  clear HC
  clear a0 a1 a2 a3 a4 a5
  obtain ⟨a0, a1, a2, a3, a4, a5⟩ := HB.out w3 hE3
  dsimp only at a0 a1 a2 a3 a4 a5
  have C := s_Drop s A c ⟨rk, rn, rnm, rky, rfr, rto⟩ w3 (hs'.ext hE3) (rules_none hs') h10
  rw [H1.out] at C
  have HC := Lib.hid C
  clear C
  go_wp2_with fail
  refine (HC.out).mono ?_
  rintro e w4 ⟨A4, c4, rfl, hl4, hE4⟩
  clear HC
  replace hE4 := hE3.trans hE4
  clear hE3
  clear a0 a1 a2 a3 a4 a5
  obtain ⟨a0, a1, a2, a3, a4, a5⟩ := HB.out w4 hE4
  dsimp only at a0 a1 a2 a3 a4 a5
  have C := s_Add x A4 c4 ⟨rk, rn, rnm, rky, rfr, rto⟩ w4 hl4 (rules_none hl4) hx10
  rw [H4.out] at C
  have HC := Lib.hid C
  clear C
  go_wp2_with fail
  refine (HC.out).mono ?_
  rintro e w5 ⟨A5, c5, rfl, hl5, hE5⟩
  clear HC
  replace hl4 := hl4.ext hE5
  replace hE5 := hE4.trans hE5
  clear hE4
  have C := (s_Valid x A4 c4 w5 hl4 hx10).mono (fun _ _ h => (⟨h.1.trans (by rw [H2.out]), h.2⟩ : _ = Ending.returned (.bool true) ∧ _))
  have HC := Lib.hid C
  clear C
  go_wp2_with fail
  refine (HC.out).mono ?_
  rintro e w6 ⟨rfl, hE6⟩
  clear HC
  replace hl4 := hl4.ext hE6
  replace hl5 := hl5.ext hE6
  replace hE6 := hE5.trans hE6
  clear hE5
  clear hl4
  have C := (r9_Same s s A5 A c5 c w6 hl5 (hs'.ext hE6) h10 h10).mono (fun _ _ h => (⟨h.1.trans (by rw [decide_eq_true rfl]), h.2⟩ : _ = Ending.returned (.bool true) ∧ _))
  have HC := Lib.hid C
  clear C
  go_wp2_with fail
  refine (HC.out).mono ?_
  rintro e w7 ⟨rfl, hE7⟩
  clear HC
  replace hl5 := hl5.ext hE7
  replace hE7 := hE6.trans hE7
  clear hE6
  clear hl5
  have C := (l_lives w7 (hw'.ext hE7))
  have HC := Lib.hid C
  clear C
  go_wp2_with fail
  refine (HC.out).mono ?_
  rintro e w8 ⟨rfl, hE8⟩
  clear HC
  replace hE8 := hE7.trans hE8
  clear hE7
  go_wp2_with fail
  exact bodyPost_ret (v := .bool true) (by simp [results, Tryd.results4, go_sem] <;> rfl) rfl ⟨rfl, hx.trans hE8⟩

set_option maxRecDepth 100000 in
set_option maxHeartbeats 3200000 in
theorem l_UndoN (s : List RuleP) (A : Option Addr) (c : Nat) (r : RuleP) (w : World) (hw : LaidS w) (hs : Rules w A s) (hl : s.length ≤ 200) (x q : List RuleP) (j k : Int) (h1 : addR s r = (x, j)) (_h3 : x.length ≤ 1000) (h5 : dropR s r = (q, k)) (h2 : j ≠ 0) (h6 : k ≠ 0) : Calls Tryd.prog 4 #[.slice A s.length c, r.val] w fun e w' => e = .returned (.bool true) ∧ Ext w w' := by
  have H1 := Lib.hid h1
  have H5 := Lib.hid h5
  have h6' : (k == 0) = false := by simpa using h6
  have h2' : (j == 0) = false := by simpa using h2
  have h10 : s.length ≤ 1000 := by omega
  clear h1 h5 h2 h6
  obtain ⟨rk, rn, rnm, rky, rfr, rto⟩ := r
  simp only [RuleP.val]
  obtain ⟨g, w2, hg, hw2, hb, hx, -⟩ := box_rule w ⟨rk, rn, rnm, rky, rfr, rto⟩ 23
  have Hg := Lib.hid hg
  have Hw2 := Lib.hid hw2
  clear hg hw2
  have HB := Lib.hid (fun V (e : Ext w2 V) => hb.ext e)
  clear hb
  have HW := Lib.hid hw
  clear hw
  go_enter Tryd.func4, Tryd.ntmps4
  go_upto_region 1 with (fail)
  rw [← Hw2.out, ← Hg.out]
  clear Hw2 Hg
  obtain ⟨a0, a1, a2, a3, a4, a5⟩ := HB.out w2 (Ext.refl _)
  dsimp only at a0 a1 a2 a3 a4 a5
  have hw' := HW.out.ext hx
  have hs' := hs.ext hx
  clear hs HW
  have C := s_Add s A c ⟨rk, rn, rnm, rky, rfr, rto⟩ w2 (hs'.ext (Ext.refl w2)) (rules_none hs') h10
  rw [H1.out] at C
  have HC := Lib.hid C
  clear C
  go_wp2_with fail
  refine (HC.out).mono ?_
  rintro e w3 ⟨A3, c3, rfl, -, hE3⟩
  clear HC
  clear a0 a1 a2 a3 a4 a5
  obtain ⟨a0, a1, a2, a3, a4, a5⟩ := HB.out w3 hE3
  dsimp only at a0 a1 a2 a3 a4 a5
  have C := s_Drop s A c ⟨rk, rn, rnm, rky, rfr, rto⟩ w3 (hs'.ext hE3) (rules_none hs') h10
  rw [H5.out] at C
  have HC := Lib.hid C
  clear C
  go_wp2_with fail
  refine (HC.out).mono ?_
  rintro e w4 ⟨A4, c4, rfl, -, hE4⟩
  clear HC
  replace hE4 := hE3.trans hE4
  clear hE3
  have C := (l_lives w4 (hw'.ext hE4))
  have HC := Lib.hid C
  clear C
  go_wp2_with fail
  refine (HC.out).mono ?_
  rintro e w5 ⟨rfl, hE5⟩
  clear HC
  replace hE5 := hE4.trans hE5
  clear hE4
  go_wp2_with fail
  exact bodyPost_ret (v := .bool true) (by simp [results, Tryd.results4, go_sem] <;> rfl) rfl ⟨rfl, hx.trans hE5⟩

theorem l_Undo (s : List RuleP) (A : Option Addr) (c : Nat) (r : RuleP) (w : World) (hw : LaidS w) (hs : Rules w A s) : Calls Tryd.prog 4 #[.slice A s.length c, r.val] w fun e w' => e = .returned (.bool true) ∧ Ext w w' := by
  by_cases hl : 200 < s.length
  · exact l_UndoBig s A c r w hw hs hl
  · by_cases ha : (addR s r).2 = 0
    · obtain ⟨x, q, k, h1, h2, h3, h4, h5, h6, -⟩ := undo_addF ha
      exact l_UndoA s A c r w hw hs (by omega) x q k h1 h2 h3 h4 h5 h6
    · by_cases hd : (dropR s r).2 = 0
      · obtain ⟨x, q, k, h1, h2, h3, h4, h5, h6, -⟩ := undo_dropF hd
        exact l_UndoD s A c r w hw hs (by omega) x q k h1 h2 h3 h4 h5 h6
      · exact l_UndoN s A c r w hw hs (by omega) _ _ _ _ rfl (addR_le s r (by omega)) rfl ha hd

end Go.Proofs.YtanclhcoiagcfaaDoor
