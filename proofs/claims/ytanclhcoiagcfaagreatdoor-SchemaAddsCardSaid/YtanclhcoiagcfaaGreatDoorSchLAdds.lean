/- THE LAW Adds. -/
import Derived.Test.YtanclhcoiagcfaaGreatDoorSchLLen
namespace Go.Proofs.YtanclhcoiagcfaaGreatDoor
open Go.RowKit

set_option maxRecDepth 100000 in
set_option maxHeartbeats 3200000 in
theorem l_Adds (s : List RuleP) (A : Option Addr) (c : Nat) (r : RuleP) (w : World) (hw : LaidS w) (hs : Rules w A s) (hA : A = none → s.length = 0) : Calls Tryz.prog 4 #[.slice A s.length c, r.val] w fun e w' => e = .returned (.bool true) ∧ Ext w w' := by
  obtain ⟨rk, rn, rnm, rky, rfr, rto⟩ := r
  simp only [RuleP.val]
  obtain ⟨g, w2, hg, hw2, hb, hx, -⟩ := box_rule w ⟨rk, rn, rnm, rky, rfr, rto⟩ 23
  have Hg := Lib.hid hg
  have Hw2 := Lib.hid hw2
  clear hg hw2
  have HB := Lib.hid (fun V (e : Ext w2 V) => hb.ext e)
  clear hb
  have HW := Lib.hid hw
  clear hw
  go_enter Tryz.func4, Tryz.ntmps4
  go_upto_region 1 with (fail)
  rw [← Hw2.out, ← Hg.out]
  clear Hw2 Hg
  obtain ⟨a0, a1, a2, a3, a4, a5⟩ := HB.out w2 (Ext.refl _)
  dsimp only at a0 a1 a2 a3 a4 a5
  have hw' := HW.out.ext hx
  have hs' := hs.ext hx
  clear hs HW
  by_cases hc : 200 < s.length
  · have HL := Lib.hid (l_lives w2 hw')
    go_wp2_with fail
    refine (HL.out).mono ?_
    rintro e w3 ⟨rfl, hE3⟩
    go_wp2_with fail
    exact bodyPost_ret (v := .bool true) (by simp [results, Tryz.results4, go_sem] <;> rfl) rfl ⟨rfl, hx.trans hE3⟩
  have hle := addR_le s ⟨rk, rn, rnm, rky, rfr, rto⟩ (by omega)
  have hld := dropR_le s ⟨rk, rn, rnm, rky, rfr, rto⟩ (by omega)
  have h10 : s.length ≤ 1000 := by omega
  generalize haq : addR s ⟨rk, rn, rnm, rky, rfr, rto⟩ = q at hle
  generalize hdq : dropR s ⟨rk, rn, rnm, rky, rfr, rto⟩ = p at hld
  obtain ⟨q, qk⟩ := q
  obtain ⟨p, pk⟩ := p
  dsimp only at hle hld
  have C := s_Add s A c ⟨rk, rn, rnm, rky, rfr, rto⟩ w2 hs' hA h10
  rw [haq] at C
  have HC := Lib.hid C
  clear C
  go_wp2_with fail
  refine (HC.out).mono ?_
  rintro e w3 ⟨A3, c3, rfl, hl3, hE3⟩
  clear HC
  clear a0 a1 a2 a3 a4 a5
  obtain ⟨a0, a1, a2, a3, a4, a5⟩ := HB.out w3 (hE3)
  dsimp only at a0 a1 a2 a3 a4 a5
  have C := r9_Add s A c ⟨rk, rn, rnm, rky, rfr, rto⟩ w3 (hs'.ext hE3) h10
  rw [haq] at C
  have HC := Lib.hid C
  clear C
  go_wp2_with fail
  refine (HC.out).mono ?_
  rintro e w4 ⟨A4, c4, rfl, hl4, hE4⟩
  replace hl3 := hl3.ext hE4
  replace hE4 := hE3.trans hE4
  clear HC hE3
  clear a0 a1 a2 a3 a4 a5
  obtain ⟨a0, a1, a2, a3, a4, a5⟩ := HB.out w4 (hE4)
  dsimp only at a0 a1 a2 a3 a4 a5
  have HC := Lib.hid ((r9_Same q q A3 A4 c3 c4 w4 hl3 hl4 hle hle).mono (fun _ _ h => (⟨h.1.trans (by rw [decide_eq_true rfl]), h.2⟩ : _ = Ending.returned (.bool true) ∧ _)))
  go_wp2_with fail
  refine (HC.out).mono ?_
  rintro e w5 ⟨rfl, hE5⟩
  replace hE5 := hE4.trans hE5
  clear HC hE4 hl3 hl4
  clear a0 a1 a2 a3 a4 a5
  obtain ⟨a0, a1, a2, a3, a4, a5⟩ := HB.out w5 (hE5)
  dsimp only at a0 a1 a2 a3 a4 a5
  have C := s_Drop s A c ⟨rk, rn, rnm, rky, rfr, rto⟩ w5 (hs'.ext hE5) hA h10
  rw [hdq] at C
  have HC := Lib.hid C
  clear C
  go_wp2_with fail
  refine (HC.out).mono ?_
  rintro e w6 ⟨A6, c6, rfl, hl6, hE6⟩
  replace hE6 := hE5.trans hE6
  clear HC hE5
  clear a0 a1 a2 a3 a4 a5
  obtain ⟨a0, a1, a2, a3, a4, a5⟩ := HB.out w6 (hE6)
  dsimp only at a0 a1 a2 a3 a4 a5
  have C := r9_Drop s A c ⟨rk, rn, rnm, rky, rfr, rto⟩ w6 (hs'.ext hE6) h10
  rw [hdq] at C
  have HC := Lib.hid C
  clear C
  go_wp2_with fail
  refine (HC.out).mono ?_
  rintro e w7 ⟨A7, c7, rfl, hl7, hE7⟩
  replace hl6 := hl6.ext hE7
  replace hE7 := hE6.trans hE7
  clear HC hE6
  clear a0 a1 a2 a3 a4 a5
  obtain ⟨a0, a1, a2, a3, a4, a5⟩ := HB.out w7 (hE7)
  dsimp only at a0 a1 a2 a3 a4 a5
  have HC := Lib.hid ((r9_Same p p A6 A7 c6 c7 w7 hl6 hl7 hld hld).mono (fun _ _ h => (⟨h.1.trans (by rw [decide_eq_true rfl]), h.2⟩ : _ = Ending.returned (.bool true) ∧ _)))
  go_wp2_with fail
  refine (HC.out).mono ?_
  rintro e w8 ⟨rfl, hE8⟩
  replace hE8 := hE7.trans hE8
  clear HC hE7 hl6 hl7
  clear a0 a1 a2 a3 a4 a5
  obtain ⟨a0, a1, a2, a3, a4, a5⟩ := HB.out w8 (hE8)
  dsimp only at a0 a1 a2 a3 a4 a5
  have HC := Lib.hid (s_Valid s A c w8 (hs'.ext hE8) h10)
  go_wp2_with fail
  refine (HC.out).mono ?_
  rintro e w9 ⟨rfl, hE9⟩
  replace hE9 := hE8.trans hE9
  clear HC hE8
  have HC := Lib.hid (r9_Valid s A c w9 (hs'.ext hE9) h10)
  go_wp2_with fail
  refine (HC.out).mono ?_
  rintro e w10 ⟨rfl, hE10⟩
  replace hE10 := hE9.trans hE10
  clear HC hE9
  have HC := Lib.hid (l_lives w10 (hw'.ext hE10))
  go_wp2_with fail
  refine (HC.out).mono ?_
  rintro e w11 ⟨rfl, hE11⟩
  go_wp2_with fail
  exact bodyPost_ret (v := .bool true) (by simp [results, Tryz.results4, go_sem] <;> rfl) rfl ⟨rfl, (hx.trans hE10).trans hE11⟩

end Go.Proofs.YtanclhcoiagcfaaGreatDoor
