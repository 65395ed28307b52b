/- THE LAW Parses. -/
import Derived.Test.YtanclhcoiagcfaaGreatDoorSchZc
namespace Go.Proofs.YtanclhcoiagcfaaGreatDoor
open Go.RowKit

theorem parsed_uniq {t : List UInt8} {r r' : RuleP} {e e' : Int} (h : ParsedR t r e) (h' : ParsedR t r' e') : r = r' ∧ e = e' := by
  rcases h with ⟨he, hc, ht⟩ | ⟨he, hr, hn⟩
  · rcases h' with ⟨he', hc', ht'⟩ | ⟨he', hr', hn'⟩
    · exact ⟨textL_inj hc hc' (ht.trans ht'.symm), he.trans he'.symm⟩
    · exact absurd ht (hn' r hc)
  · rcases h' with ⟨he', hc', ht'⟩ | ⟨he', hr', hn'⟩
    · exact absurd ht' (hn r' hc')
    · exact ⟨hr.trans hr'.symm, he.trans he'.symm⟩

set_option maxRecDepth 100000 in
set_option maxHeartbeats 3200000 in
theorem l_Parses (s : ByteArray) (w : World) (hw : LaidS w) (hs : s.size ≤ 1048576) : Calls Tryz.prog 5 #[.string s] w fun e w' => e = .returned (.bool true) ∧ Ext w w' := by
  have HP := Lib.hid (s_Parse s w hw hs)
  have HR := Lib.hid (fun W => r9_Parse s W (by omega))
  have HW := Lib.hid hw
  clear hw hs
  go_enter Tryz.func5, Tryz.ntmps5
  go_wp2_with fail
  refine (HP.out).mono ?_
  rintro e w1 ⟨⟨rk, rn, rnm, rky, rfr, rto⟩, n, rfl, hp, hE⟩
  clear HP
  obtain ⟨g, w2, hg, hw2, hb, hx, -⟩ := box_rule w1 ⟨rk, rn, rnm, rky, rfr, rto⟩ 23
  have Hg := Lib.hid hg
  have Hw2 := Lib.hid hw2
  clear hg hw2
  simp only [RuleP.val]
  go_upto_region 2 with (fail)
  rw [← Hw2.out, ← Hg.out]
  clear Hw2 Hg
  go_wp2_with fail
  refine (HR.out w2).mono ?_
  rintro e w3 ⟨⟨qk, qn, qnm, qky, qfr, qto⟩, m, rfl, hq, hE3⟩
  obtain ⟨h1, h2⟩ := parsed_uniq hq hp
  injection h1 with h11 h12 h13 h14 h15 h16
  subst h11 h12 h13 h14 h15 h16 h2
  clear HR hp hq
  obtain ⟨g2, w4, hg2, hw4, hc, hx4, -⟩ := box_rule w3 ⟨qk, qn, qnm, qky, qfr, qto⟩ 23
  have Hg2 := Lib.hid hg2
  have Hw4 := Lib.hid hw4
  clear hg2 hw4
  simp only [RuleP.val]
  go_upto_region 3 with (fail)
  rw [← Hw4.out, ← Hg2.out]
  clear Hw4 Hg2
  have hE4 := (hE.trans hx).trans (hE3.trans hx4)
  obtain ⟨a0, a1, a2, a3, a4, a5⟩ := hb.ext (hE3.trans hx4)
  obtain ⟨b0, b1, b2, b3, b4, b5⟩ := hc
  dsimp only at a0 a1 a2 a3 a4 a5 b0 b1 b2 b3 b4 b5
  have HGR := guard_rule
  have HPQ := fun W => (eql_rule ⟨qk, qn, qnm, qky, qfr, qto⟩ ⟨qk, qn, qnm, qky, qfr, qto⟩ W).trans (by rw [decide_eq_true rfl])
  dsimp only at HPQ
  have HL := Lib.hid (l_lives w4 (HW.out.ext hE4))
  clear HW
  go_wp2_with fail
  refine (HL.out).mono ?_
  rintro e w5 ⟨rfl, hE5⟩
  go_wp2_with fail
  exact bodyPost_ret (v := .bool true) (by simp [results, Tryz.results5, go_sem] <;> rfl) rfl ⟨rfl, hE4.trans hE5⟩

end Go.Proofs.YtanclhcoiagcfaaGreatDoor
