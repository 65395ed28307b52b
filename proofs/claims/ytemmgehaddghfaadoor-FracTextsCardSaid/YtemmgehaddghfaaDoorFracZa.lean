/- THE WALKS over the laws: FracTexts. -/
import Derived.Test.YtemmgehaddghfaaDoorFracUa
import Derived.Test.YtemmgehaddghfaaDoorFracTe
namespace Go.Proofs.YtemmgehaddghfaaDoor
open Go.RowKit

set_option maxRecDepth 100000 in
set_option maxHeartbeats 6400000 in
theorem law_FracTexts (an ad : Int) (s : ByteArray) (w : World) (hz : ZeroAt w) (hw : LaidW w) (hs : s.size ≤ 281474976710656) :
    Calls Tryd.prog 5 #[.agg #[.int .i64 an, .int .i64 ad], .string s] w fun e w' => e = .returned (.bool true) ∧ Below w.heap.size w w' := by
  obtain ⟨⟨p, q, r⟩, hP⟩ : ∃ r, parseS s.data.toList = r := ⟨_, rfl⟩
  have HP := Lib.hid (fun w hw => frac_Parse s w hw hs)
  have HR := Lib.hid (fun w => r3_Parse s w hs)
  rw [hP] at HP HR
  obtain ⟨t, ht⟩ : ∃ t, textS an ad = t := ⟨_, rfl⟩
  obtain ⟨n, hn⟩ : ∃ n, floorS an ad = n := ⟨_, rfl⟩
  have st0 := Lib.hid ((LivesSt.start hz hw).push' w.heap.size rfl an ad 23)
  clear hz hw hs hP
  go_enter Tryd.func5, Tryd.ntmps5
  go_wp2_with fail
  refine (HP.out _ st0.out.laid).mono ?_
  rintro e w1 ⟨rfl, hb⟩
  have su1 := Lib.hid (st0.out.step hb)
  clear hb
  obtain ⟨⟨p1a, p1b, p1c⟩, -⟩ := su1.out.2.1
  have p1cn := Nat.ne_of_lt p1c; have p1cm := Nat.ne_of_gt p1c
  have st1 := Lib.hid (su1.out.push' w1.heap.size rfl p q 23)
  go_wp2_with fail
  refine (HR.out _).mono ?_
  rintro e w2 ⟨rfl, hb⟩
  clear p1a p1b p1c p1cn p1cm
  have su2 := Lib.hid (st1.out.step hb)
  clear hb
  obtain ⟨⟨p2a, p2b, p2c⟩, ⟨p3a, p3b, p3c⟩, -⟩ := su2.out.2.1
  have p2cn := Nat.ne_of_lt p2c; have p2cm := Nat.ne_of_gt p2c
  have p3cn := Nat.ne_of_lt p3c; have p3cm := Nat.ne_of_gt p3c
  have st2 := Lib.hid (su2.out.push' w2.heap.size rfl p q 23)
  go_wp2_with fail
  clear p2a p2b p2c p3a p3b p3c p2cn p2cm p3cn p3cm
  have hlast := st2.out
  refine forget_world (LivesSt w [(w2.heap.size, p, q), (w1.heap.size, p, q), (w.heap.size, an, ad)]) hlast ?_
  clear hlast
  intro V hV
  go_region_held3 (fun V => (V.cell? ⟨w2.heap.size, 0, none⟩ = some (.int .i64 p) ∧ V.cell? ⟨w2.heap.size, 1, none⟩ = some (.int .i64 q)) ∧ (V.cell? ⟨w1.heap.size, 0, none⟩ = some (.int .i64 p) ∧ V.cell? ⟨w1.heap.size, 1, none⟩ = some (.int .i64 q)) ∧ (V.cell? ⟨w.heap.size, 0, none⟩ = some (.int .i64 an) ∧ V.cell? ⟨w.heap.size, 1, none⟩ = some (.int .i64 ad)) ∧ LivesSt w [(w2.heap.size, p, q), (w1.heap.size, p, q), (w.heap.size, an, ad)] V) (first | exact (LivesSt.drew hV).conj3 | exact LivesSt.conj3 (by assumption)) (first | (go_at_call 26; refine (frac_Text _ _ _ (‹(_ ∧ _) ∧ (_ ∧ _) ∧ (_ ∧ _) ∧ LivesSt _ _ _›.2.2.2).laid).mono ?_; rintro e w' ⟨rfl, hbb⟩; have hst := LivesSt.step (‹(_ ∧ _) ∧ (_ ∧ _) ∧ (_ ∧ _) ∧ LivesSt _ _ _›.2.2.2) hbb) | (go_at_call 27; refine (r3_Text _ _ _).mono ?_; rintro e w' ⟨rfl, hbb⟩; have hst := LivesSt.step (‹(_ ∧ _) ∧ (_ ∧ _) ∧ (_ ∧ _) ∧ LivesSt _ _ _›.2.2.2) hbb) | (go_at_call 28; refine (frac_Floor _ _ _).mono ?_; rintro e w' ⟨rfl, hbb⟩; have hst := LivesSt.step (‹(_ ∧ _) ∧ (_ ∧ _) ∧ (_ ∧ _) ∧ LivesSt _ _ _›.2.2.2) hbb) | (go_at_call 29; refine (r3_Floor _ _ _).mono ?_; rintro e w' ⟨rfl, hbb⟩; have hst := LivesSt.step (‹(_ ∧ _) ∧ (_ ∧ _) ∧ (_ ∧ _) ∧ LivesSt _ _ _›.2.2.2) hbb) | (go_at_call 13; refine (law_lives _ (‹(_ ∧ _) ∧ (_ ∧ _) ∧ (_ ∧ _) ∧ LivesSt _ _ _›.2.2.2).zero (‹(_ ∧ _) ∧ (_ ∧ _) ∧ (_ ∧ _) ∧ LivesSt _ _ _›.2.2.2).laid).mono ?_; rintro e w' ⟨rfl, hbb⟩; have hst := LivesSt.step (‹(_ ∧ _) ∧ (_ ∧ _) ∧ (_ ∧ _) ∧ LivesSt _ _ _›.2.2.2) hbb))
  all_goals go_wp2_with fail
  all_goals go_ret
  all_goals exact ⟨rfl, (‹(_ ∧ _) ∧ (_ ∧ _) ∧ (_ ∧ _) ∧ LivesSt _ _ _›.2.2.2).1⟩

end Go.Proofs.YtemmgehaddghfaaDoor
