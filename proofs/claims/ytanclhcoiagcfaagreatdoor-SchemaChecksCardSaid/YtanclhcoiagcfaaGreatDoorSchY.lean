/- THE WALK over the reference's Parse. -/
import Derived.Test.YtanclhcoiagcfaaGreatDoorSchX
namespace Go.Proofs.YtanclhcoiagcfaaGreatDoor
open Go.RowKit

theorem cutW_len : ∀ (l a : List UInt8), (cutW a l).length ≤ l.length + 1
  | [], a => by simp [cutW]
  | c :: r, a => by
    unfold cutW
    split
    · have := cutW_len r []; simp only [List.length_cons] at *; omega
    · have := cutW_len r (a ++ [c]); simp only [List.length_cons] at *; omega
theorem cutW_mem : ∀ (l a : List UInt8), ∀ w ∈ cutW a l, w.length ≤ a.length + l.length
  | [], a, w, h => by
    simp only [cutW, List.mem_cons, List.not_mem_nil, or_false] at h
    subst h; simp
  | c :: r, a, w, h => by
    unfold cutW at h
    split at h
    · rcases List.mem_cons.1 h with rfl | h
      · simp
      · have := cutW_mem r [] w h; simp only [List.length_cons, List.length_nil] at *; omega
    · have := cutW_mem r (a ++ [c]) w h; simp only [List.length_cons, List.length_append, List.length_nil] at *; omega
theorem wordsL_len (s : ByteArray) : (wordsL s).length ≤ 201 := by
  unfold wordsL
  split
  · simp
  · have := cutW_len s.data.toList []
    simp only [List.length_map]
    unfold pieces
    have e : s.data.toList.length = s.size := by simp
    omega
theorem wordsL_mem (s : ByteArray) : ∀ k, k < (wordsL s).length → (wordsL s)[k]!.size ≤ 200 := by
  intro k hk
  by_cases h : 200 < s.size
  · have e : wordsL s = [] := by unfold wordsL; rw [if_pos h]
    rw [e] at hk; simp at hk
  · have hd := wordsL_data h
    have hm : (wordsL s)[k]!.data.toList ∈ pieces s.data.toList := by
      rw [← hd, getElem!_pos _ k hk]
      exact List.mem_map.2 ⟨_, List.getElem_mem _, rfl⟩
    have h2 := cutW_mem _ _ _ hm
    have e : s.data.toList.length = s.size := by simp
    have e2 : (wordsL s)[k]!.data.toList.length = (wordsL s)[k]!.size := by simp
    simp only [List.length_nil] at h2
    omega

theorem text_beq (r : RuleP) (s : ByteArray) : ((asB (textL r)).toList == s.toList) = decide (textL r = s.data.toList) := by
  rw [ByteArray.toList_eq s, beq_list]; rfl

/-- WHAT A PARSE HANDS BACK. -/
def HandedP (s : ByteArray) (w : World) (e : Ending) (w' : World) : Prop := ∃ (r : RuleP) (n : Int), e = .returned (.tuple #[r.val, .int .i64 n]) ∧ ParsedR s.data.toList r n ∧ Ext w w'

set_option maxRecDepth 100000 in
set_option maxHeartbeats 1600000 in
theorem r9_Parse (s : ByteArray) (w : World) (hs : s.size ≤ 9223372036854775807) : Calls Tryz.prog 21 #[.string s] w (HandedP s w) := by
  have HY := Lib.hid (fun (h : chkR (guessR (wordsL s)) = 0) (ht : textL (guessR (wordsL s)) = s.data.toList) => parsed_yes h ht)
  have HNO := Lib.hid (parsed_no (s := s))
  have HWO := Lib.hid (fun W => r9_words s W hs)
  have HGU := Lib.hid (fun A c W (h : Lies strC 1 W A (wordsL s)) => r9_guess (wordsL s) A c W h (Nat.le_trans (wordsL_len s) (by decide)) (fun k hk => Nat.le_trans (wordsL_mem s k hk) (by decide)))
  have HTB := Lib.hid (fun r => text_beq r s)
  clear hs
  obtain ⟨g, w1, hg, hw1, hz, hx, hle⟩ := box_zero w
  go_enter Tryz.func21, Tryz.ntmps21
  have HW1 := Lib.hid hw1
  have HG := Lib.hid hg
  clear hw1 hg
  go_upto_region 1 with (fail)
  rw [← HW1.out, ← HG.out]
  clear HW1 HG
  go_wp2_with fail
  refine (HWO.out _).mono ?_
  rintro e w2 ⟨A, c, rfl, hl, hE2⟩
  go_wp2_with fail
  refine (HGU.out A c _ hl).mono ?_
  rintro e w3 ⟨rfl, hE3⟩
  have hz3 := (hz.ext hE2).ext hE3
  have hx3 := (hx.trans hE2).trans hE3
  clear hz hx hl hE2 hE3 HWO HGU
  generalize guessR (wordsL s) = r at HY HNO ⊢
  obtain ⟨g4, w4, hg4, hw4, hb4, hx4, -⟩ := box_rule w3 r 23
  have HW4 := Lib.hid hw4
  have HG4 := Lib.hid hg4
  have hz4 := hz3.ext hx4
  have hx5 := hx3.trans hx4
  clear hw4 hg4 hz3 hx3 hx4
  unfold RuleP.val
  go_upto_region 2 with (fail)
  rw [← HW4.out, ← HG4.out]
  clear HW4 HG4
  obtain ⟨c0, c1, c2, c3, c4, c5⟩ := id hb4
  by_cases hok : chkR r = 0
  · have HOK := Lib.hid hok
    have hok' : (chkR r != 0) = false := by rw [hok]; rfl
    clear hok
    go_wp2_with fail
    refine (r9_Check r _).mono ?_
    rintro e w5 ⟨rfl, hE5⟩
    have hE5 : Ext w4 w5 := hE5
    replace hb4 := hb4.ext hE5
    have hz5 := hz4.ext hE5
    replace hx5 := hx5.trans hE5
    clear c0 c1 c2 c3 c4 c5 hz4 hE5
    obtain ⟨c0, c1, c2, c3, c4, c5⟩ := id hb4
    go_wp2_with fail
    refine (r9_Text r _).mono ?_
    rintro e w6 ⟨rfl, hE6⟩
    replace hb4 := hb4.ext hE6
    have hz6 := hz5.ext hE6
    replace hx5 := hx5.trans hE6
    clear c0 c1 c2 c3 c4 c5 hz5 hE6
    obtain ⟨c0, c1, c2, c3, c4, c5⟩ := id hb4
    obtain ⟨z0, f0, z1, f1, z2, f2, z3, f3, z4, f4, z5, f5⟩ := id hz6
    have hgg := hx5.le
    by_cases ht : textL r = s.data.toList
    · have HT := Lib.hid ht
      have hbt : ((asB (textL r)).toList == s.toList) = true := by rw [HTB.out]; exact decide_eq_true ht
      clear ht
      go_wp2_with fail
      exact bodyPost_ret (v := .tuple #[RuleP.val r, .int .i64 0]) (by simp [results, Tryz.results21, RuleP.val, go_sem, z0, z1, z2, z3, z4, z5] <;> rfl) rfl ⟨r, 0, rfl, HY.out HOK.out HT.out, (by repeat (first | with_reducible exact Ext.refl _ | with_reducible assumption | with_reducible refine Ext.drew ?_ | with_reducible refine Ext.drewN ?_ _ | with_reducible refine Ext.alloc ?_ _ | (with_reducible refine Ext.setCell ?_ (by first | assumption | omega) _)))⟩
    · have HT := Lib.hid ht
      have hbt : ((asB (textL r)).toList == s.toList) = false := by rw [HTB.out]; exact decide_eq_false ht
      clear ht
      go_wp2_with fail
      exact bodyPost_ret (v := .tuple #[RuleP.val zeroR, .int .i64 2]) (by simp [results, Tryz.results21, RuleP.val, zeroR, emptyB, go_sem, z0, z1, z2, z3, z4, z5] <;> rfl) rfl ⟨zeroR, 2, rfl, HNO.out (fun h => HT.out h.2), (by repeat (first | with_reducible exact Ext.refl _ | with_reducible assumption | with_reducible refine Ext.drew ?_ | with_reducible refine Ext.drewN ?_ _ | with_reducible refine Ext.alloc ?_ _ | (with_reducible refine Ext.setCell ?_ (by first | assumption | omega) _)))⟩
  · have HOK := Lib.hid hok
    have hok' : (chkR r != 0) = true := by simpa using hok
    clear hok
    go_wp2_with fail
    refine (r9_Check r _).mono ?_
    rintro e w5 ⟨rfl, hE5⟩
    have hE5 : Ext w4 w5 := hE5
    have hz5 := hz4.ext hE5
    replace hx5 := hx5.trans hE5
    clear c0 c1 c2 c3 c4 c5 hz4 hE5
    obtain ⟨z0, f0, z1, f1, z2, f2, z3, f3, z4, f4, z5, f5⟩ := id hz5
    have hgg := hx5.le
    go_wp2_with fail
    exact bodyPost_ret (v := .tuple #[RuleP.val zeroR, .int .i64 2]) (by simp [results, Tryz.results21, RuleP.val, zeroR, emptyB, go_sem, z0, z1, z2, z3, z4, z5] <;> rfl) rfl ⟨zeroR, 2, rfl, HNO.out (fun h => HOK.out h.1), (by repeat (first | with_reducible exact Ext.refl _ | with_reducible assumption | with_reducible refine Ext.drew ?_ | with_reducible refine Ext.drewN ?_ _ | with_reducible refine Ext.alloc ?_ _ | (with_reducible refine Ext.setCell ?_ (by first | assumption | omega) _)))⟩

end Go.Proofs.YtanclhcoiagcfaaGreatDoor
