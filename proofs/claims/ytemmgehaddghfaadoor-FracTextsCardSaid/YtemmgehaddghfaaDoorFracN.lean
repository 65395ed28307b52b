/- THE WALKS over package frac: Text, Parse. -/
import Derived.Test.YtemmgehaddghfaaDoorFracM
import Derived.Test.YtemmgehaddghfaaDoorPlainP
import Derived.Test.YtemmgehaddghfaaDoorNumP
import Derived.BigQuiet
import Derived.Deep.QuietTactic
namespace Go.Proofs.YtemmgehaddghfaaDoor
open Go.RowKit

def CutIs (s : ByteArray) (w : World) (e : Ending) (w' : World) : Prop := e = .returned (.tuple #[.string ⟨(cutA s.data.toList).toArray⟩, .string ⟨(cutB s.data.toList).toArray⟩, .bool (cutC s.data.toList)]) ∧ ∃ n, w' = w.drewN n

theorem ret_cut {x y x' y' : ByteArray} {b b' : Bool} (h1 : x = x') (h2 : y = y') (h3 : b = b') : Ending.returned (.tuple #[.string x, .string y, .bool b]) = .returned (.tuple #[.string x', .string y', .bool b']) := by rw [h1, h2, h3]

theorem str_of {s : ByteArray} {l : List UInt8} (h : s.data.toList = l) : s = ⟨l.toArray⟩ := by
  apply ByteArray.ext
  apply Array.toList_inj.1
  rw [h]

theorem str_eta (s : ByteArray) : (⟨s.data.toList.toArray⟩ : ByteArray) = s := by simp

set_option maxHeartbeats 800000 in
theorem lite_Cut (s : ByteArray) (w : World) (hs : s.size ≤ 281474976710656) :
    Calls Tryd.prog 63 #[.string s, .string ⟨#[47]⟩] w (CutIs s w) := by
  have hge := Lib.indexByte_ge s.data.toList 47
  by_cases hi : 0 ≤ Lib.indexByte s.data.toList 47
  · obtain ⟨i, hi'⟩ : ∃ i : Nat, Lib.indexByte s.data.toList 47 = i := ⟨_, (Int.toNat_of_nonneg hi).symm⟩
    have hlt : i < s.size := by
      have := (Lib.indexByte_some hi').1
      rcases Nat.lt_or_ge i s.size with h | h
      · exact h
      · rw [List.getElem?_eq_none (by simpa using h)] at this; cases this
    have HR : Hid (cutA s.data.toList = s.data.toList.take i ∧ cutB s.data.toList = s.data.toList.drop (i + 1) ∧ cutC s.data.toList = true) := by
      refine ⟨?_, ?_, ?_⟩
      · unfold cutA; rw [if_pos hi, hi']; rfl
      · unfold cutB; rw [if_pos hi, hi']; rfl
      · unfold cutC; exact decide_eq_true hi
    have HI := Lib.hid (fun w => Tryd.stringslite_Index_one s 47 w)
    rw [hi'] at HI
    clear hi hi' hge
    have hlt2 : (i : Int) + 1 ≤ s.size := by omega
    have hs2 : (s.size : Int) ≤ 281474976710656 := by omega
    go_enter Tryd.func63, Tryd.ntmps63
    go_wp2_with (go_at_call 68; refine (HI.out _).mono ?_; rintro e w' ⟨rfl, rfl⟩)
    go_quiet (fail)
    go_wp2
    go_ret3
    obtain ⟨r1, r2, r3⟩ := HR.out
    refine ⟨ret_cut (str_of ?_) (str_of ?_) r3.symm, nq, rfl⟩
    · rw [r1, Lib.extract_data]; simp
    · rw [r2, Lib.extract_to_end]
  · have hi' : Lib.indexByte s.data.toList 47 = -1 := by omega
    have HR : Hid (cutA s.data.toList = s.data.toList ∧ cutB s.data.toList = [] ∧ cutC s.data.toList = false) := by
      refine ⟨?_, ?_, ?_⟩
      · unfold cutA; rw [if_neg hi]
      · unfold cutB; rw [if_neg hi]
      · unfold cutC; exact decide_eq_false hi
    have HI := Lib.hid (fun w => Tryd.stringslite_Index_one s 47 w)
    rw [hi'] at HI
    clear hi hi' hge
    go_enter Tryd.func63, Tryd.ntmps63
    go_wp2_with (go_at_call 68; refine (HI.out _).mono ?_; rintro e w' ⟨rfl, rfl⟩)
    go_ret3
    obtain ⟨r1, r2, r3⟩ := HR.out
    exact ⟨ret_cut (str_of (by rw [r1])) (str_of (by rw [r2])) r3.symm, 0, rfl⟩

theorem strings_Cut1 (s : ByteArray) (w : World) (hs : s.size ≤ 281474976710656) :
    Calls Tryd.prog 48 #[.string s, .string ⟨#[47]⟩] w (CutIs s w) := by
  have HC := Lib.hid (fun w => lite_Cut s w hs)
  go_enter Tryd.func48, Tryd.ntmps48
  go_wp2_with (go_at_call 63; refine (HC.out _).mono ?_; rintro e w' ⟨rfl, n, rfl⟩)
  go_ret3
  exact ⟨rfl, n, rfl⟩

theorem itoa_below (n : Int) (w : World) (hw : LaidW w) (h1 : -1000000000000000 ≤ n) (h2 : n ≤ 1000000000000000) :
    Calls Tryd.prog 51 #[.int .i64 n] w fun e w' => e = .returned (.string ⟨(Lib.itoa n).toArray⟩) ∧ Below w.heap.size w w' := by
  refine (Tryd.strconv_Itoa n (by omega) (by omega) _ hw.tab).mono ?_
  rintro e w' ⟨rfl, k, os, rfl⟩
  exact ⟨rfl, Lib.below_grow w.heap.size w (Nat.le_refl _) k os⟩

/-- what Text's frame holds -/
def TextSt (w : World) (n d : Int) (V : World) : Prop := Below w.heap.size w V ∧ w.heap.size < V.heap.size ∧ V.cell? ⟨w.heap.size, 0, none⟩ = some (.int .i64 n) ∧ V.cell? ⟨w.heap.size, 1, none⟩ = some (.int .i64 d) ∧ LaidW V

theorem TextSt.step {w : World} {n d : Int} {V V' : World} (q : TextSt w n d V) (hb : Below V.heap.size V V') : TextSt w n d V' := by
  obtain ⟨q0, q1, q2, q3, q4⟩ := q
  obtain ⟨hc, hf⟩ := bcell hb
  have hs := hb.size
  exact ⟨below_step q0 hb, by omega, (hc _ _ (by omega)).trans q2, (hc _ _ (by omega)).trans q3, q4.below hb⟩

theorem TextSt.conj {w : World} {n d : Int} {V : World} (q : TextSt w n d V) : V.cell? ⟨w.heap.size, 0, none⟩ = some (.int .i64 n) ∧ V.cell? ⟨w.heap.size, 1, none⟩ = some (.int .i64 d) ∧ TextSt w n d V := ⟨q.2.2.1, q.2.2.2.1, q⟩

theorem TextSt.drew {w : World} {n d : Int} {V : World} (q : TextSt w n d V) : TextSt w n d V.drew := q.step (below_drew' (Below.refl _ _))

theorem str_join (a b : List UInt8) : (⟨a.toArray⟩ ++ ⟨#[47]⟩ ++ ⟨b.toArray⟩ : ByteArray) = ⟨(a ++ 47 :: b).toArray⟩ := by
  apply ByteArray.ext
  apply Array.toList_inj.1
  simp

set_option maxHeartbeats 1600000 in
theorem frac_Text (n d : Int) (w : World) (hw : LaidW w) :
    Calls Tryd.prog 26 #[.agg #[.int .i64 n, .int .i64 d]] w fun e w' => e = .returned (.string ⟨(textS n d).toArray⟩) ∧ Below w.heap.size w w' := by
  have HW := Lib.hid hw
  clear hw
  cases hv : validB n d
  · have HR : Hid (textS n d = []) := by show textS n d = []; unfold textS; rw [hv]; rfl
    go_enter Tryd.func26, Tryd.ntmps26
    go_wp2_with fail
    refine (frac_Valid _ _ _).mono ?_
    rintro e w' ⟨rfl, hbb⟩
    have hb1 : Below w.heap.size w w' := Below.trans (b := _) (by repeat (first | with_reducible exact Below.refl _ _ | with_reducible assumption | with_reducible refine below_drewN' ?_ _ | (with_reducible refine Below.setCell ?_ (by first | (simp; done) | (simp; omega)) _) | (with_reducible refine Below.alloc ?_ (by first | exact Nat.le_refl _ | (simp; done) | (simp; omega)) _))) (hbb.mono (by simp))
    go_wp2_with fail
    go_ret
    exact ⟨by rw [HR.out]; rfl, hb1⟩
  · obtain ⟨h1, h2, ⟨h3, h4⟩, -⟩ := validB_iff.1 hv
    by_cases hd : d = 1
    · have HR : Hid (textS n d = Lib.itoa n) := by show textS n d = _; unfold textS; rw [hv, if_pos rfl, if_pos hd]
      have hd1 : (d == 1) = true := beq_iff_eq.2 hd
      clear hd
      go_enter Tryd.func26, Tryd.ntmps26
      go_wp2_with fail
      refine (frac_Valid _ _ _).mono ?_
      rintro e w' ⟨rfl, hbb⟩
      have hb1 : Below w.heap.size w w' := Below.trans (b := _) (by repeat (first | with_reducible exact Below.refl _ _ | with_reducible assumption | with_reducible refine below_drewN' ?_ _ | (with_reducible refine Below.setCell ?_ (by first | (simp; done) | (simp; omega)) _) | (with_reducible refine Below.alloc ?_ (by first | exact Nat.le_refl _ | (simp; done) | (simp; omega)) _))) (hbb.mono (by simp))
      have HW1 := Lib.hid (HW.out.below hb1)
      obtain ⟨hc, hf⟩ := bcell hbb
      have c0 : w'.cell? ⟨w.heap.size, 0, none⟩ = some (.int .i64 n) := (hc _ _ (by simp)).trans (by go_simp)
      have c1 : w'.cell? ⟨w.heap.size, 1, none⟩ = some (.int .i64 d) := (hc _ _ (by simp)).trans (by go_simp)
      clear hc hf hbb
      go_wp2_with fail
      refine (itoa_below _ _ HW1.out (by omega) (by omega)).mono ?_
      rintro e w2 ⟨rfl, hb2⟩
      go_wp2_with fail
      go_ret
      exact ⟨by rw [HR.out]; rfl, below_step hb1 hb2⟩
    · have HR : Hid (textS n d = Lib.itoa n ++ 47 :: Lib.itoa d) := by show textS n d = _; unfold textS; rw [hv, if_pos rfl, if_neg hd]
      have hd1 : (d == 1) = false := beq_eq_false_iff_ne.2 hd
      clear hd
      go_enter Tryd.func26, Tryd.ntmps26
      go_wp2_with fail
      refine (frac_Valid _ _ _).mono ?_
      rintro e w' ⟨rfl, hbb⟩
      have hb1 : Below w.heap.size w w' := Below.trans (b := _) (by repeat (first | with_reducible exact Below.refl _ _ | with_reducible assumption | with_reducible refine below_drewN' ?_ _ | (with_reducible refine Below.setCell ?_ (by first | (simp; done) | (simp; omega)) _) | (with_reducible refine Below.alloc ?_ (by first | exact Nat.le_refl _ | (simp; done) | (simp; omega)) _))) (hbb.mono (by simp))
      have HW1 := Lib.hid (HW.out.below hb1)
      obtain ⟨hc, hf⟩ := bcell hbb
      have c0 : w'.cell? ⟨w.heap.size, 0, none⟩ = some (.int .i64 n) := (hc _ _ (by simp)).trans (by go_simp)
      have c1 : w'.cell? ⟨w.heap.size, 1, none⟩ = some (.int .i64 d) := (hc _ _ (by simp)).trans (by go_simp)
      clear hc hf
      go_wp2_with fail
      have L1 := itoa_len h3 h4
      have L2 := itoa_len (n := d) (by omega) (by omega)
      have L3 : ¬ 9223372036854775807 < (Lib.itoa n).length + 1 := by omega
      have L4 : ¬ 9223372036854775807 < (Lib.itoa n).length + 1 + (Lib.itoa d).length := by omega
      clear L1 L2
      have st : TextSt w n d w' := ⟨hb1, by have := hbb.size; simp at this; omega, c0, c1, HW1.out⟩
      clear c0 c1 hb1
      go_region_held3 (fun V => V.cell? ⟨w.heap.size, 0, none⟩ = some (.int .i64 n) ∧ V.cell? ⟨w.heap.size, 1, none⟩ = some (.int .i64 d) ∧ TextSt w n d V) (first | exact (TextSt.drew st).conj | exact TextSt.conj (by assumption)) ((go_at_call 51; refine (itoa_below _ _ (‹_ ∧ _ ∧ TextSt _ _ _ _›.2.2.2.2.2.2) (by omega) (by omega)).mono ?_; rintro e w3 ⟨rfl, hb3⟩; have hst := TextSt.step (‹_ ∧ _ ∧ TextSt _ _ _ _›.2.2) hb3))
      all_goals go_wp2_with fail
      all_goals go_ret
      all_goals exact ⟨(congrArg (fun z => Ending.returned (.string z)) (str_join _ _)).trans (by rw [HR.out]), (‹_ ∧ _ ∧ TextSt _ _ _ _›.2.2).1⟩


theorem num_ParseL (l : List UInt8) (w : World) (hw : LaidW w) (hs : l.length ≤ 281474976710656) :
    Calls Tryd.prog 49 #[.string ⟨l.toArray⟩] w fun e w' => e = .returned (.tuple #[.int .i64 (parseV l), .bool (parseB l)]) ∧ Below w.heap.size w w' :=
  num_Parse ⟨l.toArray⟩ w hw hs

theorem cutA_length (l : List UInt8) : (cutA l).length ≤ l.length := by
  unfold cutA
  split
  · rw [List.length_take]; omega
  · exact Nat.le_refl _

theorem cutB_length (l : List UInt8) : (cutB l).length ≤ l.length := by
  unfold cutB
  split
  · rw [List.length_drop]; omega
  · simp

theorem strings_Cut_below (s : ByteArray) (w : World) (hs : s.size ≤ 281474976710656) :
    Calls Tryd.prog 48 #[.string s, .string ⟨#[47]⟩] w fun e w' => e = .returned (.tuple #[.string ⟨(cutA s.data.toList).toArray⟩, .string ⟨(cutB s.data.toList).toArray⟩, .bool (cutC s.data.toList)]) ∧ Below w.heap.size w w' :=
  (strings_Cut1 s w hs).mono fun e w' ⟨h, n, hn⟩ => ⟨h, by rw [hn]; exact below_drewN' (Below.refl _ _) n⟩

/-- what Parse's frame holds -/
def PSt (w : World) (H : Nat) (p q : Int) (V : World) : Prop :=
  Below w.heap.size w V ∧ (w.heap.size < H ∧ H < V.heap.size) ∧ (V.cell? ⟨w.heap.size, 0, none⟩ = some (.int .i64 0) ∧ V.frozen? ⟨w.heap.size, 0, none⟩ = false) ∧ (V.cell? ⟨w.heap.size, 1, none⟩ = some (.int .i64 0) ∧ V.frozen? ⟨w.heap.size, 1, none⟩ = false) ∧
  (V.cell? ⟨H, 0, none⟩ = some (.int .i64 p) ∧ V.frozen? ⟨H, 0, none⟩ = false) ∧ (V.cell? ⟨H, 1, none⟩ = some (.int .i64 q) ∧ V.frozen? ⟨H, 1, none⟩ = false)

theorem PSt.step {w : World} {H : Nat} {p q : Int} {V V' : World} (h : PSt w H p q V) (hb : Below V.heap.size V V') : PSt w H p q V' := by
  obtain ⟨q0, ⟨q1, q2⟩, ⟨q3, q4⟩, ⟨q5, q6⟩, ⟨q7, q8⟩, q9, q10⟩ := h
  obtain ⟨hc, hf⟩ := bcell hb
  have hs := hb.size
  exact ⟨below_step q0 hb, ⟨q1, by omega⟩, ⟨(hc _ _ (by omega)).trans q3, (hf _ _ (by omega)).trans q4⟩, ⟨(hc _ _ (by omega)).trans q5, (hf _ _ (by omega)).trans q6⟩, ⟨(hc _ _ (by omega)).trans q7, (hf _ _ (by omega)).trans q8⟩, (hc _ _ (by omega)).trans q9, (hf _ _ (by omega)).trans q10⟩

theorem PSt.set0 {w : World} {H : Nat} {p q : Int} {V : World} (h : PSt w H p q V) (p' : Int) : PSt w H p' q (V.setCell ⟨H, 0, none⟩ (.int .i64 p')) := by
  obtain ⟨q0, ⟨q1, q2⟩, ⟨q3, q4⟩, ⟨q5, q6⟩, ⟨q7, q8⟩, q9, q10⟩ := h
  have hn : ¬ w.heap.size = H := by omega
  have hm : ¬ H = w.heap.size := by omega
  exact ⟨q0.setCell (by show w.heap.size ≤ H; omega) _, ⟨q1, by simpa using q2⟩, ⟨by go_simp, by go_simp⟩, ⟨by go_simp, by go_simp⟩, ⟨by go_simp, by go_simp⟩, by go_simp, by go_simp⟩

theorem PSt.set1 {w : World} {H : Nat} {p q : Int} {V : World} (h : PSt w H p q V) (q' : Int) : PSt w H p q' (V.setCell ⟨H, 1, none⟩ (.int .i64 q')) := by
  obtain ⟨q0, ⟨q1, q2⟩, ⟨q3, q4⟩, ⟨q5, q6⟩, ⟨q7, q8⟩, q9, q10⟩ := h
  have hn : ¬ w.heap.size = H := by omega
  have hm : ¬ H = w.heap.size := by omega
  exact ⟨q0.setCell (by show w.heap.size ≤ H; omega) _, ⟨q1, by simpa using q2⟩, ⟨by go_simp, by go_simp⟩, ⟨by go_simp, by go_simp⟩, ⟨by go_simp, by go_simp⟩, by go_simp, by go_simp⟩

theorem PSt.start {w w1 : World} {t u : TypeId} (hb : Below (w.alloc (.cells #[.int .i64 0, .int .i64 0] t)).heap.size (w.alloc (.cells #[.int .i64 0, .int .i64 0] t)) w1) : PSt w w1.heap.size 0 0 (w1.alloc (.cells #[.int .i64 0, .int .i64 0] u)) := by
  have hs := hb.size
  simp at hs
  obtain ⟨hc, hf⟩ := bcell hb
  have hb2 : Below w.heap.size w w1 := ((Below.refl w.heap.size w).alloc (Nat.le_refl _) _).trans (hb.mono (by simp))
  have c0 : w1.cell? ⟨w.heap.size, 0, none⟩ = some (.int .i64 0) := (hc _ _ (by simp)).trans (by go_simp)
  have c1 : w1.cell? ⟨w.heap.size, 1, none⟩ = some (.int .i64 0) := (hc _ _ (by simp)).trans (by go_simp)
  have f0 : w1.frozen? ⟨w.heap.size, 0, none⟩ = false := (hf _ _ (by simp)).trans (by go_simp)
  have f1 : w1.frozen? ⟨w.heap.size, 1, none⟩ = false := (hf _ _ (by simp)).trans (by go_simp)
  obtain ⟨hcA, hfA⟩ := bcell ((Below.refl w1.heap.size w1).alloc (Nat.le_refl _) (.cells #[.int .i64 0, .int .i64 0] u))
  exact ⟨hb2.alloc (by omega) _, ⟨by omega, by simp⟩, ⟨(hcA _ _ (by omega)).trans c0, (hfA _ _ (by omega)).trans f0⟩, ⟨(hcA _ _ (by omega)).trans c1, (hfA _ _ (by omega)).trans f1⟩, ⟨by go_simp, by go_simp⟩, by go_simp, by go_simp⟩

set_option maxHeartbeats 3200000 in
theorem frac_Parse (s : ByteArray) (w : World) (hw : LaidW w) (hs : s.size ≤ 281474976710656) :
    Calls Tryd.prog 24 #[.string s] w (FracIs (parseS s.data.toList) w) := by
  have HW := Lib.hid hw
  have HC := Lib.hid (fun w => strings_Cut_below s w hs)
  have hx : (cutA s.data.toList).length ≤ 281474976710656 := Nat.le_trans (cutA_length _) hs
  have hy : (cutB s.data.toList).length ≤ 281474976710656 := Nat.le_trans (cutB_length _) hs
  clear hw hs
  have HNO := Lib.hid (@parse_no_parts s.data.toList)
  have HYES : Hid (∀ n d, textS n d = s.data.toList → s.data.toList ≠ [] → parseS s.data.toList = (n, d, true)) := fun n d => parse_yes_parts
  cases hsl : cutC s.data.toList
  · rw [hsl] at HC HNO
    simp only [Bool.false_eq_true, if_false] at HNO
    generalize cutA s.data.toList = x at *
    generalize cutB s.data.toList = y at *
    have HPX := Lib.hid (fun w hw => num_ParseL x w hw hx)
    have HPY := Lib.hid (fun w hw => num_ParseL [49] w hw (by decide))
    generalize parseV x = p at HPX HNO
    generalize parseV [49] = q at HPY HNO
    generalize parseB x = bp at HPX HNO
    generalize parseB [49] = bq at HPY HNO
    clear hx hy
    cases bp <;> cases bq
    · go_enter Tryd.func24, Tryd.ntmps24
      go_wp2_with fail
      refine (HC.out _).mono ?_
      rintro e w1 ⟨rfl, hb1⟩
      go_wp2_with fail
      have st1 := Lib.hid (PSt.start (u := 23) hb1)
      have HW1 := Lib.hid (HW.out.below st1.out.1)
      refine (HPX.out _ HW1.out).mono ?_
      rintro e w2 ⟨rfl, hb2⟩
      have st2 := Lib.hid (st1.out.step hb2)
      obtain ⟨q0, ⟨q1, q2⟩, ⟨q3, q4⟩, ⟨q5, q6⟩, ⟨q7, q8⟩, q9, q10⟩ := st2.out
      go_wp2_with fail
      have st3 := Lib.hid (st2.out.set0 p)
      have HW3 := Lib.hid (HW.out.below st3.out.1)
      refine (HPY.out _ HW3.out).mono ?_
      rintro e w3 ⟨rfl, hb3⟩
      clear q0 q1 q2 q3 q4 q5 q6 q7 q8 q9 q10
      have st4 := Lib.hid (st3.out.step hb3)
      obtain ⟨q0, ⟨q1, q2⟩, ⟨q3, q4⟩, ⟨q5, q6⟩, ⟨q7, q8⟩, q9, q10⟩ := st4.out
      go_wp2_with fail
      refine bodyPost_ret (v := .tuple #[.agg #[.int .i64 0, .int .i64 0], .bool false]) (by simp [results, Tryd.results24, go_sem, q3, q5]) rfl ?_
      rw [HNO.out (by simp)]
      exact ⟨rfl, (by repeat (first | with_reducible exact Below.refl _ _ | with_reducible assumption | with_reducible refine below_drewN' ?_ _ | (with_reducible refine Below.setCell ?_ (by first | (simp; done) | (simp; omega)) _) | (with_reducible refine Below.alloc ?_ (by first | exact Nat.le_refl _ | (simp; done) | (simp; omega)) _)))⟩
    · go_enter Tryd.func24, Tryd.ntmps24
      go_wp2_with fail
      refine (HC.out _).mono ?_
      rintro e w1 ⟨rfl, hb1⟩
      go_wp2_with fail
      have st1 := Lib.hid (PSt.start (u := 23) hb1)
      have HW1 := Lib.hid (HW.out.below st1.out.1)
      refine (HPX.out _ HW1.out).mono ?_
      rintro e w2 ⟨rfl, hb2⟩
      have st2 := Lib.hid (st1.out.step hb2)
      obtain ⟨q0, ⟨q1, q2⟩, ⟨q3, q4⟩, ⟨q5, q6⟩, ⟨q7, q8⟩, q9, q10⟩ := st2.out
      go_wp2_with fail
      have st3 := Lib.hid (st2.out.set0 p)
      have HW3 := Lib.hid (HW.out.below st3.out.1)
      refine (HPY.out _ HW3.out).mono ?_
      rintro e w3 ⟨rfl, hb3⟩
      clear q0 q1 q2 q3 q4 q5 q6 q7 q8 q9 q10
      have st4 := Lib.hid (st3.out.step hb3)
      obtain ⟨q0, ⟨q1, q2⟩, ⟨q3, q4⟩, ⟨q5, q6⟩, ⟨q7, q8⟩, q9, q10⟩ := st4.out
      go_wp2_with fail
      refine bodyPost_ret (v := .tuple #[.agg #[.int .i64 0, .int .i64 0], .bool false]) (by simp [results, Tryd.results24, go_sem, q3, q5]) rfl ?_
      rw [HNO.out (by simp)]
      exact ⟨rfl, (by repeat (first | with_reducible exact Below.refl _ _ | with_reducible assumption | with_reducible refine below_drewN' ?_ _ | (with_reducible refine Below.setCell ?_ (by first | (simp; done) | (simp; omega)) _) | (with_reducible refine Below.alloc ?_ (by first | exact Nat.le_refl _ | (simp; done) | (simp; omega)) _)))⟩
    · go_enter Tryd.func24, Tryd.ntmps24
      go_wp2_with fail
      refine (HC.out _).mono ?_
      rintro e w1 ⟨rfl, hb1⟩
      go_wp2_with fail
      have st1 := Lib.hid (PSt.start (u := 23) hb1)
      have HW1 := Lib.hid (HW.out.below st1.out.1)
      refine (HPX.out _ HW1.out).mono ?_
      rintro e w2 ⟨rfl, hb2⟩
      have st2 := Lib.hid (st1.out.step hb2)
      obtain ⟨q0, ⟨q1, q2⟩, ⟨q3, q4⟩, ⟨q5, q6⟩, ⟨q7, q8⟩, q9, q10⟩ := st2.out
      go_wp2_with fail
      have st3 := Lib.hid (st2.out.set0 p)
      have HW3 := Lib.hid (HW.out.below st3.out.1)
      refine (HPY.out _ HW3.out).mono ?_
      rintro e w3 ⟨rfl, hb3⟩
      clear q0 q1 q2 q3 q4 q5 q6 q7 q8 q9 q10
      have st4 := Lib.hid (st3.out.step hb3)
      obtain ⟨q0, ⟨q1, q2⟩, ⟨q3, q4⟩, ⟨q5, q6⟩, ⟨q7, q8⟩, q9, q10⟩ := st4.out
      go_wp2_with fail
      refine bodyPost_ret (v := .tuple #[.agg #[.int .i64 0, .int .i64 0], .bool false]) (by simp [results, Tryd.results24, go_sem, q3, q5]) rfl ?_
      rw [HNO.out (by simp)]
      exact ⟨rfl, (by repeat (first | with_reducible exact Below.refl _ _ | with_reducible assumption | with_reducible refine below_drewN' ?_ _ | (with_reducible refine Below.setCell ?_ (by first | (simp; done) | (simp; omega)) _) | (with_reducible refine Below.alloc ?_ (by first | exact Nat.le_refl _ | (simp; done) | (simp; omega)) _)))⟩
    · go_enter Tryd.func24, Tryd.ntmps24
      go_wp2_with fail
      refine (HC.out _).mono ?_
      rintro e w1 ⟨rfl, hb1⟩
      go_wp2_with fail
      have st1 := Lib.hid (PSt.start (u := 23) hb1)
      have HW1 := Lib.hid (HW.out.below st1.out.1)
      refine (HPX.out _ HW1.out).mono ?_
      rintro e w2 ⟨rfl, hb2⟩
      have st2 := Lib.hid (st1.out.step hb2)
      obtain ⟨q0, ⟨q1, q2⟩, ⟨q3, q4⟩, ⟨q5, q6⟩, ⟨q7, q8⟩, q9, q10⟩ := st2.out
      go_wp2_with fail
      have st3 := Lib.hid (st2.out.set0 p)
      have HW3 := Lib.hid (HW.out.below st3.out.1)
      refine (HPY.out _ HW3.out).mono ?_
      rintro e w3 ⟨rfl, hb3⟩
      clear q0 q1 q2 q3 q4 q5 q6 q7 q8 q9 q10
      have st4 := Lib.hid (st3.out.step hb3)
      obtain ⟨q0, ⟨q1, q2⟩, ⟨q3, q4⟩, ⟨q5, q6⟩, ⟨q7, q8⟩, q9, q10⟩ := st4.out
      go_wp2_with fail
      have st5 := Lib.hid (st4.out.set1 q)
      have HW5 := Lib.hid (HW.out.below st5.out.1)
      refine (frac_Text _ _ _ HW5.out).mono ?_
      rintro e w5 ⟨rfl, hb5⟩
      clear q0 q1 q2 q3 q4 q5 q6 q7 q8 q9 q10
      have st6 := Lib.hid (st5.out.step hb5)
      obtain ⟨q0, ⟨q1, q2⟩, ⟨q3, q4⟩, ⟨q5, q6⟩, ⟨q7, q8⟩, q9, q10⟩ := st6.out
      go_wp2_with fail
      · have hnil : s.data.toList = [] := by rw [← ByteArray.toList_eq]; exact List.isEmpty_iff.1 ‹_›
        refine bodyPost_ret (v := .tuple #[.agg #[.int .i64 0, .int .i64 0], .bool false]) (by simp [results, Tryd.results24, go_sem, q3, q5]) rfl ?_
        rw [hnil, parse_empty]
        exact ⟨rfl, (by repeat (first | with_reducible exact Below.refl _ _ | with_reducible assumption | with_reducible refine below_drewN' ?_ _ | (with_reducible refine Below.setCell ?_ (by first | (simp; done) | (simp; omega)) _) | (with_reducible refine Below.alloc ?_ (by first | exact Nat.le_refl _ | (simp; done) | (simp; omega)) _)))⟩
      · have hne : s.data.toList ≠ [] := by
          rw [← ByteArray.toList_eq]; intro hk; have hk2 := ‹s.toList.isEmpty = false›; rw [hk] at hk2; cases hk2
        have htx : textS p q = s.data.toList := by rw [← ByteArray.toList_eq]; assumption
        refine bodyPost_ret (v := .tuple #[.agg #[.int .i64 p, .int .i64 q], .bool true]) (by simp [results, Tryd.results24, go_sem, q3, q5]) rfl ?_
        rw [HYES.out p q htx hne]
        exact ⟨rfl, (by repeat (first | with_reducible exact Below.refl _ _ | with_reducible assumption | with_reducible refine below_drewN' ?_ _ | (with_reducible refine Below.setCell ?_ (by first | (simp; done) | (simp; omega)) _) | (with_reducible refine Below.alloc ?_ (by first | exact Nat.le_refl _ | (simp; done) | (simp; omega)) _)))⟩
      · have htx : textS p q ≠ s.data.toList := by rw [← ByteArray.toList_eq]; assumption
        refine bodyPost_ret (v := .tuple #[.agg #[.int .i64 0, .int .i64 0], .bool false]) (by simp [results, Tryd.results24, go_sem, q3, q5]) rfl ?_
        rw [HNO.out (Or.inr (Or.inr htx))]
        exact ⟨rfl, (by repeat (first | with_reducible exact Below.refl _ _ | with_reducible assumption | with_reducible refine below_drewN' ?_ _ | (with_reducible refine Below.setCell ?_ (by first | (simp; done) | (simp; omega)) _) | (with_reducible refine Below.alloc ?_ (by first | exact Nat.le_refl _ | (simp; done) | (simp; omega)) _)))⟩
  · rw [hsl] at HC HNO
    simp only [if_true] at HNO
    generalize cutA s.data.toList = x at *
    generalize cutB s.data.toList = y at *
    have HPX := Lib.hid (fun w hw => num_ParseL x w hw hx)
    have HPY := Lib.hid (fun w hw => num_ParseL y w hw hy)
    generalize parseV x = p at HPX HNO
    generalize parseV y = q at HPY HNO
    generalize parseB x = bp at HPX HNO
    generalize parseB y = bq at HPY HNO
    clear hx hy
    cases bp <;> cases bq
    · go_enter Tryd.func24, Tryd.ntmps24
      go_wp2_with fail
      refine (HC.out _).mono ?_
      rintro e w1 ⟨rfl, hb1⟩
      go_wp2_with fail
      have st1 := Lib.hid (PSt.start (u := 23) hb1)
      have HW1 := Lib.hid (HW.out.below st1.out.1)
      refine (HPX.out _ HW1.out).mono ?_
      rintro e w2 ⟨rfl, hb2⟩
      have st2 := Lib.hid (st1.out.step hb2)
      obtain ⟨q0, ⟨q1, q2⟩, ⟨q3, q4⟩, ⟨q5, q6⟩, ⟨q7, q8⟩, q9, q10⟩ := st2.out
      go_wp2_with fail
      have st3 := Lib.hid (st2.out.set0 p)
      have HW3 := Lib.hid (HW.out.below st3.out.1)
      refine (HPY.out _ HW3.out).mono ?_
      rintro e w3 ⟨rfl, hb3⟩
      clear q0 q1 q2 q3 q4 q5 q6 q7 q8 q9 q10
      have st4 := Lib.hid (st3.out.step hb3)
      obtain ⟨q0, ⟨q1, q2⟩, ⟨q3, q4⟩, ⟨q5, q6⟩, ⟨q7, q8⟩, q9, q10⟩ := st4.out
      go_wp2_with fail
      refine bodyPost_ret (v := .tuple #[.agg #[.int .i64 0, .int .i64 0], .bool false]) (by simp [results, Tryd.results24, go_sem, q3, q5]) rfl ?_
      rw [HNO.out (by simp)]
      exact ⟨rfl, (by repeat (first | with_reducible exact Below.refl _ _ | with_reducible assumption | with_reducible refine below_drewN' ?_ _ | (with_reducible refine Below.setCell ?_ (by first | (simp; done) | (simp; omega)) _) | (with_reducible refine Below.alloc ?_ (by first | exact Nat.le_refl _ | (simp; done) | (simp; omega)) _)))⟩
    · go_enter Tryd.func24, Tryd.ntmps24
      go_wp2_with fail
      refine (HC.out _).mono ?_
      rintro e w1 ⟨rfl, hb1⟩
      go_wp2_with fail
      have st1 := Lib.hid (PSt.start (u := 23) hb1)
      have HW1 := Lib.hid (HW.out.below st1.out.1)
      refine (HPX.out _ HW1.out).mono ?_
      rintro e w2 ⟨rfl, hb2⟩
      have st2 := Lib.hid (st1.out.step hb2)
      obtain ⟨q0, ⟨q1, q2⟩, ⟨q3, q4⟩, ⟨q5, q6⟩, ⟨q7, q8⟩, q9, q10⟩ := st2.out
      go_wp2_with fail
      have st3 := Lib.hid (st2.out.set0 p)
      have HW3 := Lib.hid (HW.out.below st3.out.1)
      refine (HPY.out _ HW3.out).mono ?_
      rintro e w3 ⟨rfl, hb3⟩
      clear q0 q1 q2 q3 q4 q5 q6 q7 q8 q9 q10
      have st4 := Lib.hid (st3.out.step hb3)
      obtain ⟨q0, ⟨q1, q2⟩, ⟨q3, q4⟩, ⟨q5, q6⟩, ⟨q7, q8⟩, q9, q10⟩ := st4.out
      go_wp2_with fail
      refine bodyPost_ret (v := .tuple #[.agg #[.int .i64 0, .int .i64 0], .bool false]) (by simp [results, Tryd.results24, go_sem, q3, q5]) rfl ?_
      rw [HNO.out (by simp)]
      exact ⟨rfl, (by repeat (first | with_reducible exact Below.refl _ _ | with_reducible assumption | with_reducible refine below_drewN' ?_ _ | (with_reducible refine Below.setCell ?_ (by first | (simp; done) | (simp; omega)) _) | (with_reducible refine Below.alloc ?_ (by first | exact Nat.le_refl _ | (simp; done) | (simp; omega)) _)))⟩
    · go_enter Tryd.func24, Tryd.ntmps24
      go_wp2_with fail
      refine (HC.out _).mono ?_
      rintro e w1 ⟨rfl, hb1⟩
      go_wp2_with fail
      have st1 := Lib.hid (PSt.start (u := 23) hb1)
      have HW1 := Lib.hid (HW.out.below st1.out.1)
      refine (HPX.out _ HW1.out).mono ?_
      rintro e w2 ⟨rfl, hb2⟩
      have st2 := Lib.hid (st1.out.step hb2)
      obtain ⟨q0, ⟨q1, q2⟩, ⟨q3, q4⟩, ⟨q5, q6⟩, ⟨q7, q8⟩, q9, q10⟩ := st2.out
      go_wp2_with fail
      have st3 := Lib.hid (st2.out.set0 p)
      have HW3 := Lib.hid (HW.out.below st3.out.1)
      refine (HPY.out _ HW3.out).mono ?_
      rintro e w3 ⟨rfl, hb3⟩
      clear q0 q1 q2 q3 q4 q5 q6 q7 q8 q9 q10
      have st4 := Lib.hid (st3.out.step hb3)
      obtain ⟨q0, ⟨q1, q2⟩, ⟨q3, q4⟩, ⟨q5, q6⟩, ⟨q7, q8⟩, q9, q10⟩ := st4.out
      go_wp2_with fail
      refine bodyPost_ret (v := .tuple #[.agg #[.int .i64 0, .int .i64 0], .bool false]) (by simp [results, Tryd.results24, go_sem, q3, q5]) rfl ?_
      rw [HNO.out (by simp)]
      exact ⟨rfl, (by repeat (first | with_reducible exact Below.refl _ _ | with_reducible assumption | with_reducible refine below_drewN' ?_ _ | (with_reducible refine Below.setCell ?_ (by first | (simp; done) | (simp; omega)) _) | (with_reducible refine Below.alloc ?_ (by first | exact Nat.le_refl _ | (simp; done) | (simp; omega)) _)))⟩
    · go_enter Tryd.func24, Tryd.ntmps24
      go_wp2_with fail
      refine (HC.out _).mono ?_
      rintro e w1 ⟨rfl, hb1⟩
      go_wp2_with fail
      have st1 := Lib.hid (PSt.start (u := 23) hb1)
      have HW1 := Lib.hid (HW.out.below st1.out.1)
      refine (HPX.out _ HW1.out).mono ?_
      rintro e w2 ⟨rfl, hb2⟩
      have st2 := Lib.hid (st1.out.step hb2)
      obtain ⟨q0, ⟨q1, q2⟩, ⟨q3, q4⟩, ⟨q5, q6⟩, ⟨q7, q8⟩, q9, q10⟩ := st2.out
      go_wp2_with fail
      have st3 := Lib.hid (st2.out.set0 p)
      have HW3 := Lib.hid (HW.out.below st3.out.1)
      refine (HPY.out _ HW3.out).mono ?_
      rintro e w3 ⟨rfl, hb3⟩
      clear q0 q1 q2 q3 q4 q5 q6 q7 q8 q9 q10
      have st4 := Lib.hid (st3.out.step hb3)
      obtain ⟨q0, ⟨q1, q2⟩, ⟨q3, q4⟩, ⟨q5, q6⟩, ⟨q7, q8⟩, q9, q10⟩ := st4.out
      go_wp2_with fail
      have st5 := Lib.hid (st4.out.set1 q)
      have HW5 := Lib.hid (HW.out.below st5.out.1)
      refine (frac_Text _ _ _ HW5.out).mono ?_
      rintro e w5 ⟨rfl, hb5⟩
      clear q0 q1 q2 q3 q4 q5 q6 q7 q8 q9 q10
      have st6 := Lib.hid (st5.out.step hb5)
      obtain ⟨q0, ⟨q1, q2⟩, ⟨q3, q4⟩, ⟨q5, q6⟩, ⟨q7, q8⟩, q9, q10⟩ := st6.out
      go_wp2_with fail
      · have hnil : s.data.toList = [] := by rw [← ByteArray.toList_eq]; exact List.isEmpty_iff.1 ‹_›
        refine bodyPost_ret (v := .tuple #[.agg #[.int .i64 0, .int .i64 0], .bool false]) (by simp [results, Tryd.results24, go_sem, q3, q5]) rfl ?_
        rw [hnil, parse_empty]
        exact ⟨rfl, (by repeat (first | with_reducible exact Below.refl _ _ | with_reducible assumption | with_reducible refine below_drewN' ?_ _ | (with_reducible refine Below.setCell ?_ (by first | (simp; done) | (simp; omega)) _) | (with_reducible refine Below.alloc ?_ (by first | exact Nat.le_refl _ | (simp; done) | (simp; omega)) _)))⟩
      · have hne : s.data.toList ≠ [] := by
          rw [← ByteArray.toList_eq]; intro hk; have hk2 := ‹s.toList.isEmpty = false›; rw [hk] at hk2; cases hk2
        have htx : textS p q = s.data.toList := by rw [← ByteArray.toList_eq]; assumption
        refine bodyPost_ret (v := .tuple #[.agg #[.int .i64 p, .int .i64 q], .bool true]) (by simp [results, Tryd.results24, go_sem, q3, q5]) rfl ?_
        rw [HYES.out p q htx hne]
        exact ⟨rfl, (by repeat (first | with_reducible exact Below.refl _ _ | with_reducible assumption | with_reducible refine below_drewN' ?_ _ | (with_reducible refine Below.setCell ?_ (by first | (simp; done) | (simp; omega)) _) | (with_reducible refine Below.alloc ?_ (by first | exact Nat.le_refl _ | (simp; done) | (simp; omega)) _)))⟩
      · have htx : textS p q ≠ s.data.toList := by rw [← ByteArray.toList_eq]; assumption
        refine bodyPost_ret (v := .tuple #[.agg #[.int .i64 0, .int .i64 0], .bool false]) (by simp [results, Tryd.results24, go_sem, q3, q5]) rfl ?_
        rw [HNO.out (Or.inr (Or.inr htx))]
        exact ⟨rfl, (by repeat (first | with_reducible exact Below.refl _ _ | with_reducible assumption | with_reducible refine below_drewN' ?_ _ | (with_reducible refine Below.setCell ?_ (by first | (simp; done) | (simp; omega)) _) | (with_reducible refine Below.alloc ?_ (by first | exact Nat.le_refl _ | (simp; done) | (simp; omega)) _)))⟩

end Go.Proofs.YtemmgehaddghfaaDoor
