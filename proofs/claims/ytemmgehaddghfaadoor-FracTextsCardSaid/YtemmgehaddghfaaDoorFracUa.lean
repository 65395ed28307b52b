/- THE WALK over the reference's Parse. -/
import Derived.Test.YtemmgehaddghfaaDoorFracU
namespace Go.Proofs.YtemmgehaddghfaaDoor
open Go.RowKit

theorem PSt.start2 {w : World} {t u : TypeId} : PSt w (w.heap.size + 1) 0 1 ((w.alloc (.cells #[.int .i64 0, .int .i64 0] t)).alloc (.cells #[.int .i64 0, .int .i64 1] u)) :=
  ⟨(by repeat (first | with_reducible exact Below.refl _ _ | with_reducible assumption | with_reducible refine below_drewN' ?_ _ | (with_reducible refine Below.setCell ?_ (by first | (simp; done) | (simp; omega)) _) | (with_reducible refine Below.alloc ?_ (by first | exact Nat.le_refl _ | (simp; done) | (simp; omega)) _))), ⟨by omega, by simp⟩, ⟨by go_simp, by go_simp⟩, ⟨by go_simp, by go_simp⟩, ⟨by go_simp, by go_simp⟩, by go_simp, by go_simp⟩

theorem len0 {s : ByteArray} (h : s.size = 0) : s.data.toList.length = 0 := by simpa using h

theorem head_drop {s : ByteArray} {k : Nat} (h : k < s.size) : (s.data.toList.drop k).head? = some s[k] := by
  rw [List.drop_eq_getElem_cons (by simpa using h)]; rfl

theorem byte_eq {c : UInt8} {n : Nat} (hn : n < 256) (h : c.toNat = n) : c = UInt8.ofNat n := by
  apply UInt8.toNat.inj; rw [h, UInt8.toNat_ofNat']; omega

theorem r3_number_at (s : ByteArray) (w : World) (hs : s.size ≤ 281474976710656) (k : Nat) (hk : rpAt s.data.toList = k) (hle : k ≤ s.size) :
    Calls Tryd.prog 50 #[.string s, .int .i64 k] w fun e w' => e = .returned (.tuple #[.int .i64 (rpN s.data.toList : Nat), .int .i64 (rpE s.data.toList : Nat)]) ∧ Below w.heap.size w w' := by
  subst hk
  exact r3_number s _ w hle hs

theorem rpE_le (l : List UInt8) : rpE l ≤ l.length := by
  unfold rpE
  have h := numF_len (l.drop (rpAt l)) 0
  rw [List.length_drop] at h
  have h2 : rpAt l ≤ l.length := by
    unfold rpAt; split
    · rename_i h; cases l with
      | nil => cases h
      | cons c r => simp
    · omega
  omega

theorem rpN_le (l : List UInt8) : rpN l ≤ 10000000000000009 := numF_le _ _ (by omega)

theorem r3_den (s : ByteArray) (E : Nat) (w : World) (hs : s.size ≤ 281474976710656) (hE : E < s.size) (d : Nat) (hd : (numF 0 (s.data.toList.drop (E + 1))).1 = d) :
    Calls Tryd.prog 50 #[.string s, .int .i64 ((E : Int) + 1)] w fun e w' => ∃ x : Int, e = .returned (.tuple #[.int .i64 (d : Nat), .int .i64 x]) ∧ Below w.heap.size w w' := by
  have h := r3_number s (E + 1) w (by omega) hs
  rw [hd, Int.natCast_add] at h
  exact h.mono fun e w' ⟨h1, h2⟩ => ⟨_, h1, h2⟩

set_option maxHeartbeats 6400000 in
theorem r3_Parse (s : ByteArray) (w : World) (hs : s.size ≤ 281474976710656) :
    Calls Tryd.prog 25 #[.string s] w (FracIs (parseS s.data.toList) w) := by
  have HS := Lib.hid hs
  have HNO := Lib.hid (@rp_no s.data.toList)
  have HYES := Lib.hid (@rp_yes s.data.toList)
  have HE := Lib.hid (rpE_le s.data.toList)
  have HNL := Lib.hid (rpN_le s.data.toList)
  have st0 := Lib.hid (PSt.start2 (w := w) (t := 23) (u := 23))
  by_cases h0 : s.size = 0
  · have h0' : ¬ 0 < s.size := by omega
    have hhd : s.data.toList.head? ≠ some 45 := by rw [List.head?_eq_getElem?, List.getElem?_eq_none (Nat.le_of_eq (len0 h0))]; simp
    have HAT : rpAt s.data.toList = 0 := by unfold rpAt; rw [if_neg hhd]
    have HNUM : Hid (rpNum s.data.toList = (rpN s.data.toList : Int)) := Lib.hid (by unfold rpNum; rw [if_neg hhd])
    have HN := Lib.hid (fun w => r3_number_at s w HS.out 0 HAT (by omega))
    clear HAT hhd
    have HEL : rpE s.data.toList ≤ s.size := by have h := HE.out; simpa using h
    have hnl := HNL.out
    have HDD : Hid (rpDen s.data.toList = if (s.data.toList.drop (rpE s.data.toList)).head? = some 47 then ((numF 0 (s.data.toList.drop (rpE s.data.toList + 1))).1 : Int) else 1) := Lib.hid rfl
    generalize rpN s.data.toList = nn at *
    generalize rpE s.data.toList = E at *
    have hE : ¬ E < s.size := by omega
    have HDEN : Hid (rpDen s.data.toList = 1) := Lib.hid (by rw [HDD.out, List.drop_eq_nil_of_le (by simp; omega)]; rfl)
    clear h0
    go_enter Tryd.func25, Tryd.ntmps25
    go_wp2_with fail
    refine (HN.out _).mono ?_
    rintro e w1 ⟨rfl, hb1⟩
    have st1 := Lib.hid (st0.out.step hb1)
    obtain ⟨q0, ⟨q1, q2⟩, ⟨q3, q4⟩, ⟨q5, q6⟩, ⟨q7, q8⟩, q9, q10⟩ := st1.out
    have st2 := Lib.hid (st1.out.set0 nn)
    go_wp2_with fail
    refine (r3_Valid (nn : Int) 1 _).mono ?_
    rintro e w3 ⟨rfl, hb3⟩
    clear q0 q1 q2 q3 q4 q5 q6 q7 q8 q9 q10
    have st5 := Lib.hid (st2.out.step hb3)
    obtain ⟨q0, ⟨q1, q2⟩, ⟨q3, q4⟩, ⟨q5, q6⟩, ⟨q7, q8⟩, q9, q10⟩ := st5.out
    cases hv : validB (nn : Int) 1
    · have HR : Hid (parseS s.data.toList = (0, 0, false)) := Lib.hid (HNO.out (.inl (by rw [HNUM.out, HDEN.out]; exact hv)))
      go_wp2_with fail
      refine bodyPost_ret (v := .tuple #[.agg #[.int .i64 0, .int .i64 0], .bool false]) (by simp [results, Tryd.results25, go_sem, q3, q5]) rfl ?_
      rw [HR.out]
      exact ⟨rfl, (by repeat (first | with_reducible exact Below.refl _ _ | with_reducible assumption | with_reducible refine below_drewN' ?_ _ | (with_reducible refine Below.setCell ?_ (by first | (simp; done) | (simp; omega)) _) | (with_reducible refine Below.alloc ?_ (by first | exact Nat.le_refl _ | (simp; done) | (simp; omega)) _)))⟩
    · go_wp2_with fail
      refine (r3_Text (nn : Int) 1 _).mono ?_
      rintro e w4 ⟨rfl, hb4⟩
      clear q0 q1 q2 q3 q4 q5 q6 q7 q8 q9 q10
      have st6 := Lib.hid (st5.out.step hb4)
      obtain ⟨q0, ⟨q1, q2⟩, ⟨q3, q4⟩, ⟨q5, q6⟩, ⟨q7, q8⟩, q9, q10⟩ := st6.out
      obtain ⟨tx, htx⟩ : ∃ tx, Hid (textS (nn : Int) 1 = tx) := ⟨_, rfl⟩
      rw [htx.out]
      by_cases heq : tx = s.data.toList
      · have HR : Hid (parseS s.data.toList = ((nn : Int), 1, true)) := by
          have h1 := HNUM.out; have h2 := HDEN.out
          have h := HYES.out (by rw [h1, h2]; exact hv) (by rw [h1, h2]; exact htx.out.trans heq)
          rw [h1, h2] at h; exact h
        have heq2 : tx = s.toList := by rw [ByteArray.toList_eq]; exact heq
        subst heq2
        clear heq
        go_wp2_with fail
        refine bodyPost_ret (v := .tuple #[.agg #[.int .i64 (nn : Int), .int .i64 1], .bool true]) (by simp [results, Tryd.results25, go_sem, q3, q5]) rfl ?_
        rw [HR.out]
        exact ⟨rfl, (by repeat (first | with_reducible exact Below.refl _ _ | with_reducible assumption | with_reducible refine below_drewN' ?_ _ | (with_reducible refine Below.setCell ?_ (by first | (simp; done) | (simp; omega)) _) | (with_reducible refine Below.alloc ?_ (by first | exact Nat.le_refl _ | (simp; done) | (simp; omega)) _)))⟩
      · have HR : Hid (parseS s.data.toList = (0, 0, false)) := Lib.hid (HNO.out (.inr (by rw [HNUM.out, HDEN.out, htx.out]; exact heq)))
        have heq2 : (tx == s.toList) = false := by rw [ByteArray.toList_eq]; exact beq_eq_false_iff_ne.2 heq
        have heq3 : ¬ tx = s.toList := by rw [ByteArray.toList_eq]; exact heq
        clear heq
        go_wp2_with fail
        refine bodyPost_ret (v := .tuple #[.agg #[.int .i64 0, .int .i64 0], .bool false]) (by simp [results, Tryd.results25, go_sem, q3, q5]) rfl ?_
        rw [HR.out]
        exact ⟨rfl, (by repeat (first | with_reducible exact Below.refl _ _ | with_reducible assumption | with_reducible refine below_drewN' ?_ _ | (with_reducible refine Below.setCell ?_ (by first | (simp; done) | (simp; omega)) _) | (with_reducible refine Below.alloc ?_ (by first | exact Nat.le_refl _ | (simp; done) | (simp; omega)) _)))⟩
  · have h0' : 0 < s.size := by omega
    by_cases h45 : s[0].toNat = 45
    · have hhd : s.data.toList.head? = some 45 := by rw [head_at s h0', byte_eq (by omega) h45]; rfl
      have h45' : ((s[0].toNat : Int) == 45) = true := by simp [h45]
      have HAT : rpAt s.data.toList = 1 := by unfold rpAt; rw [if_pos hhd]
      have HNUM : Hid (rpNum s.data.toList = -(rpN s.data.toList : Int)) := Lib.hid (by unfold rpNum; rw [if_pos hhd])
      have HN := Lib.hid (fun w => r3_number_at s w HS.out 1 HAT (by omega))
      clear h45
      clear HAT hhd
      have HEL : rpE s.data.toList ≤ s.size := by have h := HE.out; simpa using h
      have hnl := HNL.out
      have HDD : Hid (rpDen s.data.toList = if (s.data.toList.drop (rpE s.data.toList)).head? = some 47 then ((numF 0 (s.data.toList.drop (rpE s.data.toList + 1))).1 : Int) else 1) := Lib.hid rfl
      generalize rpN s.data.toList = nn at *
      generalize rpE s.data.toList = E at *
      by_cases hE : E < s.size
      · by_cases h47 : s[E].toNat = 47
        · have h47' : ((s[E].toNat : Int) == 47) = true := by simp [h47]
          obtain ⟨dd, hdd⟩ : ∃ dd, (numF 0 (s.data.toList.drop (E + 1))).1 = dd := ⟨_, rfl⟩
          have HDEN : Hid (rpDen s.data.toList = (dd : Int)) := Lib.hid (by rw [HDD.out, head_drop hE, byte_eq (by omega) h47, if_pos (by decide), hdd])
          have HD := Lib.hid (fun w => r3_den s E w HS.out hE dd hdd)
          clear h47 hdd
          go_enter Tryd.func25, Tryd.ntmps25
          go_wp2_with fail
          refine (HN.out _).mono ?_
          rintro e w1 ⟨rfl, hb1⟩
          have st1 := Lib.hid (st0.out.step hb1)
          obtain ⟨q0, ⟨q1, q2⟩, ⟨q3, q4⟩, ⟨q5, q6⟩, ⟨q7, q8⟩, q9, q10⟩ := st1.out
          have st2 := Lib.hid ((st1.out.set0 nn).set0 (-(nn : Int)))
          go_wp2_with fail
          refine (HD.out _).mono ?_
          rintro e w2 ⟨xx, rfl, hb2⟩
          clear q0 q1 q2 q3 q4 q5 q6 q7 q8 q9 q10
          have st3 := Lib.hid (st2.out.step hb2)
          obtain ⟨q0, ⟨q1, q2⟩, ⟨q3, q4⟩, ⟨q5, q6⟩, ⟨q7, q8⟩, q9, q10⟩ := st3.out
          have st4 := Lib.hid (st3.out.set1 dd)
          go_wp2_with fail
          refine (r3_Valid (-(nn : Int)) (dd : Int) _).mono ?_
          rintro e w3 ⟨rfl, hb3⟩
          clear q0 q1 q2 q3 q4 q5 q6 q7 q8 q9 q10
          have st5 := Lib.hid (st4.out.step hb3)
          obtain ⟨q0, ⟨q1, q2⟩, ⟨q3, q4⟩, ⟨q5, q6⟩, ⟨q7, q8⟩, q9, q10⟩ := st5.out
          cases hv : validB (-(nn : Int)) (dd : Int)
          · have HR : Hid (parseS s.data.toList = (0, 0, false)) := Lib.hid (HNO.out (.inl (by rw [HNUM.out, HDEN.out]; exact hv)))
            go_wp2_with fail
            refine bodyPost_ret (v := .tuple #[.agg #[.int .i64 0, .int .i64 0], .bool false]) (by simp [results, Tryd.results25, go_sem, q3, q5]) rfl ?_
            rw [HR.out]
            exact ⟨rfl, (by repeat (first | with_reducible exact Below.refl _ _ | with_reducible assumption | with_reducible refine below_drewN' ?_ _ | (with_reducible refine Below.setCell ?_ (by first | (simp; done) | (simp; omega)) _) | (with_reducible refine Below.alloc ?_ (by first | exact Nat.le_refl _ | (simp; done) | (simp; omega)) _)))⟩
          · go_wp2_with fail
            refine (r3_Text (-(nn : Int)) (dd : Int) _).mono ?_
            rintro e w4 ⟨rfl, hb4⟩
            clear q0 q1 q2 q3 q4 q5 q6 q7 q8 q9 q10
            have st6 := Lib.hid (st5.out.step hb4)
            obtain ⟨q0, ⟨q1, q2⟩, ⟨q3, q4⟩, ⟨q5, q6⟩, ⟨q7, q8⟩, q9, q10⟩ := st6.out
            obtain ⟨tx, htx⟩ : ∃ tx, Hid (textS (-(nn : Int)) (dd : Int) = tx) := ⟨_, rfl⟩
            rw [htx.out]
            by_cases heq : tx = s.data.toList
            · have HR : Hid (parseS s.data.toList = ((-(nn : Int)), (dd : Int), true)) := by
                have h1 := HNUM.out; have h2 := HDEN.out
                have h := HYES.out (by rw [h1, h2]; exact hv) (by rw [h1, h2]; exact htx.out.trans heq)
                rw [h1, h2] at h; exact h
              have heq2 : tx = s.toList := by rw [ByteArray.toList_eq]; exact heq
              subst heq2
              clear heq
              go_wp2_with fail
              refine bodyPost_ret (v := .tuple #[.agg #[.int .i64 (-(nn : Int)), .int .i64 (dd : Int)], .bool true]) (by simp [results, Tryd.results25, go_sem, q3, q5]) rfl ?_
              rw [HR.out]
              exact ⟨rfl, (by repeat (first | with_reducible exact Below.refl _ _ | with_reducible assumption | with_reducible refine below_drewN' ?_ _ | (with_reducible refine Below.setCell ?_ (by first | (simp; done) | (simp; omega)) _) | (with_reducible refine Below.alloc ?_ (by first | exact Nat.le_refl _ | (simp; done) | (simp; omega)) _)))⟩
            · have HR : Hid (parseS s.data.toList = (0, 0, false)) := Lib.hid (HNO.out (.inr (by rw [HNUM.out, HDEN.out, htx.out]; exact heq)))
              have heq2 : (tx == s.toList) = false := by rw [ByteArray.toList_eq]; exact beq_eq_false_iff_ne.2 heq
              have heq3 : ¬ tx = s.toList := by rw [ByteArray.toList_eq]; exact heq
              clear heq
              go_wp2_with fail
              refine bodyPost_ret (v := .tuple #[.agg #[.int .i64 0, .int .i64 0], .bool false]) (by simp [results, Tryd.results25, go_sem, q3, q5]) rfl ?_
              rw [HR.out]
              exact ⟨rfl, (by repeat (first | with_reducible exact Below.refl _ _ | with_reducible assumption | with_reducible refine below_drewN' ?_ _ | (with_reducible refine Below.setCell ?_ (by first | (simp; done) | (simp; omega)) _) | (with_reducible refine Below.alloc ?_ (by first | exact Nat.le_refl _ | (simp; done) | (simp; omega)) _)))⟩
        · have h47' : ((s[E].toNat : Int) == 47) = false := by simp; omega
          have HDEN : Hid (rpDen s.data.toList = 1) := Lib.hid (by rw [HDD.out, head_drop hE, if_neg (by intro h; exact h47 (by rw [Option.some.inj h]; rfl))])
          clear h47
          go_enter Tryd.func25, Tryd.ntmps25
          go_wp2_with fail
          refine (HN.out _).mono ?_
          rintro e w1 ⟨rfl, hb1⟩
          have st1 := Lib.hid (st0.out.step hb1)
          obtain ⟨q0, ⟨q1, q2⟩, ⟨q3, q4⟩, ⟨q5, q6⟩, ⟨q7, q8⟩, q9, q10⟩ := st1.out
          have st2 := Lib.hid ((st1.out.set0 nn).set0 (-(nn : Int)))
          go_wp2_with fail
          refine (r3_Valid (-(nn : Int)) 1 _).mono ?_
          rintro e w3 ⟨rfl, hb3⟩
          clear q0 q1 q2 q3 q4 q5 q6 q7 q8 q9 q10
          have st5 := Lib.hid (st2.out.step hb3)
          obtain ⟨q0, ⟨q1, q2⟩, ⟨q3, q4⟩, ⟨q5, q6⟩, ⟨q7, q8⟩, q9, q10⟩ := st5.out
          cases hv : validB (-(nn : Int)) 1
          · have HR : Hid (parseS s.data.toList = (0, 0, false)) := Lib.hid (HNO.out (.inl (by rw [HNUM.out, HDEN.out]; exact hv)))
            go_wp2_with fail
            refine bodyPost_ret (v := .tuple #[.agg #[.int .i64 0, .int .i64 0], .bool false]) (by simp [results, Tryd.results25, go_sem, q3, q5]) rfl ?_
            rw [HR.out]
            exact ⟨rfl, (by repeat (first | with_reducible exact Below.refl _ _ | with_reducible assumption | with_reducible refine below_drewN' ?_ _ | (with_reducible refine Below.setCell ?_ (by first | (simp; done) | (simp; omega)) _) | (with_reducible refine Below.alloc ?_ (by first | exact Nat.le_refl _ | (simp; done) | (simp; omega)) _)))⟩
          · go_wp2_with fail
            refine (r3_Text (-(nn : Int)) 1 _).mono ?_
            rintro e w4 ⟨rfl, hb4⟩
            clear q0 q1 q2 q3 q4 q5 q6 q7 q8 q9 q10
            have st6 := Lib.hid (st5.out.step hb4)
            obtain ⟨q0, ⟨q1, q2⟩, ⟨q3, q4⟩, ⟨q5, q6⟩, ⟨q7, q8⟩, q9, q10⟩ := st6.out
            obtain ⟨tx, htx⟩ : ∃ tx, Hid (textS (-(nn : Int)) 1 = tx) := ⟨_, rfl⟩
            rw [htx.out]
            by_cases heq : tx = s.data.toList
            · have HR : Hid (parseS s.data.toList = ((-(nn : Int)), 1, true)) := by
                have h1 := HNUM.out; have h2 := HDEN.out
                have h := HYES.out (by rw [h1, h2]; exact hv) (by rw [h1, h2]; exact htx.out.trans heq)
                rw [h1, h2] at h; exact h
              have heq2 : tx = s.toList := by rw [ByteArray.toList_eq]; exact heq
              subst heq2
              clear heq
              go_wp2_with fail
              refine bodyPost_ret (v := .tuple #[.agg #[.int .i64 (-(nn : Int)), .int .i64 1], .bool true]) (by simp [results, Tryd.results25, go_sem, q3, q5]) rfl ?_
              rw [HR.out]
              exact ⟨rfl, (by repeat (first | with_reducible exact Below.refl _ _ | with_reducible assumption | with_reducible refine below_drewN' ?_ _ | (with_reducible refine Below.setCell ?_ (by first | (simp; done) | (simp; omega)) _) | (with_reducible refine Below.alloc ?_ (by first | exact Nat.le_refl _ | (simp; done) | (simp; omega)) _)))⟩
            · have HR : Hid (parseS s.data.toList = (0, 0, false)) := Lib.hid (HNO.out (.inr (by rw [HNUM.out, HDEN.out, htx.out]; exact heq)))
              have heq2 : (tx == s.toList) = false := by rw [ByteArray.toList_eq]; exact beq_eq_false_iff_ne.2 heq
              have heq3 : ¬ tx = s.toList := by rw [ByteArray.toList_eq]; exact heq
              clear heq
              go_wp2_with fail
              refine bodyPost_ret (v := .tuple #[.agg #[.int .i64 0, .int .i64 0], .bool false]) (by simp [results, Tryd.results25, go_sem, q3, q5]) rfl ?_
              rw [HR.out]
              exact ⟨rfl, (by repeat (first | with_reducible exact Below.refl _ _ | with_reducible assumption | with_reducible refine below_drewN' ?_ _ | (with_reducible refine Below.setCell ?_ (by first | (simp; done) | (simp; omega)) _) | (with_reducible refine Below.alloc ?_ (by first | exact Nat.le_refl _ | (simp; done) | (simp; omega)) _)))⟩
      · have HDEN : Hid (rpDen s.data.toList = 1) := Lib.hid (by rw [HDD.out, List.drop_eq_nil_of_le (by simp; omega)]; rfl)
        go_enter Tryd.func25, Tryd.ntmps25
        go_wp2_with fail
        refine (HN.out _).mono ?_
        rintro e w1 ⟨rfl, hb1⟩
        have st1 := Lib.hid (st0.out.step hb1)
        obtain ⟨q0, ⟨q1, q2⟩, ⟨q3, q4⟩, ⟨q5, q6⟩, ⟨q7, q8⟩, q9, q10⟩ := st1.out
        have st2 := Lib.hid ((st1.out.set0 nn).set0 (-(nn : Int)))
        go_wp2_with fail
        refine (r3_Valid (-(nn : Int)) 1 _).mono ?_
        rintro e w3 ⟨rfl, hb3⟩
        clear q0 q1 q2 q3 q4 q5 q6 q7 q8 q9 q10
        have st5 := Lib.hid (st2.out.step hb3)
        obtain ⟨q0, ⟨q1, q2⟩, ⟨q3, q4⟩, ⟨q5, q6⟩, ⟨q7, q8⟩, q9, q10⟩ := st5.out
        cases hv : validB (-(nn : Int)) 1
        · have HR : Hid (parseS s.data.toList = (0, 0, false)) := Lib.hid (HNO.out (.inl (by rw [HNUM.out, HDEN.out]; exact hv)))
          go_wp2_with fail
          refine bodyPost_ret (v := .tuple #[.agg #[.int .i64 0, .int .i64 0], .bool false]) (by simp [results, Tryd.results25, go_sem, q3, q5]) rfl ?_
          rw [HR.out]
          exact ⟨rfl, (by repeat (first | with_reducible exact Below.refl _ _ | with_reducible assumption | with_reducible refine below_drewN' ?_ _ | (with_reducible refine Below.setCell ?_ (by first | (simp; done) | (simp; omega)) _) | (with_reducible refine Below.alloc ?_ (by first | exact Nat.le_refl _ | (simp; done) | (simp; omega)) _)))⟩
        · go_wp2_with fail
          refine (r3_Text (-(nn : Int)) 1 _).mono ?_
          rintro e w4 ⟨rfl, hb4⟩
          clear q0 q1 q2 q3 q4 q5 q6 q7 q8 q9 q10
          have st6 := Lib.hid (st5.out.step hb4)
          obtain ⟨q0, ⟨q1, q2⟩, ⟨q3, q4⟩, ⟨q5, q6⟩, ⟨q7, q8⟩, q9, q10⟩ := st6.out
          obtain ⟨tx, htx⟩ : ∃ tx, Hid (textS (-(nn : Int)) 1 = tx) := ⟨_, rfl⟩
          rw [htx.out]
          by_cases heq : tx = s.data.toList
          · have HR : Hid (parseS s.data.toList = ((-(nn : Int)), 1, true)) := by
              have h1 := HNUM.out; have h2 := HDEN.out
              have h := HYES.out (by rw [h1, h2]; exact hv) (by rw [h1, h2]; exact htx.out.trans heq)
              rw [h1, h2] at h; exact h
            have heq2 : tx = s.toList := by rw [ByteArray.toList_eq]; exact heq
            subst heq2
            clear heq
            go_wp2_with fail
            refine bodyPost_ret (v := .tuple #[.agg #[.int .i64 (-(nn : Int)), .int .i64 1], .bool true]) (by simp [results, Tryd.results25, go_sem, q3, q5]) rfl ?_
            rw [HR.out]
            exact ⟨rfl, (by repeat (first | with_reducible exact Below.refl _ _ | with_reducible assumption | with_reducible refine below_drewN' ?_ _ | (with_reducible refine Below.setCell ?_ (by first | (simp; done) | (simp; omega)) _) | (with_reducible refine Below.alloc ?_ (by first | exact Nat.le_refl _ | (simp; done) | (simp; omega)) _)))⟩
          · have HR : Hid (parseS s.data.toList = (0, 0, false)) := Lib.hid (HNO.out (.inr (by rw [HNUM.out, HDEN.out, htx.out]; exact heq)))
            have heq2 : (tx == s.toList) = false := by rw [ByteArray.toList_eq]; exact beq_eq_false_iff_ne.2 heq
            have heq3 : ¬ tx = s.toList := by rw [ByteArray.toList_eq]; exact heq
            clear heq
            go_wp2_with fail
            refine bodyPost_ret (v := .tuple #[.agg #[.int .i64 0, .int .i64 0], .bool false]) (by simp [results, Tryd.results25, go_sem, q3, q5]) rfl ?_
            rw [HR.out]
            exact ⟨rfl, (by repeat (first | with_reducible exact Below.refl _ _ | with_reducible assumption | with_reducible refine below_drewN' ?_ _ | (with_reducible refine Below.setCell ?_ (by first | (simp; done) | (simp; omega)) _) | (with_reducible refine Below.alloc ?_ (by first | exact Nat.le_refl _ | (simp; done) | (simp; omega)) _)))⟩
    · have hhd : s.data.toList.head? ≠ some 45 := by rw [head_at s h0']; intro h; exact h45 (by rw [Option.some.inj h]; rfl)
      have h45' : ((s[0].toNat : Int) == 45) = false := by simp; omega
      have HAT : rpAt s.data.toList = 0 := by unfold rpAt; rw [if_neg hhd]
      have HNUM : Hid (rpNum s.data.toList = (rpN s.data.toList : Int)) := Lib.hid (by unfold rpNum; rw [if_neg hhd])
      have HN := Lib.hid (fun w => r3_number_at s w HS.out 0 HAT (by omega))
      clear h45
      clear HAT hhd
      have HEL : rpE s.data.toList ≤ s.size := by have h := HE.out; simpa using h
      have hnl := HNL.out
      have HDD : Hid (rpDen s.data.toList = if (s.data.toList.drop (rpE s.data.toList)).head? = some 47 then ((numF 0 (s.data.toList.drop (rpE s.data.toList + 1))).1 : Int) else 1) := Lib.hid rfl
      generalize rpN s.data.toList = nn at *
      generalize rpE s.data.toList = E at *
      by_cases hE : E < s.size
      · by_cases h47 : s[E].toNat = 47
        · have h47' : ((s[E].toNat : Int) == 47) = true := by simp [h47]
          obtain ⟨dd, hdd⟩ : ∃ dd, (numF 0 (s.data.toList.drop (E + 1))).1 = dd := ⟨_, rfl⟩
          have HDEN : Hid (rpDen s.data.toList = (dd : Int)) := Lib.hid (by rw [HDD.out, head_drop hE, byte_eq (by omega) h47, if_pos (by decide), hdd])
          have HD := Lib.hid (fun w => r3_den s E w HS.out hE dd hdd)
          clear h47 hdd
          go_enter Tryd.func25, Tryd.ntmps25
          go_wp2_with fail
          refine (HN.out _).mono ?_
          rintro e w1 ⟨rfl, hb1⟩
          have st1 := Lib.hid (st0.out.step hb1)
          obtain ⟨q0, ⟨q1, q2⟩, ⟨q3, q4⟩, ⟨q5, q6⟩, ⟨q7, q8⟩, q9, q10⟩ := st1.out
          have st2 := Lib.hid (st1.out.set0 nn)
          go_wp2_with fail
          refine (HD.out _).mono ?_
          rintro e w2 ⟨xx, rfl, hb2⟩
          clear q0 q1 q2 q3 q4 q5 q6 q7 q8 q9 q10
          have st3 := Lib.hid (st2.out.step hb2)
          obtain ⟨q0, ⟨q1, q2⟩, ⟨q3, q4⟩, ⟨q5, q6⟩, ⟨q7, q8⟩, q9, q10⟩ := st3.out
          have st4 := Lib.hid (st3.out.set1 dd)
          go_wp2_with fail
          refine (r3_Valid (nn : Int) (dd : Int) _).mono ?_
          rintro e w3 ⟨rfl, hb3⟩
          clear q0 q1 q2 q3 q4 q5 q6 q7 q8 q9 q10
          have st5 := Lib.hid (st4.out.step hb3)
          obtain ⟨q0, ⟨q1, q2⟩, ⟨q3, q4⟩, ⟨q5, q6⟩, ⟨q7, q8⟩, q9, q10⟩ := st5.out
          cases hv : validB (nn : Int) (dd : Int)
          · have HR : Hid (parseS s.data.toList = (0, 0, false)) := Lib.hid (HNO.out (.inl (by rw [HNUM.out, HDEN.out]; exact hv)))
            go_wp2_with fail
            refine bodyPost_ret (v := .tuple #[.agg #[.int .i64 0, .int .i64 0], .bool false]) (by simp [results, Tryd.results25, go_sem, q3, q5]) rfl ?_
            rw [HR.out]
            exact ⟨rfl, (by repeat (first | with_reducible exact Below.refl _ _ | with_reducible assumption | with_reducible refine below_drewN' ?_ _ | (with_reducible refine Below.setCell ?_ (by first | (simp; done) | (simp; omega)) _) | (with_reducible refine Below.alloc ?_ (by first | exact Nat.le_refl _ | (simp; done) | (simp; omega)) _)))⟩
          · go_wp2_with fail
            refine (r3_Text (nn : Int) (dd : Int) _).mono ?_
            rintro e w4 ⟨rfl, hb4⟩
            clear q0 q1 q2 q3 q4 q5 q6 q7 q8 q9 q10
            have st6 := Lib.hid (st5.out.step hb4)
            obtain ⟨q0, ⟨q1, q2⟩, ⟨q3, q4⟩, ⟨q5, q6⟩, ⟨q7, q8⟩, q9, q10⟩ := st6.out
            obtain ⟨tx, htx⟩ : ∃ tx, Hid (textS (nn : Int) (dd : Int) = tx) := ⟨_, rfl⟩
            rw [htx.out]
            by_cases heq : tx = s.data.toList
            · have HR : Hid (parseS s.data.toList = ((nn : Int), (dd : Int), true)) := by
                have h1 := HNUM.out; have h2 := HDEN.out
                have h := HYES.out (by rw [h1, h2]; exact hv) (by rw [h1, h2]; exact htx.out.trans heq)
                rw [h1, h2] at h; exact h
              have heq2 : tx = s.toList := by rw [ByteArray.toList_eq]; exact heq
              subst heq2
              clear heq
              go_wp2_with fail
              refine bodyPost_ret (v := .tuple #[.agg #[.int .i64 (nn : Int), .int .i64 (dd : Int)], .bool true]) (by simp [results, Tryd.results25, go_sem, q3, q5]) rfl ?_
              rw [HR.out]
              exact ⟨rfl, (by repeat (first | with_reducible exact Below.refl _ _ | with_reducible assumption | with_reducible refine below_drewN' ?_ _ | (with_reducible refine Below.setCell ?_ (by first | (simp; done) | (simp; omega)) _) | (with_reducible refine Below.alloc ?_ (by first | exact Nat.le_refl _ | (simp; done) | (simp; omega)) _)))⟩
            · have HR : Hid (parseS s.data.toList = (0, 0, false)) := Lib.hid (HNO.out (.inr (by rw [HNUM.out, HDEN.out, htx.out]; exact heq)))
              have heq2 : (tx == s.toList) = false := by rw [ByteArray.toList_eq]; exact beq_eq_false_iff_ne.2 heq
              have heq3 : ¬ tx = s.toList := by rw [ByteArray.toList_eq]; exact heq
              clear heq
              go_wp2_with fail
              refine bodyPost_ret (v := .tuple #[.agg #[.int .i64 0, .int .i64 0], .bool false]) (by simp [results, Tryd.results25, go_sem, q3, q5]) rfl ?_
              rw [HR.out]
              exact ⟨rfl, (by repeat (first | with_reducible exact Below.refl _ _ | with_reducible assumption | with_reducible refine below_drewN' ?_ _ | (with_reducible refine Below.setCell ?_ (by first | (simp; done) | (simp; omega)) _) | (with_reducible refine Below.alloc ?_ (by first | exact Nat.le_refl _ | (simp; done) | (simp; omega)) _)))⟩
        · have h47' : ((s[E].toNat : Int) == 47) = false := by simp; omega
          have HDEN : Hid (rpDen s.data.toList = 1) := Lib.hid (by rw [HDD.out, head_drop hE, if_neg (by intro h; exact h47 (by rw [Option.some.inj h]; rfl))])
          clear h47
          go_enter Tryd.func25, Tryd.ntmps25
          go_wp2_with fail
          refine (HN.out _).mono ?_
          rintro e w1 ⟨rfl, hb1⟩
          have st1 := Lib.hid (st0.out.step hb1)
          obtain ⟨q0, ⟨q1, q2⟩, ⟨q3, q4⟩, ⟨q5, q6⟩, ⟨q7, q8⟩, q9, q10⟩ := st1.out
          have st2 := Lib.hid (st1.out.set0 nn)
          go_wp2_with fail
          refine (r3_Valid (nn : Int) 1 _).mono ?_
          rintro e w3 ⟨rfl, hb3⟩
          clear q0 q1 q2 q3 q4 q5 q6 q7 q8 q9 q10
          have st5 := Lib.hid (st2.out.step hb3)
          obtain ⟨q0, ⟨q1, q2⟩, ⟨q3, q4⟩, ⟨q5, q6⟩, ⟨q7, q8⟩, q9, q10⟩ := st5.out
          cases hv : validB (nn : Int) 1
          · have HR : Hid (parseS s.data.toList = (0, 0, false)) := Lib.hid (HNO.out (.inl (by rw [HNUM.out, HDEN.out]; exact hv)))
            go_wp2_with fail
            refine bodyPost_ret (v := .tuple #[.agg #[.int .i64 0, .int .i64 0], .bool false]) (by simp [results, Tryd.results25, go_sem, q3, q5]) rfl ?_
            rw [HR.out]
            exact ⟨rfl, (by repeat (first | with_reducible exact Below.refl _ _ | with_reducible assumption | with_reducible refine below_drewN' ?_ _ | (with_reducible refine Below.setCell ?_ (by first | (simp; done) | (simp; omega)) _) | (with_reducible refine Below.alloc ?_ (by first | exact Nat.le_refl _ | (simp; done) | (simp; omega)) _)))⟩
          · go_wp2_with fail
            refine (r3_Text (nn : Int) 1 _).mono ?_
            rintro e w4 ⟨rfl, hb4⟩
            clear q0 q1 q2 q3 q4 q5 q6 q7 q8 q9 q10
            have st6 := Lib.hid (st5.out.step hb4)
            obtain ⟨q0, ⟨q1, q2⟩, ⟨q3, q4⟩, ⟨q5, q6⟩, ⟨q7, q8⟩, q9, q10⟩ := st6.out
            obtain ⟨tx, htx⟩ : ∃ tx, Hid (textS (nn : Int) 1 = tx) := ⟨_, rfl⟩
            rw [htx.out]
            by_cases heq : tx = s.data.toList
            · have HR : Hid (parseS s.data.toList = ((nn : Int), 1, true)) := by
                have h1 := HNUM.out; have h2 := HDEN.out
                have h := HYES.out (by rw [h1, h2]; exact hv) (by rw [h1, h2]; exact htx.out.trans heq)
                rw [h1, h2] at h; exact h
              have heq2 : tx = s.toList := by rw [ByteArray.toList_eq]; exact heq
              subst heq2
              clear heq
              go_wp2_with fail
              refine bodyPost_ret (v := .tuple #[.agg #[.int .i64 (nn : Int), .int .i64 1], .bool true]) (by simp [results, Tryd.results25, go_sem, q3, q5]) rfl ?_
              rw [HR.out]
              exact ⟨rfl, (by repeat (first | with_reducible exact Below.refl _ _ | with_reducible assumption | with_reducible refine below_drewN' ?_ _ | (with_reducible refine Below.setCell ?_ (by first | (simp; done) | (simp; omega)) _) | (with_reducible refine Below.alloc ?_ (by first | exact Nat.le_refl _ | (simp; done) | (simp; omega)) _)))⟩
            · have HR : Hid (parseS s.data.toList = (0, 0, false)) := Lib.hid (HNO.out (.inr (by rw [HNUM.out, HDEN.out, htx.out]; exact heq)))
              have heq2 : (tx == s.toList) = false := by rw [ByteArray.toList_eq]; exact beq_eq_false_iff_ne.2 heq
              have heq3 : ¬ tx = s.toList := by rw [ByteArray.toList_eq]; exact heq
              clear heq
              go_wp2_with fail
              refine bodyPost_ret (v := .tuple #[.agg #[.int .i64 0, .int .i64 0], .bool false]) (by simp [results, Tryd.results25, go_sem, q3, q5]) rfl ?_
              rw [HR.out]
              exact ⟨rfl, (by repeat (first | with_reducible exact Below.refl _ _ | with_reducible assumption | with_reducible refine below_drewN' ?_ _ | (with_reducible refine Below.setCell ?_ (by first | (simp; done) | (simp; omega)) _) | (with_reducible refine Below.alloc ?_ (by first | exact Nat.le_refl _ | (simp; done) | (simp; omega)) _)))⟩
      · have HDEN : Hid (rpDen s.data.toList = 1) := Lib.hid (by rw [HDD.out, List.drop_eq_nil_of_le (by simp; omega)]; rfl)
        go_enter Tryd.func25, Tryd.ntmps25
        go_wp2_with fail
        refine (HN.out _).mono ?_
        rintro e w1 ⟨rfl, hb1⟩
        have st1 := Lib.hid (st0.out.step hb1)
        obtain ⟨q0, ⟨q1, q2⟩, ⟨q3, q4⟩, ⟨q5, q6⟩, ⟨q7, q8⟩, q9, q10⟩ := st1.out
        have st2 := Lib.hid (st1.out.set0 nn)
        go_wp2_with fail
        refine (r3_Valid (nn : Int) 1 _).mono ?_
        rintro e w3 ⟨rfl, hb3⟩
        clear q0 q1 q2 q3 q4 q5 q6 q7 q8 q9 q10
        have st5 := Lib.hid (st2.out.step hb3)
        obtain ⟨q0, ⟨q1, q2⟩, ⟨q3, q4⟩, ⟨q5, q6⟩, ⟨q7, q8⟩, q9, q10⟩ := st5.out
        cases hv : validB (nn : Int) 1
        · have HR : Hid (parseS s.data.toList = (0, 0, false)) := Lib.hid (HNO.out (.inl (by rw [HNUM.out, HDEN.out]; exact hv)))
          go_wp2_with fail
          refine bodyPost_ret (v := .tuple #[.agg #[.int .i64 0, .int .i64 0], .bool false]) (by simp [results, Tryd.results25, go_sem, q3, q5]) rfl ?_
          rw [HR.out]
          exact ⟨rfl, (by repeat (first | with_reducible exact Below.refl _ _ | with_reducible assumption | with_reducible refine below_drewN' ?_ _ | (with_reducible refine Below.setCell ?_ (by first | (simp; done) | (simp; omega)) _) | (with_reducible refine Below.alloc ?_ (by first | exact Nat.le_refl _ | (simp; done) | (simp; omega)) _)))⟩
        · go_wp2_with fail
          refine (r3_Text (nn : Int) 1 _).mono ?_
          rintro e w4 ⟨rfl, hb4⟩
          clear q0 q1 q2 q3 q4 q5 q6 q7 q8 q9 q10
          have st6 := Lib.hid (st5.out.step hb4)
          obtain ⟨q0, ⟨q1, q2⟩, ⟨q3, q4⟩, ⟨q5, q6⟩, ⟨q7, q8⟩, q9, q10⟩ := st6.out
          obtain ⟨tx, htx⟩ : ∃ tx, Hid (textS (nn : Int) 1 = tx) := ⟨_, rfl⟩
          rw [htx.out]
          by_cases heq : tx = s.data.toList
          · have HR : Hid (parseS s.data.toList = ((nn : Int), 1, true)) := by
              have h1 := HNUM.out; have h2 := HDEN.out
              have h := HYES.out (by rw [h1, h2]; exact hv) (by rw [h1, h2]; exact htx.out.trans heq)
              rw [h1, h2] at h; exact h
            have heq2 : tx = s.toList := by rw [ByteArray.toList_eq]; exact heq
            subst heq2
            clear heq
            go_wp2_with fail
            refine bodyPost_ret (v := .tuple #[.agg #[.int .i64 (nn : Int), .int .i64 1], .bool true]) (by simp [results, Tryd.results25, go_sem, q3, q5]) rfl ?_
            rw [HR.out]
            exact ⟨rfl, (by repeat (first | with_reducible exact Below.refl _ _ | with_reducible assumption | with_reducible refine below_drewN' ?_ _ | (with_reducible refine Below.setCell ?_ (by first | (simp; done) | (simp; omega)) _) | (with_reducible refine Below.alloc ?_ (by first | exact Nat.le_refl _ | (simp; done) | (simp; omega)) _)))⟩
          · have HR : Hid (parseS s.data.toList = (0, 0, false)) := Lib.hid (HNO.out (.inr (by rw [HNUM.out, HDEN.out, htx.out]; exact heq)))
            have heq2 : (tx == s.toList) = false := by rw [ByteArray.toList_eq]; exact beq_eq_false_iff_ne.2 heq
            have heq3 : ¬ tx = s.toList := by rw [ByteArray.toList_eq]; exact heq
            clear heq
            go_wp2_with fail
            refine bodyPost_ret (v := .tuple #[.agg #[.int .i64 0, .int .i64 0], .bool false]) (by simp [results, Tryd.results25, go_sem, q3, q5]) rfl ?_
            rw [HR.out]
            exact ⟨rfl, (by repeat (first | with_reducible exact Below.refl _ _ | with_reducible assumption | with_reducible refine below_drewN' ?_ _ | (with_reducible refine Below.setCell ?_ (by first | (simp; done) | (simp; omega)) _) | (with_reducible refine Below.alloc ?_ (by first | exact Nat.le_refl _ | (simp; done) | (simp; omega)) _)))⟩

end Go.Proofs.YtemmgehaddghfaaDoor
