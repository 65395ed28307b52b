/- PARTS OF THE WALKS, joined: Gc, Gd, Ge, LaidX, CoA, Adj. -/
import Derived.Test.YtnheioehadldmaaGreatS04
import Derived.Laws.BitsAllLaws
import Derived.Test.YtnheioehadldmaaGreatS03
import Derived.Test.YtnheioehadldmaaGreatS00
import Derived.Test.YtnheioehadldmaaGreatS01
/- THE WALKS over the keys of properties and over what is wrong with labels and properties. -/
namespace Go.Proofs.YtnheioehadldmaaGreat
open Go.RowKit
theorem keysP_snoc (l : List PropG) (k : Nat) (h : k < l.length) : (keysP (l.take (k + 1))).map Value.string = (keysP (l.take k)).map Value.string ++ [.string l[k].key] := by
 unfold keysP
 rw [List.take_succ_eq_append_getElem h, List.map_append, List.map_append]; rfl
theorem keysP_len (l : List PropG) : (keysP l).length = l.length := by unfold keysP; rw [List.length_map]
set_option maxRecDepth 100000 in
set_option maxHeartbeats 800000 in
theorem r7_keys (l : List PropG) (ok : Nat → Prop) (A : Option Addr) (c : Nat) (w : World) (hl : l.length ≤ 1000) (hv : Props w ok A l) :
  Calls Tryz.prog 94 #[.slice A l.length c] w fun e w' => ∃ A' c', e = .returned (.slice A' (keysP l).length c') ∧ (keysP l).length ≤ c' ∧ Strs w' (fun b => w.heap.size ≤ b) A' (keysP l) ∧ Ext w w' := by
 have HV := Lib.hid hv
 clear hv
 have HS0 := Lib.hid (World.ownsRow_nil w w.heap.size 9 1)
 go_enter Tryz.func94, Tryz.ntmps94
 go_wp2_with fail
 go_loopw [3, 4] (fun v u W => ∃ k : Nat, u = .int .i64 k ∧ k ≤ l.length ∧ Hid (W.ownsRow w.heap.size 9 1 v k ((keysP (l.take k)).map Value.string)) ∧ Hid (Ext w W)) (fun _ u _ => l.length - (intOf u).toNat)
 case atStart => exact ⟨0, rfl, Nat.zero_le _, HS0, Lib.hid (Ext.refl _)⟩
 case round =>
  obtain ⟨k, rfl, hk, hown, hE⟩ := hrel
  by_cases hlt : k < l.length
  ·obtain ⟨b, o, rfl, hc⟩ := HV.out.2 (by omega)
   have h5 := hE.out.cell (hc k hlt).1
   have HSN := Lib.hid (keysP_snoc l k hlt)
   clear hc
   generalize l[k] = x at *
   have hown' := hown.out
   have hE' := hE.out
   clear hown hE
   have hkb : k + 1 ≤ 8388608 := by omega
   go_wp2_with (at_builtin; refine own_push El_str rfl (.tmp 11) (.tmp 17) rfl w wr _ k _ [.string x.key] rfl hown' hE' rfl rfl rfl (by simp [Value.oneCell']) hkb (by decide) ?_; intro v2 w9 hown2 hE9)
   have HO2 := Lib.hid (show w9.ownsRow w.heap.size 9 1 v2 (k + 1) ((keysP (l.take (k + 1))).map Value.string) by rw [HSN.out]; exact hown2)
   have HE9 := Lib.hid hE9
   clear hown2 hE9 hown' hE'
   go_roundw
   case rel => exact ⟨k + 1, by go_num, by omega, HO2, HE9⟩
   case measure => simp [intOf]; omega
  ·have HD := Lib.hid (strs_of_own (l := keysP l) (by have := hown.out; rwa [List.take_of_length_le (by omega)] at this) (by rw [keysP_len]; omega) (by rw [keysP_len]; omega))
   have HE := Lib.hid hE.out
   clear hown hE
   go_wp2_with fail
   obtain ⟨A9, c9, e9, h9, hV9⟩ := HD.out
   subst e9
   go_ret
   exact ⟨A9, c9, rfl, h9, hV9, HE.out⟩
theorem all_prop {l : List PropG} (h : ∀ i (hi : i < l.length), plainV l[i].v = true) : l.all (fun p => plainV p.v) = true := List.all_eq_true.2 (fun x hx => by obtain ⟨i, hi, rfl⟩ := List.getElem_of_mem hx; exact h i hi)
theorem all_prop_no {l : List PropG} (i : Nat) (hi : i < l.length) (h : plainV l[i].v = false) : l.all (fun p => plainV p.v) = false := List.all_eq_false.2 ⟨l[i], List.getElem_mem hi, by rw [h]; exact Bool.false_ne_true⟩
theorem partsE_of {L : List ByteArray} {P : List PropG} (h1 : L.length ≤ 8) (h2 : P.length ≤ 16) : partsE L P = if L.all nameB && (keysP P).all nameB then (if risesB L && risesB (keysP P) then (if P.all (fun p => plainV p.v) then 0 else 8) else 26) else 6 := by
 unfold partsE; rw [if_neg (by omega)]
set_option maxRecDepth 100000 in
set_option maxHeartbeats 1600000 in
theorem r7_parts (L : List ByteArray) (P : List PropG) (ok ok' : Nat → Prop) (A B : Option Addr) (c d : Nat) (w : World) (hv : Strs w ok A L) (hp : Props w ok' B P) (hs : ∀ p ∈ P, szV p.v) :
  Calls Tryz.prog 81 #[.slice A L.length c, .slice B P.length d] w fun e w' => e = .returned (.int .i64 (partsE L P)) ∧ Ext w w' := by
 have hm := hv.len
 have hm2 := hp.len
 by_cases h8 : L.length ≤ 8
 ·by_cases h16 : P.length ≤ 16
  ·have HK := Lib.hid (r7_keys P ok' B d w (by omega) hp)
   have HP := Lib.hid hp
   have HR := Lib.hid (partsE_of h8 h16)
   have HN1 := Lib.hid (fun W (e : Ext w W) => r7_Names L ok A c W (hv.ext e))
   have HN2 := Lib.hid (fun W A' c' (h : Strs W (fun b => w.heap.size ≤ b) A' (keysP P)) => r7_Names (keysP P) _ A' c' W h)
   have HI1 := Lib.hid (fun W (e : Ext w W) => r7_Rises L ok A c W (hv.ext e))
   have HI2 := Lib.hid (fun W A' c' (h : Strs W (fun b => w.heap.size ≤ b) A' (keysP P)) => r7_Rises (keysP P) _ A' c' W h)
   have HY := Lib.hid (all_prop (l := P))
   have HB := Lib.hid (all_prop_no (l := P))
   have HQ := Lib.hid (fun k (hk : k < P.length) (A' : Option Addr) c' W (h : Vals W ok' A' P[k].v.l) => r4_Plain P[k].v ok' A' c' W h (hs _ (List.getElem_mem hk)))
   clear hv hp hs
   generalize keysP P = KS at *
   generalize partsE L P = R at *
   generalize L.all nameB = n1 at *
   generalize KS.all nameB = n2 at *
   generalize risesB L = i1 at *
   generalize risesB KS = i2 at *
   generalize P.all (fun p => plainV p.v) = q at *
   cases n1
   ·clear HY HB HQ HI1 HI2 HN2
    go_enter Tryz.func81, Tryz.ntmps81
    go_wp2_with (first | (go_at_call 94; ((with_reducible refine (HK.out).mono ?_); rintro e w1 ⟨A1, c1, rfl, -, hS1, hx1⟩)) | (go_at_call 95; ((with_reducible refine (HN1.out _ (by solve_by_elim [X0, X1, X2, X3])).mono ?_); rintro e w1x ⟨rfl, rfl⟩)) | (go_at_call 95; ((with_reducible refine (HN2.out _ A1 c1 hS1).mono ?_); rintro e w1x ⟨rfl, rfl⟩)) | (go_at_call 96; ((with_reducible refine (HI1.out _ hx1).mono ?_); rintro e w2 ⟨rfl, hx2⟩)) | (go_at_call 96; ((with_reducible refine (HI2.out _ A1 c1 (hS1.ext hx2)).mono ?_); rintro e w3 ⟨rfl, hx3⟩)))
    go_ret
    exact ⟨ret_int (by rw [HR.out]; rfl), hx1⟩
   ·cases n2
    ·clear HY HB HQ HI1 HI2
     go_enter Tryz.func81, Tryz.ntmps81
     go_wp2_with (first | (go_at_call 94; ((with_reducible refine (HK.out).mono ?_); rintro e w1 ⟨A1, c1, rfl, -, hS1, hx1⟩)) | (go_at_call 95; ((with_reducible refine (HN1.out _ (by solve_by_elim [X0, X1, X2, X3])).mono ?_); rintro e w1x ⟨rfl, rfl⟩)) | (go_at_call 95; ((with_reducible refine (HN2.out _ A1 c1 hS1).mono ?_); rintro e w1x ⟨rfl, rfl⟩)) | (go_at_call 96; ((with_reducible refine (HI1.out _ hx1).mono ?_); rintro e w2 ⟨rfl, hx2⟩)) | (go_at_call 96; ((with_reducible refine (HI2.out _ A1 c1 (hS1.ext hx2)).mono ?_); rintro e w3 ⟨rfl, hx3⟩)))
     go_ret
     exact ⟨ret_int (by rw [HR.out]; rfl), hx1⟩
    ·cases i1
     ·clear HY HB HQ HI2
      go_enter Tryz.func81, Tryz.ntmps81
      go_wp2_with (first | (go_at_call 94; ((with_reducible refine (HK.out).mono ?_); rintro e w1 ⟨A1, c1, rfl, -, hS1, hx1⟩)) | (go_at_call 95; ((with_reducible refine (HN1.out _ (by solve_by_elim [X0, X1, X2, X3])).mono ?_); rintro e w1x ⟨rfl, rfl⟩)) | (go_at_call 95; ((with_reducible refine (HN2.out _ A1 c1 hS1).mono ?_); rintro e w1x ⟨rfl, rfl⟩)) | (go_at_call 96; ((with_reducible refine (HI1.out _ hx1).mono ?_); rintro e w2 ⟨rfl, hx2⟩)) | (go_at_call 96; ((with_reducible refine (HI2.out _ A1 c1 (hS1.ext hx2)).mono ?_); rintro e w3 ⟨rfl, hx3⟩)))
      go_ret
      exact ⟨ret_int (by rw [HR.out]; rfl), hx1.trans hx2⟩
     ·cases i2
      ·clear HY HB HQ
       go_enter Tryz.func81, Tryz.ntmps81
       go_wp2_with (first | (go_at_call 94; ((with_reducible refine (HK.out).mono ?_); rintro e w1 ⟨A1, c1, rfl, -, hS1, hx1⟩)) | (go_at_call 95; ((with_reducible refine (HN1.out _ (by solve_by_elim [X0, X1, X2, X3])).mono ?_); rintro e w1x ⟨rfl, rfl⟩)) | (go_at_call 95; ((with_reducible refine (HN2.out _ A1 c1 hS1).mono ?_); rintro e w1x ⟨rfl, rfl⟩)) | (go_at_call 96; ((with_reducible refine (HI1.out _ hx1).mono ?_); rintro e w2 ⟨rfl, hx2⟩)) | (go_at_call 96; ((with_reducible refine (HI2.out _ A1 c1 (hS1.ext hx2)).mono ?_); rintro e w3 ⟨rfl, hx3⟩)))
       go_ret
       exact ⟨ret_int (by rw [HR.out]; rfl), (hx1.trans hx2).trans hx3⟩
      ·go_enter Tryz.func81, Tryz.ntmps81
       go_wp2_with (first | (go_at_call 94; ((with_reducible refine (HK.out).mono ?_); rintro e w1 ⟨A1, c1, rfl, -, hS1, hx1⟩)) | (go_at_call 95; ((with_reducible refine (HN1.out _ (by solve_by_elim [X0, X1, X2, X3])).mono ?_); rintro e w1x ⟨rfl, rfl⟩)) | (go_at_call 95; ((with_reducible refine (HN2.out _ A1 c1 hS1).mono ?_); rintro e w1x ⟨rfl, rfl⟩)) | (go_at_call 96; ((with_reducible refine (HI1.out _ hx1).mono ?_); rintro e w2 ⟨rfl, hx2⟩)) | (go_at_call 96; ((with_reducible refine (HI2.out _ A1 c1 (hS1.ext hx2)).mono ?_); rintro e w3 ⟨rfl, hx3⟩)))
       have hE0 := (hx1.trans hx2).trans hx3
       clear hx1 hx2 hx3 hS1 HK HN1 HN2 HI1 HI2
       go_loopw [6] (fun u W => ∃ k : Nat, u = .int .i64 k ∧ k ≤ P.length ∧ Hid (∀ i (hi : i < P.length), i < k → plainV P[i].v = true) ∧ Ext w W) (fun u _ => P.length - (intOf u).toNat)
       case atStart => exact ⟨0, rfl, Nat.zero_le _, Lib.hid (fun i _ hi => absurd hi (Nat.not_lt_zero _)), hE0⟩
       case round =>
        clear hE0
        obtain ⟨k, rfl, hk, hgd, hE⟩ := hrel
        by_cases hlt : k < P.length
        ·obtain ⟨b, o, rfl, hc⟩ := HP.out.2 (by omega)
         obtain ⟨-, A', c', h5, -, hv'⟩ := VCells.iff.1 (hc k hlt).2
         obtain ⟨d0, d1, d2, d3, d4⟩ := h5.ext hE
         have HC := Lib.hid (HQ.out k hlt A' c' wr (hv'.ext hE))
         have HS := Lib.hid (fun (h : plainV P[k].v = true) i hi (hj : i < k + 1) => (if e : i = k then (by subst e; exact h) else hgd.out i hi (by omega) : plainV P[i].v = true))
         have HB' := Lib.hid (HB.out k hlt)
         clear hc h5 hv' HQ HB HY hgd
         generalize P[k].v = x at *
         generalize plainV x = y at *
         cases y
         ·have HT := Lib.hid (HB'.out rfl)
          go_wp2_with (go_at_call 97; ((with_reducible refine (HC.out).mono ?_); rintro e w8 ⟨rfl, hx8⟩))
          go_ret
          exact ⟨ret_int (by rw [HR.out, HT.out]; rfl), hE.trans hx8⟩
         ·have HT := Lib.hid (HS.out rfl)
          go_wp2_with (go_at_call 97; ((with_reducible refine (HC.out).mono ?_); rintro e w8 ⟨rfl, hx8⟩))
          go_roundw
          case rel => exact ⟨k + 1, by go_num, by omega, HT, hE.trans hx8⟩
          case measure => simp [intOf]; omega
        ·have HT := Lib.hid (HY.out (fun i hi => hgd.out i hi (by omega)))
         go_wp2_with fail
         go_ret
         exact ⟨ret_int (by rw [HR.out, HT.out]; rfl), hE⟩
  ·have HR := Lib.hid (show partsE L P = 4 by unfold partsE; rw [if_pos (.inr (by omega))])
   clear hv hp hs
   go_enter Tryz.func81, Tryz.ntmps81
   go_wp2_with fail
   go_ret
   exact ⟨ret_int HR.out.symm, Ext.refl _⟩
 ·have HR := Lib.hid (show partsE L P = 4 by unfold partsE; rw [if_pos (.inl (by omega))])
  clear hv hp hs
  go_enter Tryz.func81, Tryz.ntmps81
  go_wp2_with fail
  go_ret
  exact ⟨ret_int HR.out.symm, Ext.refl _⟩
set_option maxRecDepth 100000 in
set_option maxHeartbeats 1600000 in
theorem gr_parts (L : List ByteArray) (P : List PropG) (ok ok' : Nat → Prop) (A B : Option Addr) (c d : Nat) (w : World) (hv : Strs w ok A L) (hp : Props w ok' B P) :
  Calls Tryz.prog 47 #[.slice A L.length c, .slice B P.length d] w fun e w' => e = .returned (.int .i64 (partsE L P)) ∧ Ext w w' := by
 have hm := hv.len
 have hm2 := hp.len
 by_cases h8 : L.length ≤ 8
 ·by_cases h16 : P.length ≤ 16
  ·have HP := Lib.hid hp
   have HR := Lib.hid (partsE_of h8 h16)
   have HN1 := Lib.hid (fun W (e : Ext w W) => s_ContainsFS L ok A c W (hv.ext e))
   have HN2 := Lib.hid (fun W A' c' (h : Strs W (fun b => w.heap.size ≤ b) A' (keysP P)) => s_ContainsFS (keysP P) _ A' c' W h)
   have HI1 := Lib.hid (fun W (e : Ext w W) => gr_increasing L ok A c W (hv.ext e))
   have HI2 := Lib.hid (fun W A' c' (h : Strs W (fun b => w.heap.size ≤ b) A' (keysP P)) => gr_increasing (keysP P) _ A' c' W h)
   have HY := Lib.hid (all_prop (l := P))
   have HB := Lib.hid (all_prop_no (l := P))
   have HQ := Lib.hid (fun k (hk : k < P.length) (A' : Option Addr) c' W (h : Vals W ok' A' P[k].v.l) => v_Plain P[k].v ok' A' c' W h)
   have HS0 := Lib.hid (World.ownsRow_nil w w.heap.size 9 1)
   clear hv hp
   generalize partsE L P = R at *
   generalize L.all nameB = n1 at *
   obtain ⟨n2, hn2⟩ : ∃ n2, n2 = (keysP P).all nameB := ⟨_, rfl⟩
   generalize risesB L = i1 at *
   obtain ⟨i2, hi2⟩ : ∃ i2, i2 = risesB (keysP P) := ⟨_, rfl⟩
   rw [← hn2] at HN2 HR
   rw [← hi2] at HI2 HR
   clear hn2 hi2
   generalize P.all (fun p => plainV p.v) = q at *
   go_enter Tryz.func47, Tryz.ntmps47
   go_wp2_with fail
   go_loopw [5, 20] (fun v u W => ∃ k : Nat, u = .int .i64 k ∧ k ≤ P.length ∧ Hid (W.ownsRow w.heap.size 9 1 v k ((keysP (P.take k)).map Value.string)) ∧ Hid (Ext w W)) (fun _ u _ => P.length - (intOf u).toNat)
   case atStart => exact ⟨0, rfl, Nat.zero_le _, HS0, Lib.hid (Ext.refl _)⟩
   case round =>
    clear HS0
    obtain ⟨k, rfl, hk, hown, hE⟩ := hrel
    by_cases hlt : k < P.length
    ·obtain ⟨b, o, rfl, hc⟩ := HP.out.2 (by omega)
     have h5 := hE.out.cell (hc k hlt).1
     obtain ⟨-, A', c', h6, -, -⟩ := VCells.iff.1 (hc k hlt).2
     obtain ⟨d0, d1, d2, d3, d4⟩ := h6.ext hE.out
     have HSN := Lib.hid (keysP_snoc P k hlt)
     clear hc h6 HQ HB HY HN1 HN2 HI1 HI2
     generalize P[k] = x at *
     have hown' := hown.out
     have hE' := hE.out
     clear hown hE
     have hkb : k + 1 ≤ 8388608 := by omega
     go_wp2_with (at_builtin; refine own_pushH El_str rfl (.tmp 24) (.tmp 27) rfl w _ _ k _ [.string x.key] rfl (own_ext hown' (by solve_by_elim [X0, X1, X2, X3])) (hE'.trans (by solve_by_elim [X0, X1, X2, X3])) rfl (wr.heap.size + 1) (by simp) rfl rfl (by simp [Value.oneCell']) hkb (by decide) ?_; intro v2 w9 hown2 hE9 hF9; clear hF9)
     have HO2 := Lib.hid (show w9.ownsRow w.heap.size 9 1 v2 (k + 1) ((keysP (P.take (k + 1))).map Value.string) by rw [HSN.out]; exact hown2)
     have HE9 := Lib.hid hE9
     clear hown2 hE9 hown' hE'
     go_roundw
     case rel => exact ⟨k + 1, by go_num, by omega, HO2, HE9⟩
     case measure => simp [intOf]; omega
    ·obtain ⟨A1, c1, rfl, -, hS1⟩ := strs_of_own (l := keysP P) (by have := hown.out; rwa [List.take_of_length_le (by omega)] at this) (by rw [keysP_len]; omega) (by rw [keysP_len]; omega)
     have hx1 := hE.out
     clear hown hE
     generalize keysP P = KS at *
     cases n1
     ·clear HY HB HQ HI1 HI2 HN2
      go_wp2_with (first | (go_at_call 72; ((with_reducible refine (HN1.out _ (by solve_by_elim [X0, X1, X2, X3])).mono ?_); rintro e w1x ⟨rfl, rfl⟩)) | (go_at_call 72; ((with_reducible refine (HN2.out _ A1 c1 hS1).mono ?_); rintro e w1x ⟨rfl, rfl⟩)) | (go_at_call 74; ((with_reducible refine (HI1.out _ hx1).mono ?_); rintro e w2 ⟨rfl, hx2⟩)) | (go_at_call 74; ((with_reducible refine (HI2.out _ A1 c1 (hS1.ext hx2)).mono ?_); rintro e w3 ⟨rfl, hx3⟩)))
      go_ret
      exact ⟨ret_int (by rw [HR.out]; rfl), hx1⟩
     ·cases n2
      ·clear HY HB HQ HI1 HI2
       go_wp2_with (first | (go_at_call 72; ((with_reducible refine (HN1.out _ (by solve_by_elim [X0, X1, X2, X3])).mono ?_); rintro e w1x ⟨rfl, rfl⟩)) | (go_at_call 72; ((with_reducible refine (HN2.out _ A1 c1 hS1).mono ?_); rintro e w1x ⟨rfl, rfl⟩)) | (go_at_call 74; ((with_reducible refine (HI1.out _ hx1).mono ?_); rintro e w2 ⟨rfl, hx2⟩)) | (go_at_call 74; ((with_reducible refine (HI2.out _ A1 c1 (hS1.ext hx2)).mono ?_); rintro e w3 ⟨rfl, hx3⟩)))
       go_ret
       exact ⟨ret_int (by rw [HR.out]; rfl), hx1⟩
      ·cases i1
       ·clear HY HB HQ HI2
        go_wp2_with (first | (go_at_call 72; ((with_reducible refine (HN1.out _ (by solve_by_elim [X0, X1, X2, X3])).mono ?_); rintro e w1x ⟨rfl, rfl⟩)) | (go_at_call 72; ((with_reducible refine (HN2.out _ A1 c1 hS1).mono ?_); rintro e w1x ⟨rfl, rfl⟩)) | (go_at_call 74; ((with_reducible refine (HI1.out _ hx1).mono ?_); rintro e w2 ⟨rfl, hx2⟩)) | (go_at_call 74; ((with_reducible refine (HI2.out _ A1 c1 (hS1.ext hx2)).mono ?_); rintro e w3 ⟨rfl, hx3⟩)))
        go_ret
        exact ⟨ret_int (by rw [HR.out]; rfl), hx1.trans hx2⟩
       ·cases i2
        ·clear HY HB HQ
         go_wp2_with (first | (go_at_call 72; ((with_reducible refine (HN1.out _ (by solve_by_elim [X0, X1, X2, X3])).mono ?_); rintro e w1x ⟨rfl, rfl⟩)) | (go_at_call 72; ((with_reducible refine (HN2.out _ A1 c1 hS1).mono ?_); rintro e w1x ⟨rfl, rfl⟩)) | (go_at_call 74; ((with_reducible refine (HI1.out _ hx1).mono ?_); rintro e w2 ⟨rfl, hx2⟩)) | (go_at_call 74; ((with_reducible refine (HI2.out _ A1 c1 (hS1.ext hx2)).mono ?_); rintro e w3 ⟨rfl, hx3⟩)))
         go_ret
         exact ⟨ret_int (by rw [HR.out]; rfl), (hx1.trans hx2).trans hx3⟩
        ·go_wp2_with (first | (go_at_call 72; ((with_reducible refine (HN1.out _ (by solve_by_elim [X0, X1, X2, X3])).mono ?_); rintro e w1x ⟨rfl, rfl⟩)) | (go_at_call 72; ((with_reducible refine (HN2.out _ A1 c1 hS1).mono ?_); rintro e w1x ⟨rfl, rfl⟩)) | (go_at_call 74; ((with_reducible refine (HI1.out _ hx1).mono ?_); rintro e w2 ⟨rfl, hx2⟩)) | (go_at_call 74; ((with_reducible refine (HI2.out _ A1 c1 (hS1.ext hx2)).mono ?_); rintro e w3 ⟨rfl, hx3⟩)))
         have hE0 := (hx1.trans hx2).trans hx3
         clear hx1 hx2 hx3 hS1 HN1 HN2 HI1 HI2
         go_loopw [46] (fun u W => ∃ k : Nat, u = .int .i64 k ∧ k ≤ P.length ∧ Hid (∀ i (hi : i < P.length), i < k → plainV P[i].v = true) ∧ Ext w W) (fun u _ => P.length - (intOf u).toNat)
         case atStart => exact ⟨0, rfl, Nat.zero_le _, Lib.hid (fun i _ hi => absurd hi (Nat.not_lt_zero _)), hE0⟩
         case round =>
          clear hE0
          obtain ⟨k, rfl, hk, hgd, hE⟩ := hrel
          by_cases hlt : k < P.length
          ·obtain ⟨b, o, rfl, hc⟩ := HP.out.2 (by omega)
           have h5 := hE.cell (hc k hlt).1
           obtain ⟨-, A', c', h6, -, hv'⟩ := VCells.iff.1 (hc k hlt).2
           obtain ⟨d0, d1, d2, d3, d4⟩ := h6.ext hE
           have HC := Lib.hid (fun W (e : Ext wr W) => HQ.out k hlt A' c' W (hv'.ext (hE.trans e)))
           have HS := Lib.hid (fun (h : plainV P[k].v = true) i hi (hj : i < k + 1) => (if e : i = k then (by subst e; exact h) else hgd.out i hi (by omega) : plainV P[i].v = true))
           have HB' := Lib.hid (HB.out k hlt)
           clear hc h6 hv' HQ HB HY hgd
           generalize P[k].key = ky at *
           generalize P[k].v = x at *
           generalize plainV x = y at *
           cases y
           ·have HT := Lib.hid (HB'.out rfl)
            go_wp2_with (go_at_call 75; ((with_reducible refine (HC.out _ (by solve_by_elim [X0, X1, X2, X3])).mono ?_); rintro e w8 ⟨rfl, hx8⟩))
            go_ret
            exact ⟨ret_int (by rw [HR.out, HT.out]; rfl), hE.trans (Ext.trans (by solve_by_elim [X0, X1, X2, X3]) hx8)⟩
           ·have HT := Lib.hid (HS.out rfl)
            go_wp2_with (go_at_call 75; ((with_reducible refine (HC.out _ (by solve_by_elim [X0, X1, X2, X3])).mono ?_); rintro e w8 ⟨rfl, hx8⟩))
            go_roundw
            case rel => exact ⟨k + 1, by go_num, by omega, HT, hE.trans (Ext.trans (by solve_by_elim [X0, X1, X2, X3]) hx8)⟩
            case measure => simp [intOf]; omega
          ·have HT := Lib.hid (HY.out (fun i hi => hgd.out i hi (by omega)))
           go_wp2_with fail
           go_ret
           exact ⟨ret_int (by rw [HR.out, HT.out]; rfl), hE⟩
  ·have HR := Lib.hid (show partsE L P = 4 by unfold partsE; rw [if_pos (.inr (by omega))])
   clear hv hp
   go_enter Tryz.func47, Tryz.ntmps47
   go_wp2_with fail
   go_ret
   exact ⟨ret_int HR.out.symm, Ext.refl _⟩
 ·have HR := Lib.hid (show partsE L P = 4 by unfold partsE; rw [if_pos (.inl (by omega))])
  clear hv hp
  go_enter Tryz.func47, Tryz.ntmps47
  go_wp2_with fail
  go_ret
  exact ⟨ret_int HR.out.symm, Ext.refl _⟩
end Go.Proofs.YtnheioehadldmaaGreat

/- THE WALKS over the search for a node by its id: graph.has, the reference's Node; over the types of edges. -/
namespace Go.Proofs.YtnheioehadldmaaGreat
open Go.RowKit
theorem gr_has1 (n : Int) (A B : Option Addr) (na c nb d : Nat) (m : Int) (w : World) :
  Calls Tryz.prog 77 #[.agg #[.int .i64 n, .slice A na c, .slice B nb d], .int .i64 m] w fun e w' => e = .returned (.int .i64 (Lib.compareInt n m)) ∧ Ext w w' := by
 go_enter Tryz.func77, Tryz.ntmps77
 go_wp2_with (go_at_call 54; ((with_reducible refine (c_cmp_int _ _ _).mono ?_); rintro e w' ⟨rfl, rfl⟩))
 go_ret
 exact ⟨rfl, (Ext.refl _).alloc _⟩
theorem hasN_at {l : List NodeG} {n : Int} (i : Nat) (hi : i < l.length) (h : l[i]!.id = n) : hasN l n = true := by
 unfold hasN
 rw [List.any_eq_true]
 exact ⟨l[i], List.getElem_mem hi, by rw [getElem!_pos l i hi] at h; exact decide_eq_true h⟩
theorem hasN_no {l : List NodeG} {n : Int} (h : ∀ i, i < l.length → l[i]!.id ≠ n) : hasN l n = false := by
 unfold hasN
 rw [List.any_eq_false]
 intro x hx
 obtain ⟨i, hi, rfl⟩ := List.getElem_of_mem hx
 have := h i hi
 rw [getElem!_pos l i hi] at this
 rw [decide_eq_false this]; exact Bool.false_ne_true
theorem cmpI_lt {a b : Int} (h : a < b) : Lib.compareInt a b = -1 := by unfold Lib.compareInt; rw [if_pos h]
theorem cmpI_ge {a b : Int} (h : ¬ a < b) : ¬ Lib.compareInt a b < 0 := by unfold Lib.compareInt; rw [if_neg h]; split <;> omega
theorem cmpI_eq (a : Int) : Lib.compareInt a a = 0 := by unfold Lib.compareInt; rw [if_neg (by omega), if_neg (by omega)]
theorem cmpI_ne {a b : Int} (h : a ≠ b) : Lib.compareInt a b ≠ 0 := by unfold Lib.compareInt; split <;> (try split) <;> omega
set_option maxRecDepth 100000 in
set_option maxHeartbeats 1600000 in
theorem gr_BSF (l : List NodeG) (ok : Nat → Prop) (A : Option Addr) (c : Nat) (n : Int) (w : World) (hv : Nodes w ok A l) (hsort : ∀ i j, i < j → j < l.length → l[i]!.id < l[j]!.id) :
  Calls Tryz.prog 76 #[.slice A l.length c, .int .i64 n, .func (.func 77) #[] #[]] w fun e w' => (∃ i : Int, e = .returned (.tuple #[.int .i64 i, .bool (hasN l n)])) ∧ Ext w w' := by
 have hm := hv.len
 have HV := Lib.hid hv
 have HY := Lib.hid (hasN_at (l := l) (n := n))
 have HN := Lib.hid (hasN_no (l := l) (n := n))
 have HS := Lib.hid hsort
 generalize hasN l n = R at *
 clear hv hsort
 go_enter Tryz.func76, Tryz.ntmps76
 go_wp2_with fail
 go_loopw [9, 10] (fun u v W => ∃ i j : Nat, u = .int .i64 i ∧ v = .int .i64 j ∧ i ≤ j ∧ j ≤ l.length ∧ Hid (∀ t, t < i → l[t]!.id < n) ∧ Hid (∀ t, j ≤ t → t < l.length → n ≤ l[t]!.id) ∧ Ext w W) (fun u v _ => (intOf v - intOf u).toNat)
 case atStart => exact ⟨0, l.length, rfl, rfl, Nat.zero_le _, Nat.le_refl _, Lib.hid (fun t ht => absurd ht (by omega)), Lib.hid (fun t h1 h2 => absurd h1 (by omega)), Ext.refl _⟩
 case round =>
  obtain ⟨i, j, rfl, rfl, hij, hjl, hlo, hhi, hE⟩ := hrel
  by_cases hlt : i < j
  ·obtain ⟨b, off, rfl, hc⟩ := HV.out.2 (by omega)
   have hm1 : (i + j) / 2 < l.length := by omega
   obtain ⟨-, d0, A', c', B', d', d1, -, -, d2, -, -⟩ := (hc ((i + j) / 2) hm1).ext hE
   rw [← getElem!_pos l ((i + j) / 2) hm1] at d0 d1 d2
   have HL := Lib.hid (fun (h : l[(i + j) / 2]!.id < n) t (ht : t < (i + j) / 2 + 1) => (if e : t = (i + j) / 2 then (by rw [e]; exact h) else (Int.lt_trans (HS.out t _ (by omega) hm1) h) : l[t]!.id < n))
   have HH := Lib.hid (fun (h : n ≤ l[(i + j) / 2]!.id) t (ht : (i + j) / 2 ≤ t) (htl : t < l.length) => (if e : t = (i + j) / 2 then (by rw [e]; exact h) else (Int.le_trans h (Int.le_of_lt (HS.out _ t (by omega) htl))) : n ≤ l[t]!.id))
   clear hc
   generalize l[(i + j) / 2]! = x at *
   have q1 : (0 : Int) ≤ ((i : Int) + (j : Int)) / 2 := by omega
   have q2 : ((i : Int) + (j : Int)) / 2 < (l.length : Int) := by omega
   have q3 : (((i : Int) + (j : Int)) / 2).toNat = (i + j) / 2 := by omega
   by_cases ho : x.id < n
   ·have HX := Lib.hid (HL.out ho)
    have HC := Lib.hid (fun W => gr_has1 x.id A' B' x.labels.length c' x.props.length d' n W)
    rw [cmpI_lt ho] at HC
    clear ho HL HH
    go_wp2_with (go_at_call 77; ((with_reducible refine (HC.out _).mono ?_); rintro e w8 ⟨rfl, hx8⟩))
    go_roundw
    case rel => exact ⟨(i + j) / 2 + 1, j, congrArg (Value.int .i64) (by omega), rfl, by omega, hjl, HX, hhi, hE.trans hx8⟩
    case measure => simp [intOf]; omega
   ·have HX := Lib.hid (HH.out (by omega))
    have ho' := cmpI_ge ho
    have HC := Lib.hid (fun W => gr_has1 x.id A' B' x.labels.length c' x.props.length d' n W)
    generalize Lib.compareInt x.id n = z at *
    have ho2 : decide (z < 0) = false := decide_eq_false ho'
    clear ho ho' HL HH
    go_wp2_with (go_at_call 77; ((with_reducible refine (HC.out _).mono ?_); rintro e w8 ⟨rfl, hx8⟩))
    go_roundw
    case rel => exact ⟨i, (i + j) / 2, rfl, congrArg (Value.int .i64) (by omega), by omega, by omega, hlo, HX, hE.trans hx8⟩
    case measure => simp [intOf]; omega
  ·obtain rfl : i = j := by omega
   by_cases hin : i < l.length
   ·obtain ⟨b, off, rfl, hc⟩ := HV.out.2 (by omega)
    obtain ⟨-, d0, A', c', B', d', d1, -, -, d2, -, -⟩ := (hc i hin).ext hE
    rw [← getElem!_pos l i hin] at d0 d1 d2
    have HX1 := Lib.hid (HY.out i hin)
    have HX2 := Lib.hid (fun (h : l[i]!.id ≠ n) => HN.out (fun t ht => by
     rcases Nat.lt_trichotomy t i with h1 | h1 | h1
     ·have := hlo.out t h1; omega
     ·rw [h1]; exact h
     ·have h2 := hhi.out i (Nat.le_refl _) hin
      have h3 := HS.out i t h1 ht
      omega))
    have HC := Lib.hid (fun W => gr_has1 l[i]!.id A' B' l[i]!.labels.length c' l[i]!.props.length d' n W)
    clear hc HY HN
    generalize l[i]! = x at *
    by_cases he : x.id = n
    ·have HT := Lib.hid (HX1.out he)
     rw [he] at d0 HC
     rw [cmpI_eq] at HC
     clear he HX1 HX2
     go_wp2_with (go_at_call 77; ((with_reducible refine (HC.out _).mono ?_); rintro e w8 ⟨rfl, hx8⟩))
     go_ret2
     exact ⟨⟨(i : Int), by rw [HT.out]; rfl⟩, hE.trans hx8⟩
    ·have HT := Lib.hid (HX2.out he)
     have hz : (Lib.compareInt x.id n == 0) = false := beq_eq_false_iff_ne.2 (cmpI_ne he)
     generalize Lib.compareInt x.id n = z at *
     clear he HX1 HX2
     go_wp2_with (go_at_call 77; ((with_reducible refine (HC.out _).mono ?_); rintro e w8 ⟨rfl, hx8⟩))
     go_ret2
     exact ⟨⟨(i : Int), by rw [HT.out]; rfl⟩, hE.trans hx8⟩
   ·have HT := Lib.hid (HN.out (fun t ht => by have := hlo.out t (by omega); omega))
    go_wp2_with fail
    go_ret2
    exact ⟨⟨(i : Int), by rw [HT.out]; rfl⟩, hE⟩
set_option maxRecDepth 100000 in
theorem gr_has (l : List NodeG) (ok : Nat → Prop) (A : Option Addr) (c : Nat) (n : Int) (w : World) (hv : Nodes w ok A l) (hsort : ∀ i j, i < j → j < l.length → l[i]!.id < l[j]!.id) :
  Calls Tryz.prog 48 #[.slice A l.length c, .int .i64 n] w fun e w' => e = .returned (.bool (hasN l n)) ∧ Ext w w' := by
 have HC := Lib.hid (gr_BSF l ok A c n w hv hsort)
 clear hv hsort
 generalize hasN l n = R at *
 go_enter Tryz.func48, Tryz.ntmps48
 go_wp2_with (go_at_call 76; ((with_reducible refine (HC.out).mono ?_); rintro e w8 ⟨⟨i, rfl⟩, hx8⟩))
 go_ret
 exact ⟨rfl, hx8⟩
theorem box_graph (w : World) (A B : Option Addr) (c d : Nat) (g : GraphG) (t : TypeId) : ∃ (q : Nat) (w1 : World), q = w.heap.size ∧ w1 = w.alloc (.cells #[.slice A g.nodes.length c, .slice B g.edges.length d, .int .i64 g.nn, .int .i64 g.ne] t) ∧ w1.cell? ⟨q, 0, none⟩ = some (.slice A g.nodes.length c) ∧ w1.cell? ⟨q, 1, none⟩ = some (.slice B g.edges.length d) ∧ w1.cell? ⟨q, 2, none⟩ = some (.int .i64 g.nn) ∧ w1.cell? ⟨q, 3, none⟩ = some (.int .i64 g.ne) ∧ Ext w w1 :=
 ⟨_, _, rfl, rfl, by go_simp, by go_simp, by go_simp, by go_simp, (Ext.refl _).alloc _⟩
set_option maxRecDepth 100000 in
set_option maxHeartbeats 1600000 in
theorem r7_Node (g : GraphG) (ok : Nat → Prop) (A B : Option Addr) (c d : Nat) (n : Int) (w : World) (hv : Nodes w ok A g.nodes) :
  Calls Tryz.prog 82 #[.agg #[.slice A g.nodes.length c, .slice B g.edges.length d, .int .i64 g.nn, .int .i64 g.ne], .int .i64 n] w fun e w' => (∃ id L nl cl P np cp, e = .returned (.tuple #[.agg #[.int .i64 id, .slice L nl cl, .slice P np cp], .bool (hasN g.nodes n)])) ∧ Ext w w' := by
 have hm := hv.len
 obtain ⟨q, w1, hq, hw1, g0, g1, g2, g3, hx⟩ := box_graph w A B c d g 25
 have hq1 : w1.heap.size = q + 1 := by rw [hw1, hq]; simp
 obtain ⟨w2, hw2, z0, z1, z2, y0, y1, y2⟩ : ∃ w2, w2 = w1.alloc (.cells #[.int .i64 0, .slice none 0 0, .slice none 0 0] 54) ∧ w2.cell? ⟨q + 1, 0, none⟩ = some (.int .i64 0) ∧ w2.cell? ⟨q + 1, 1, none⟩ = some (.slice none 0 0) ∧ w2.cell? ⟨q + 1, 2, none⟩ = some (.slice none 0 0) ∧ w2.frozen? ⟨q + 1, 0, none⟩ = false ∧ w2.frozen? ⟨q + 1, 1, none⟩ = false ∧ w2.frozen? ⟨q + 1, 2, none⟩ = false := ⟨_, rfl, by rw [← hq1]; go_simp, by rw [← hq1]; go_simp, by rw [← hq1]; go_simp, by rw [← hq1]; go_simp, by rw [← hq1]; go_simp, by rw [← hq1]; go_simp⟩
 have hx2 : Ext w1 w2 := by rw [hw2]; exact (Ext.refl _).alloc _
 have HW1 := Lib.hid hw1
 have HW2 := Lib.hid hw2
 have HG := Lib.hid hq
 have HLE := Lib.hid (show w.heap.size ≤ q + 1 by omega)
 have HV := Lib.hid (hv.ext (hx.trans hx2))
 have HY := Lib.hid (hasN_at (l := g.nodes) (n := n))
 have HN := Lib.hid (hasN_no (l := g.nodes) (n := n))
 replace g0 := hx2.cell g0
 replace g1 := hx2.cell g1
 replace g2 := hx2.cell g2
 replace g3 := hx2.cell g3
 have hE := hx.trans hx2
 generalize hasN g.nodes n = R at *
 generalize hl : g.nodes = l at *
 clear hv hl hw1 hq hw2 hx hx2 hq1
 go_enter Tryz.func82, Tryz.ntmps82
 go_upto_region 1 with (fail)
 rw [← HW1.out, ← HG.out, ← HW2.out]
 clear HW1 HG HW2
 go_wp2_with fail
 go_loop [6] (fun u => ∃ k : Nat, u = .int .i64 k ∧ k ≤ l.length ∧ Hid (∀ t, t < k → l[t]!.id ≠ n)) (fun u => l.length - (intOf u).toNat)
 case atStart => exact ⟨0, rfl, Nat.zero_le _, Lib.hid (fun t ht => absurd ht (by omega))⟩
 case round =>
  obtain ⟨k, rfl, hk, hgd⟩ := hrel
  by_cases hlt : k < l.length
  ·obtain ⟨b, off, rfl, hc⟩ := HV.out.2 (by omega)
   obtain ⟨-, d0, A', c', B', d', d1, -, -, d2, -, -⟩ := hc k hlt
   rw [← getElem!_pos l k hlt] at d0 d1 d2
   have HS := Lib.hid (fun (h : l[k]!.id ≠ n) t (ht : t < k + 1) => (if e : t = k then (by rw [e]; exact h) else hgd.out t (by omega) : l[t]!.id ≠ n))
   have HX := Lib.hid (HY.out k hlt)
   clear hc HY HN hgd
   generalize l[k]! = x at *
   by_cases he : x.id = n
   ·have HT := Lib.hid (HX.out he)
    have he2 : (x.id == n) = true := beq_iff_eq.2 he
    clear he HX HS
    go_wp2_with fail
    refine bodyPost_ret (v := .tuple #[.agg #[.int .i64 x.id, .slice A' x.labels.length c', .slice B' x.props.length d'], .bool true]) (by simp [results, Tryz.results82, go_sem, *]) rfl ?_
    exact ⟨⟨_, _, _, _, _, _, _, by rw [HT.out]⟩, ((hE.setCell HLE.out _).setCell HLE.out _).setCell HLE.out _⟩
   ·have HT := Lib.hid (HS.out he)
    have he2 : (x.id == n) = false := beq_eq_false_iff_ne.2 he
    clear he HX HS
    go_wp2_with fail
    go_round
    case rel => exact ⟨k + 1, by go_num, by omega, HT⟩
    case measure => simp [intOf]; omega
  ·have HT := Lib.hid (HN.out (fun t ht => hgd.out t (by omega)))
   clear HY HN
   go_wp2_with fail
   refine bodyPost_ret (v := .tuple #[.agg #[.int .i64 0, .slice none 0 0, .slice none 0 0], .bool false]) (by simp [results, Tryz.results82, go_sem, *]) rfl ?_
   exact ⟨⟨_, _, _, _, _, _, _, by rw [HT.out]⟩, ((hE.setCell HLE.out _).setCell HLE.out _).setCell HLE.out _⟩
def typB (types : List ByteArray) (t : ByteArray) : Bool := decide (types.length = 0) || memB t types
set_option maxRecDepth 100000 in
theorem gr_HasType (types : List ByteArray) (x : EdgeG) (ok : Nat → Prop) (A B : Option Addr) (c m d : Nat) (w : World) (hv : Strs w ok A types) :
  Calls Tryz.prog 50 #[.agg #[.int .i64 x.id, .int .i64 x.frm, .int .i64 x.to_, .string x.typ, .slice B m d], .slice A types.length c] w fun e w' => e = .returned (.bool (typB types x.typ)) ∧ Ext w w' := by
 have hm := hv.len
 have HC := Lib.hid (fun W (e : Ext w W) => s_ContainsS types x.typ ok A c W (hv.ext e))
 have HQ := Lib.hid (show typB types x.typ = (decide (types.length = 0) || memB x.typ types) from rfl)
 generalize typB types x.typ = R at *
 generalize memB x.typ types = q at *
 clear hv
 by_cases h0 : types.length = 0
 ·have hz : ((types.length : Int) == 0) = true := by rw [h0]; rfl
  go_enter Tryz.func50, Tryz.ntmps50
  go_wp2_with (go_at_call 78; ((with_reducible refine (HC.out _ (by solve_by_elim [X0, X1, X2, X3])).mono ?_); rintro e w8 ⟨rfl, rfl⟩))
  go_ret
  exact ⟨ret_bool (by rw [HQ.out, decide_eq_true h0]; rfl), (by solve_by_elim [X0, X1, X2, X3])⟩
 ·have hz : ((types.length : Int) == 0) = false := beq_eq_false_iff_ne.2 (by omega)
  have HR := Lib.hid (show R = q by rw [HQ.out, decide_eq_false h0]; rfl)
  clear h0 HQ
  go_enter Tryz.func50, Tryz.ntmps50
  go_wp2_with (go_at_call 78; ((with_reducible refine (HC.out _ (by solve_by_elim [X0, X1, X2, X3])).mono ?_); rintro e w8 ⟨rfl, rfl⟩))
  go_ret
  exact ⟨ret_bool HR.out.symm, (by solve_by_elim [X0, X1, X2, X3])⟩
end Go.Proofs.YtnheioehadldmaaGreat

/- THE WALKS over the reference's node, edge, Check of a graph. -/
namespace Go.Proofs.YtnheioehadldmaaGreat
open Go.RowKit
/-- no string of a graph's values is longer than the platform's room -/
structure SzG (g : GraphG) : Prop where
 nodes : ∀ n ∈ g.nodes, ∀ p ∈ n.props, szV p.v
 edges : ∀ e ∈ g.edges, ∀ p ∈ e.props, szV p.v
theorem mem_bang {α : Type} [Inhabited α] {l : List α} {i : Nat} (h : i < l.length) : l[i]! ∈ l := by rw [getElem!_pos l i h]; exact List.getElem_mem h
theorem Nodes.at_ {w : World} {ok : Nat → Prop} {A : Option Addr} {l : List NodeG} (h : Nodes w ok A l) {i : Nat} (hi : i < l.length) : ∃ b o, A = some ⟨b, o, none⟩ ∧ ∀ k, k < l.length → NodeC w ok b (o + k * 3) l[k]! := by
 obtain ⟨b, o, hA, hc⟩ := h.2 (by omega)
 exact ⟨b, o, hA, fun k hk => by rw [getElem!_pos l k hk]; exact hc k hk⟩
theorem Edges.at_ {w : World} {ok : Nat → Prop} {A : Option Addr} {l : List EdgeG} (h : Edges w ok A l) {i : Nat} (hi : i < l.length) : ∃ b o, A = some ⟨b, o, none⟩ ∧ ∀ k, k < l.length → EdgeC w ok b (o + k * 5) l[k]! := by
 obtain ⟨b, o, hA, hc⟩ := h.2 (by omega)
 exact ⟨b, o, hA, fun k hk => by rw [getElem!_pos l k hk]; exact hc k hk⟩
theorem box_node (w : World) (n : Int) (A B : Option Addr) (na c nb d : Nat) (t : TypeId) : ∃ (q : Nat) (w1 : World), q = w.heap.size ∧ w1 = w.alloc (.cells #[.int .i64 n, .slice A na c, .slice B nb d] t) ∧ w1.cell? ⟨q, 0, none⟩ = some (.int .i64 n) ∧ w1.cell? ⟨q, 1, none⟩ = some (.slice A na c) ∧ w1.cell? ⟨q, 2, none⟩ = some (.slice B nb d) ∧ Ext w w1 :=
 ⟨_, _, rfl, rfl, by go_simp, by go_simp, by go_simp, (Ext.refl _).alloc _⟩
theorem box_edge (w : World) (e : EdgeG) (B : Option Addr) (d : Nat) (t : TypeId) : ∃ (q : Nat) (w1 : World), q = w.heap.size ∧ w1 = w.alloc (.cells #[.int .i64 e.id, .int .i64 e.frm, .int .i64 e.to_, .string e.typ, .slice B e.props.length d] t) ∧ w1.cell? ⟨q, 0, none⟩ = some (.int .i64 e.id) ∧ w1.cell? ⟨q, 1, none⟩ = some (.int .i64 e.frm) ∧ w1.cell? ⟨q, 2, none⟩ = some (.int .i64 e.to_) ∧ w1.cell? ⟨q, 3, none⟩ = some (.string e.typ) ∧ w1.cell? ⟨q, 4, none⟩ = some (.slice B e.props.length d) ∧ Ext w w1 :=
 ⟨_, _, rfl, rfl, by go_simp, by go_simp, by go_simp, by go_simp, by go_simp, (Ext.refl _).alloc _⟩
/-- what is wrong with a node, piece by piece -/
theorem nodeE_26 {g : GraphG} {i : Nat} (h : 0 < i) (h2 : g.nodes[i]!.id ≤ g.nodes[i - 1]!.id) : nodeE g i = 26 := by unfold nodeE; rw [if_pos ⟨h, h2⟩]
theorem nodeE_1 {g : GraphG} {i : Nat} (h : 0 < i → g.nodes[i - 1]!.id < g.nodes[i]!.id) (h2 : g.nodes[i]!.id < 1 ∨ g.nn ≤ g.nodes[i]!.id) : nodeE g i = 1 := by
 unfold nodeE; rw [if_neg (fun hh => by have := h hh.1; omega), if_pos h2]
theorem nodeE_p {g : GraphG} {i : Nat} (h : 0 < i → g.nodes[i - 1]!.id < g.nodes[i]!.id) (h2 : 1 ≤ g.nodes[i]!.id) (h3 : g.nodes[i]!.id < g.nn) : nodeE g i = partsE g.nodes[i]!.labels g.nodes[i]!.props := by
 unfold nodeE; rw [if_neg (fun hh => by have := h hh.1; omega), if_neg (by omega)]
theorem edgeE_26 {g : GraphG} {i : Nat} (h : 0 < i) (h2 : g.edges[i]!.id ≤ g.edges[i - 1]!.id) : edgeE g i = 26 := by unfold edgeE; rw [if_pos ⟨h, h2⟩]
theorem edgeE_1 {g : GraphG} {i : Nat} (h : 0 < i → g.edges[i - 1]!.id < g.edges[i]!.id) (h2 : g.edges[i]!.id < 1 ∨ g.ne ≤ g.edges[i]!.id) : edgeE g i = 1 := by
 unfold edgeE; rw [if_neg (fun hh => by have := h hh.1; omega), if_pos h2]
theorem edgeE_p {g : GraphG} {i : Nat} (h : 0 < i → g.edges[i - 1]!.id < g.edges[i]!.id) (h2 : 1 ≤ g.edges[i]!.id) (h3 : g.edges[i]!.id < g.ne) : edgeE g i = if hasN g.nodes g.edges[i]!.frm && hasN g.nodes g.edges[i]!.to_ then (if nameB g.edges[i]!.typ then partsE [] g.edges[i]!.props else 6) else 10 := by
 unfold edgeE; rw [if_neg (fun hh => by have := h hh.1; omega), if_neg (by omega)]
set_option maxRecDepth 100000 in
set_option maxHeartbeats 1600000 in
theorem r7_node (g : GraphG) (ok : Nat → Prop) (A B : Option Addr) (c d : Nat) (i : Nat) (w : World) (hg : GraphAt w ok A B g) (hs : SzG g) (hi : i < g.nodes.length) :
  Calls Tryz.prog 55 #[.agg #[.slice A g.nodes.length c, .slice B g.edges.length d, .int .i64 g.nn, .int .i64 g.ne], .int .i64 i] w fun e w' => e = .returned (.int .i64 (nodeE g i)) ∧ Ext w w' := by
 have hm := hg.nodes.len
 obtain ⟨b, o, rfl, hc⟩ := hg.nodes.at_ hi
 obtain ⟨-, d0, A', c', B', d', d1, -, hS, d2, -, hP⟩ := hc i hi
 obtain ⟨q, w1, hq, hw1, g0, g1, g2, g3, hx1⟩ := box_graph w (some ⟨b, o, none⟩) B c d g 25
 have hq1 : w1.heap.size = q + 1 := by rw [hw1, hq]; simp
 obtain ⟨q2, w2, hq2, hw2, n0, n1, n2, hx2⟩ := box_node w1 g.nodes[i]!.id A' B' g.nodes[i]!.labels.length c' g.nodes[i]!.props.length d' 54
 rw [hq1] at hq2
 subst hq2
 have HP := Lib.hid (fun W (e : Ext w2 W) => r7_parts g.nodes[i]!.labels g.nodes[i]!.props ok ok A' B' c' d' W (hS.ext ((hx1.trans hx2).trans e)) (hP.ext ((hx1.trans hx2).trans e)) (hs.nodes _ (mem_bang hi)))
 have hd0 := hx1.cell d0
 have hd1 := hx1.cell d1
 have hd2 := hx1.cell d2
 have G0 := hx2.cell g0
 have G1 := hx2.cell g1
 have G2 := hx2.cell g2
 have G3 := hx2.cell g3
 have hpv : 0 < i → w2.cell? ⟨b, o + (i - 1) * 3, none⟩ = some (.int .i64 g.nodes[i - 1]!.id) := fun h => by
  obtain ⟨-, e0, -⟩ := hc (i - 1) (by omega)
  exact hx2.cell (hx1.cell e0)
 obtain ⟨E, hE⟩ : ∃ E, E = nodeE g i := ⟨_, rfl⟩
 rw [← hE]
 have HW1 := Lib.hid hw1
 have HW2 := Lib.hid hw2
 have HG := Lib.hid hq
 have HQ1 := Lib.hid hq1
 have hEx := hx1.trans hx2
 clear hc d0 d1 d2 hg hs hS hP hw1 hw2 hq hx1 hx2 hq1
 rcases Nat.eq_zero_or_pos i with hz | hz
 ·subst hz
  clear hpv
  have HE1 := Lib.hid (fun h => nodeE_1 (g := g) (i := 0) (fun h => absurd h (Nat.lt_irrefl _)) h)
  have HEP := Lib.hid (fun h1 h2 => nodeE_p (g := g) (i := 0) (fun h => absurd h (Nat.lt_irrefl _)) h1 h2)
  rw [← hE] at HE1 HEP
  clear hE
  rw [Nat.zero_mul, Nat.add_zero] at hd0 hd1 hd2
  generalize g.nodes[0]! = x at *
  generalize partsE x.labels x.props = z at *
  generalize g.nn = nn at *
  go_enter Tryz.func55, Tryz.ntmps55
  go_upto_region 1 with (fail)
  rw [← HW1.out, ← HG.out]
  clear HW1 HG
  go_upto_region 2 with (fail)
  rw [← HW2.out, HQ1.out]
  clear HW2 HQ1 g0 g1 g2 g3
  have MKR1 := Lib.hid (fun V (e : Ext w2 V) => (e : Ext w2 V))
  refine wp_region_held_drew (S := (fun V => Ext w2 V)) (by kernel_rfl) ?hs1 (fun hHeld => ?go1)
  case hs1 => (exact MKR1.out _ (by solve_by_elim [X0, X1, X2, X3]))
  refine TK 0 (v := ?v2) hHeld ?hy2 ?_
  case hy2 => (intro w _; go_simp <;> rfl)
  (try simp only [PU])
  refine TK 1 (v := ?v3) hHeld ?hy3 ?_
  case hy3 => (intro w _; go_simp <;> first | with_reducible rfl | rw [if_neg (by omega)] | rw [if_pos (by omega)])
  (try simp only [PU])
  refine TK 2 (v := ?v4) hHeld ?hy4 ?_
  case hy4 => (intro w _; go_simp <;> rfl)
  (try simp only [PU])
  refine TN 3 hHeld ?_
  (try simp only [PU])
  refine TN 4 hHeld ?_
  (try simp only [PU])
  refine TN 5 hHeld ?_
  (try simp only [PU])
  refine TN 6 hHeld ?_
  (try simp only [PU])
  refine TN 7 hHeld ?_
  (try simp only [PU])
  refine TN 8 hHeld ?_
  (try simp only [PU])
  refine TN 9 hHeld ?_
  (try simp only [PU])
  refine TN 10 hHeld ?_
  (try simp only [PU])
  refine TN 11 hHeld ?_
  (try simp only [PU])
  refine TN 12 hHeld ?_
  (try simp only [PU])
  refine TK 13 (v := ?v15) hHeld ?hy15 ?_
  case hy15 => (intro w _; go_simp <;> rfl)
  (try simp only [PU])
  refine wpAnyH_done (by kernel_rfl) ?_ _
  clear hHeld
  clear MKR1
  have gE : Ext w2 w2.drew := (Ext.refl _).drew
  have m0 := gE.cell n0
  have m1 := gE.cell n1
  have m2 := gE.cell n2
  have k2 := gE.cell G2
  by_cases h1 : x.id < 1
  ·go_wp2_with fail
   go_ret
   exact ⟨ret_int (HE1.out (.inl h1)).symm, hEx.trans (by solve_by_elim [X0, X1, X2, X3])⟩
  ·by_cases h2 : nn ≤ x.id
   ·go_wp2_with fail
    go_ret
    exact ⟨ret_int (HE1.out (.inr h2)).symm, hEx.trans (by solve_by_elim [X0, X1, X2, X3])⟩
   ·have HZ := Lib.hid (HEP.out (by omega) (by omega))
    go_wp2_with (go_at_call 81; ((with_reducible refine (HP.out _ (by solve_by_elim [X0, X1, X2, X3])).mono ?_); rintro e w8 ⟨rfl, hx8⟩))
    go_ret
    exact ⟨ret_int HZ.out.symm, hEx.trans (Ext.trans (by solve_by_elim [X0, X1, X2, X3]) hx8)⟩
 ·replace hpv := hpv hz
  by_cases hlt : g.nodes[i - 1]!.id < g.nodes[i]!.id
  ·have HE1 := Lib.hid (fun h => nodeE_1 (g := g) (i := i) (fun _ => hlt) h)
   have HEP := Lib.hid (fun h1 h2 => nodeE_p (g := g) (i := i) (fun _ => hlt) h1 h2)
   rw [← hE] at HE1 HEP
   clear hE
   generalize g.nodes[i]! = x at *
   generalize g.nodes[i - 1]! = y at *
   generalize partsE x.labels x.props = z at *
   generalize g.nn = nn at *
   have ho : ¬ x.id ≤ y.id := by omega
   clear hlt
   go_enter Tryz.func55, Tryz.ntmps55
   go_upto_region 1 with (fail)
   rw [← HW1.out, ← HG.out]
   clear HW1 HG
   go_upto_region 2 with (fail)
   rw [← HW2.out, HQ1.out]
   clear HW2 HQ1 g0 g1 g2 g3
   have p0 : 0 < i := by omega
   have p1 : (1 : Int) ≤ (i : Int) := by omega
   have p2 : ((i : Int) - 1).toNat = i - 1 := by omega
   have p5 : IntKind.i64.wrap ((i : Int) - 1) = (i : Int) - 1 := IntWalk.i64_in _ (by omega)
   have p6 : ((i : Int) - 1) < (g.nodes.length : Int) := by omega
   have MKR2 := Lib.hid (fun V (e : Ext w2 V) => (⟨e.cell G0, e.cell n0, e.cell hpv, e⟩ : V.cell? ⟨q, 0, none⟩ = some (.slice (some ⟨b, o, none⟩) g.nodes.length c) ∧ V.cell? ⟨q + 1, 0, none⟩ = some (.int .i64 x.id) ∧ V.cell? ⟨b, o + (i - 1) * 3, none⟩ = some (.int .i64 y.id) ∧ Ext w2 V))
   refine wp_region_held_drew (S := (fun V => V.cell? ⟨q, 0, none⟩ = some (.slice (some ⟨b, o, none⟩) g.nodes.length c) ∧ V.cell? ⟨q + 1, 0, none⟩ = some (.int .i64 x.id) ∧ V.cell? ⟨b, o + (i - 1) * 3, none⟩ = some (.int .i64 y.id) ∧ Ext w2 V)) (by kernel_rfl) ?hs16 (fun hHeld => ?go16)
   case hs16 => (exact MKR2.out _ (by solve_by_elim [X0, X1, X2, X3]))
   refine TK 0 (v := ?v17) hHeld ?hy17 ?_
   case hy17 => (intro w _; go_simp <;> rfl)
   (try simp only [PU])
   refine TK 1 (v := ?v18) hHeld ?hy18 ?_
   case hy18 => (intro w _; go_simp <;> first | with_reducible rfl | rw [if_neg (by omega)] | rw [if_pos (by omega)])
   (try simp only [PU])
   refine TK 2 (v := ?v19) hHeld ?hy19 ?_
   case hy19 => (intro w _; go_simp <;> rfl)
   (try simp only [PU])
   refine TK 3 (v := ?v20) hHeld ?hy20 ?_
   case hy20 => (intro w _; go_simp <;> rfl)
   (try simp only [PU])
   refine TK 4 (v := ?v21) hHeld ?hy21 ?_
   case hy21 => (intro w hSw; (try dsimp only at hSw); go_simp <;> first | with_reducible rfl | rw [if_neg (by omega)] | rw [if_pos (by omega)])
   (try simp only [PU])
   refine TK 5 (v := ?v22) hHeld ?hy22 ?_
   case hy22 => (intro w _; go_simp <;> rfl)
   (try simp only [PU])
   refine TK 6 (v := ?v23) hHeld ?hy23 ?_
   case hy23 => (intro w hSw; (try dsimp only at hSw); go_simp <;> first | with_reducible rfl | rw [if_neg (by omega)] | rw [if_pos (by omega)])
   (try simp only [PU])
   refine TK 7 (v := ?v24) hHeld ?hy24 ?_
   case hy24 => (intro w _; go_simp <;> rfl)
   (try simp only [PU])
   refine TK 8 (v := ?v25) hHeld ?hy25 ?_
   case hy25 => (intro w _; go_simp <;> first | with_reducible rfl | rw [if_neg (by omega)] | rw [if_pos (by omega)])
   (try simp only [PU])
   refine TK 9 (v := ?v26) hHeld ?hy26 ?_
   case hy26 => (intro w _; go_simp <;> first | with_reducible rfl | rw [if_neg (by omega)] | rw [if_pos (by omega)])
   (try simp only [PU])
   refine TK 10 (v := ?v27) hHeld ?hy27 ?_
   case hy27 => (intro w _; go_simp <;> rfl)
   (try simp only [PU])
   refine TK 11 (v := ?v28) hHeld ?hy28 ?_
   case hy28 => (intro w hSw; (try dsimp only at hSw); go_simp <;> first | with_reducible rfl | rw [if_neg (by omega)] | rw [if_pos (by omega)])
   (try simp only [PU])
   refine TK 12 (v := ?v29) hHeld ?hy29 ?_
   case hy29 => (intro w _; go_simp <;> first | with_reducible rfl | rw [if_neg (by omega)] | rw [if_pos (by omega)])
   (try simp only [PU])
   refine TK 13 (v := ?v30) hHeld ?hy30 ?_
   case hy30 => (intro w _; go_simp <;> rfl)
   (try simp only [PU])
   refine wpAnyH_done (by kernel_rfl) ?_ _
   clear hHeld
   clear MKR2
   clear p0 p1 p2 p5 p6 ho hpv
   have gE : Ext w2 w2.drew := (Ext.refl _).drew
   have m0 := gE.cell n0
   have m1 := gE.cell n1
   have m2 := gE.cell n2
   have k2 := gE.cell G2
   by_cases h1 : x.id < 1
   ·go_wp2_with fail
    go_ret
    exact ⟨ret_int (HE1.out (.inl h1)).symm, hEx.trans (by solve_by_elim [X0, X1, X2, X3])⟩
   ·by_cases h2 : nn ≤ x.id
    ·go_wp2_with fail
     go_ret
     exact ⟨ret_int (HE1.out (.inr h2)).symm, hEx.trans (by solve_by_elim [X0, X1, X2, X3])⟩
    ·have HZ := Lib.hid (HEP.out (by omega) (by omega))
     go_wp2_with (go_at_call 81; ((with_reducible refine (HP.out _ (by solve_by_elim [X0, X1, X2, X3])).mono ?_); rintro e w8 ⟨rfl, hx8⟩))
     go_ret
     exact ⟨ret_int HZ.out.symm, hEx.trans (Ext.trans (by solve_by_elim [X0, X1, X2, X3]) hx8)⟩
  ·have HR := Lib.hid (hE.trans (nodeE_26 hz (by omega)))
   clear hE HP
   generalize g.nodes[i]! = x at *
   generalize g.nodes[i - 1]! = y at *
   have ho : x.id ≤ y.id := by omega
   clear hlt
   go_enter Tryz.func55, Tryz.ntmps55
   go_upto_region 1 with (fail)
   rw [← HW1.out, ← HG.out]
   clear HW1 HG
   go_upto_region 2 with (fail)
   rw [← HW2.out, HQ1.out]
   clear HW2 HQ1 g0 g1 g2 g3
   have p0 : 0 < i := by omega
   have p1 : (1 : Int) ≤ (i : Int) := by omega
   have p2 : ((i : Int) - 1).toNat = i - 1 := by omega
   have p5 : IntKind.i64.wrap ((i : Int) - 1) = (i : Int) - 1 := IntWalk.i64_in _ (by omega)
   have p6 : ((i : Int) - 1) < (g.nodes.length : Int) := by omega
   have MKR3 := Lib.hid (fun V (e : Ext w2 V) => (⟨e.cell G0, e.cell n0, e.cell hpv, e⟩ : V.cell? ⟨q, 0, none⟩ = some (.slice (some ⟨b, o, none⟩) g.nodes.length c) ∧ V.cell? ⟨q + 1, 0, none⟩ = some (.int .i64 x.id) ∧ V.cell? ⟨b, o + (i - 1) * 3, none⟩ = some (.int .i64 y.id) ∧ Ext w2 V))
   refine wp_region_held_drew (S := (fun V => V.cell? ⟨q, 0, none⟩ = some (.slice (some ⟨b, o, none⟩) g.nodes.length c) ∧ V.cell? ⟨q + 1, 0, none⟩ = some (.int .i64 x.id) ∧ V.cell? ⟨b, o + (i - 1) * 3, none⟩ = some (.int .i64 y.id) ∧ Ext w2 V)) (by kernel_rfl) ?hs31 (fun hHeld => ?go31)
   case hs31 => (exact MKR3.out _ (by solve_by_elim [X0, X1, X2, X3]))
   refine TK 0 (v := ?v32) hHeld ?hy32 ?_
   case hy32 => (intro w _; go_simp <;> rfl)
   (try simp only [PU])
   refine TK 1 (v := ?v33) hHeld ?hy33 ?_
   case hy33 => (intro w _; go_simp <;> first | with_reducible rfl | rw [if_neg (by omega)] | rw [if_pos (by omega)])
   (try simp only [PU])
   refine TK 2 (v := ?v34) hHeld ?hy34 ?_
   case hy34 => (intro w _; go_simp <;> rfl)
   (try simp only [PU])
   refine TK 3 (v := ?v35) hHeld ?hy35 ?_
   case hy35 => (intro w _; go_simp <;> rfl)
   (try simp only [PU])
   refine TK 4 (v := ?v36) hHeld ?hy36 ?_
   case hy36 => (intro w hSw; (try dsimp only at hSw); go_simp <;> first | with_reducible rfl | rw [if_neg (by omega)] | rw [if_pos (by omega)])
   (try simp only [PU])
   refine TK 5 (v := ?v37) hHeld ?hy37 ?_
   case hy37 => (intro w _; go_simp <;> rfl)
   (try simp only [PU])
   refine TK 6 (v := ?v38) hHeld ?hy38 ?_
   case hy38 => (intro w hSw; (try dsimp only at hSw); go_simp <;> first | with_reducible rfl | rw [if_neg (by omega)] | rw [if_pos (by omega)])
   (try simp only [PU])
   refine TK 7 (v := ?v39) hHeld ?hy39 ?_
   case hy39 => (intro w _; go_simp <;> rfl)
   (try simp only [PU])
   refine TK 8 (v := ?v40) hHeld ?hy40 ?_
   case hy40 => (intro w _; go_simp <;> first | with_reducible rfl | rw [if_neg (by omega)] | rw [if_pos (by omega)])
   (try simp only [PU])
   refine TK 9 (v := ?v41) hHeld ?hy41 ?_
   case hy41 => (intro w _; go_simp <;> first | with_reducible rfl | rw [if_neg (by omega)] | rw [if_pos (by omega)])
   (try simp only [PU])
   refine TK 10 (v := ?v42) hHeld ?hy42 ?_
   case hy42 => (intro w _; go_simp <;> rfl)
   (try simp only [PU])
   refine TK 11 (v := ?v43) hHeld ?hy43 ?_
   case hy43 => (intro w hSw; (try dsimp only at hSw); go_simp <;> first | with_reducible rfl | rw [if_neg (by omega)] | rw [if_pos (by omega)])
   (try simp only [PU])
   refine TK 12 (v := ?v44) hHeld ?hy44 ?_
   case hy44 => (intro w _; go_simp <;> first | with_reducible rfl | rw [if_neg (by omega)] | rw [if_pos (by omega)])
   (try simp only [PU])
   refine TK 13 (v := ?v45) hHeld ?hy45 ?_
   case hy45 => (intro w _; go_simp <;> rfl)
   (try simp only [PU])
   refine wpAnyH_done (by kernel_rfl) ?_ _
   clear hHeld
   clear MKR3
   go_wp2_with fail
   go_ret
   exact ⟨ret_int HR.out.symm, hEx.trans (by solve_by_elim [X0, X1, X2, X3])⟩
end Go.Proofs.YtnheioehadldmaaGreat

/- GRAPHS THAT COME IN. -/
namespace Go.Proofs.YtnheioehadldmaaGreat
open Go.ChangeShapes Go.WideShapes Go.ChangeAt Go.RowKit
open Go.ChangeMaps (open_string shut_string)
theorem twoL {α : Type} {l : List α} (h : l.length = 2) : ∃ a b, l = [a, b] := by
 match l, h with
 | [a, b], _ => exact ⟨a, b, rfl⟩
theorem three_L {α : Type} {l : List α} (h : l.length = 3) : ∃ a b c, l = [a, b, c] := by
 match l, h with
 | [a, b, c], _ => exact ⟨a, b, c, rfl⟩
theorem four_L {α : Type} {l : List α} (h : l.length = 4) : ∃ a b c d, l = [a, b, c, d] := by
 match l, h with
 | [a, b, c, d], _ => exact ⟨a, b, c, d, rfl⟩
theorem fiveL {α : Type} {l : List α} (h : l.length = 5) : ∃ a b c d e, l = [a, b, c, d, e] := by
 match l, h with
 | [a, b, c, d, e], _ => exact ⟨a, b, c, d, e, rfl⟩
theorem six_L {α : Type} {l : List α} (h : l.length = 6) : ∃ a b c d e f, l = [a, b, c, d, e, f] := by
 match l, h with
 | [a, b, c, d, e, f], _ => exact ⟨a, b, c, d, e, f, rfl⟩
theorem cellsProp : Tryz.prog.cellsOf 100 = 6 := by kernel_rfl
theorem cellsNode : Tryz.prog.cellsOf 54 = 3 := by kernel_rfl
theorem cellsEdge : Tryz.prog.cellsOf 58 = 5 := by kernel_rfl
theorem cellsGraph : Tryz.prog.cellsOf 25 = 4 := by kernel_rfl
theorem cellsProps : Tryz.prog.cellsOf 52 = 1 := by kernel_rfl
theorem cellsNodes : Tryz.prog.cellsOf 22 = 1 := by kernel_rfl
theorem cellsEdges : Tryz.prog.cellsOf 23 = 1 := by kernel_rfl
theorem bytesProp : 0 < Tryz.prog.bytesOf 100 := of_decide_eq_true (by kernel_rfl)
theorem bytesNode : 0 < Tryz.prog.bytesOf 54 := of_decide_eq_true (by kernel_rfl)
theorem bytesEdge : 0 < Tryz.prog.bytesOf 58 := of_decide_eq_true (by kernel_rfl)
section
variable {H : Type} {enc : TypeId × Value → H} {w : World} {base : Nat} {spare : Nat → Bool} {held : Bool}
set_option maxRecDepth 100000 in
theorem open_prop {fuel : Nat} {cs : List Value} {x : DataW H × List MemPlace} (hwt : ∀ k ∈ x.1.weights Tryz.prog 100, k ≤ reachBytes) (h : DataW.trod enc Tryz.prog w base spare held fuel 100 cs = some x) : ∃ v : PropG, (szV v.v) ∧ ∀ b o, (∀ j u, cs[j]? = some u → w.cell? ⟨b, o + j, none⟩ = some u) → PropC w (fun _ => True) b o v := by
 obtain ⟨xs, m, hm, hxx, hl, hlen, hg⟩ := DataW.trod_struct Tryz.underlying100 h
 rw [cellsProp] at hl
 obtain ⟨c0, c1, c2, c3, c4, c5, rfl⟩ := six_L hl
 obtain ⟨y0, y1, rfl⟩ := twoL (show xs.length = 2 from hlen)
 have g0 : DataW.trod enc Tryz.prog w base spare held m 9 (([c0, c1, c2, c3, c4, c5].drop 0).take (Tryz.prog.cellsOf 9)) = some y0 := hg 0 _ rfl
 rw [cellsStr] at g0
 have g1 : DataW.trod enc Tryz.prog w base spare held m 98 (([c0, c1, c2, c3, c4, c5].drop 1).take (Tryz.prog.cellsOf 98)) = some y1 := hg 1 _ rfl
 rw [cellsVal] at g1
 have hwe : ∀ k ∈ DataW.weightsEach Tryz.prog [9, 98] [y0.1, y1.1], k ≤ reachBytes := fun k hk => hwt k (by
  rw [show x.1 = .agg [y0.1, y1.1] from congrArg Prod.fst hxx]
  simp only [DataW.weights, Tryz.underlying100]
  exact hk)
 obtain ⟨s0, e0, x0, -⟩ := DataW.trod_string Tryz.underlying9 g0
 have z0 := str_small x0 (fun k hk => hwe k (DataW.weights_mem_each (j := 0) rfl rfl k hk))
 obtain ⟨v1, z1, d1⟩ := (open_both m).1 _ _ (fun k hk => hwe k (DataW.weights_mem_each (j := 1) rfl rfl k hk)) g1
 cases e0
 refine ⟨⟨s0, v1⟩, z1, fun b o hc => ⟨hc 0 _ rfl, d1 b (o + 1) (fun j u hu => ?_)⟩⟩
 have h6 := hc (j + 1) u (by simpa using hu)
 rwa [show o + (j + 1) = o + 1 + j by omega] at h6
theorem open_props {fuel : Nat} {cs : List Value} {x : DataW H × List MemPlace} (hwt : ∀ k ∈ x.1.weights Tryz.prog 52, k ≤ reachBytes) (h : DataW.trod enc Tryz.prog w base spare held fuel 52 cs = some x) :
  ∃ (l : List PropG) (A : Option Addr) (c : Nat), cs = [.slice A l.length c] ∧ l.length ≤ c ∧ SliceR (PropC w (fun _ => True)) 6 A l ∧ ∀ v ∈ l, szV v.v :=
 slice_gen (α := PropG) Tryz.underlying52 cellsProp bytesProp (by decide) (PropC w (fun _ => True)) (fun v => szV v.v) (fun _ _ _ _ hk hy => open_prop hk hy) hwt h
set_option maxRecDepth 100000 in
theorem open_node {fuel : Nat} {cs : List Value} {x : DataW H × List MemPlace} (hwt : ∀ k ∈ x.1.weights Tryz.prog 54, k ≤ reachBytes) (h : DataW.trod enc Tryz.prog w base spare held fuel 54 cs = some x) : ∃ v : NodeG, (∀ p ∈ v.props, szV p.v) ∧ ∀ b o, (∀ j u, cs[j]? = some u → w.cell? ⟨b, o + j, none⟩ = some u) → NodeC w (fun _ => True) b o v := by
 obtain ⟨xs, m, hm, hxx, hl, hlen, hg⟩ := DataW.trod_struct Tryz.underlying54 h
 rw [cellsNode] at hl
 obtain ⟨c0, c1, c2, rfl⟩ := three_L hl
 obtain ⟨y0, y1, y2, rfl⟩ := three_L (show xs.length = 3 from hlen)
 have g0 : DataW.trod enc Tryz.prog w base spare held m 3 (([c0, c1, c2].drop 0).take (Tryz.prog.cellsOf 3)) = some y0 := hg 0 _ rfl
 rw [cellsInt] at g0
 have g1 : DataW.trod enc Tryz.prog w base spare held m 51 (([c0, c1, c2].drop 1).take (Tryz.prog.cellsOf 51)) = some y1 := hg 1 _ rfl
 rw [cellsStrs] at g1
 have g2 : DataW.trod enc Tryz.prog w base spare held m 52 (([c0, c1, c2].drop 2).take (Tryz.prog.cellsOf 52)) = some y2 := hg 2 _ rfl
 rw [cellsProps] at g2
 have hwe : ∀ k ∈ DataW.weightsEach Tryz.prog [3, 51, 52] [y0.1, y1.1, y2.1], k ≤ reachBytes := fun k hk => hwt k (by
  rw [show x.1 = .agg [y0.1, y1.1, y2.1] from congrArg Prod.fst hxx]
  simp only [DataW.weights, Tryz.underlying54]
  exact hk)
 obtain ⟨k0, e0, -, -⟩ := DataW.trod_int (k := .i64) Tryz.underlying3 g0
 obtain ⟨l1, A1, c1', e1, n1, v1, z1⟩ := open_strs Tryz.underlying51 (fun k hk => hwe k (DataW.weights_mem_each (j := 1) rfl rfl k hk)) g1
 obtain ⟨l2, A2, c2', e2, n2, v2, z2⟩ := open_props (fun k hk => hwe k (DataW.weights_mem_each (j := 2) rfl rfl k hk)) g2
 cases e0; cases e1; cases e2
 exact ⟨⟨k0, l1, l2⟩, z2, fun b o hc => ⟨trivial, hc 0 _ rfl, A1, c1', A2, c2', hc 1 _ rfl, n1, v1, hc 2 _ rfl, n2, v2⟩⟩
theorem open_nodes {fuel : Nat} {cs : List Value} {x : DataW H × List MemPlace} (hwt : ∀ k ∈ x.1.weights Tryz.prog 22, k ≤ reachBytes) (h : DataW.trod enc Tryz.prog w base spare held fuel 22 cs = some x) :
  ∃ (l : List NodeG) (A : Option Addr) (c : Nat), cs = [.slice A l.length c] ∧ l.length ≤ c ∧ SliceR (NodeC w (fun _ => True)) 3 A l ∧ ∀ v ∈ l, ∀ p ∈ v.props, szV p.v :=
 slice_gen (α := NodeG) Tryz.underlying22 cellsNode bytesNode (by decide) (NodeC w (fun _ => True)) (fun v => ∀ p ∈ v.props, szV p.v) (fun _ _ _ _ hk hy => open_node hk hy) hwt h
set_option maxRecDepth 100000 in
theorem open_edge {fuel : Nat} {cs : List Value} {x : DataW H × List MemPlace} (hwt : ∀ k ∈ x.1.weights Tryz.prog 58, k ≤ reachBytes) (h : DataW.trod enc Tryz.prog w base spare held fuel 58 cs = some x) : ∃ v : EdgeG, (∀ p ∈ v.props, szV p.v) ∧ ∀ b o, (∀ j u, cs[j]? = some u → w.cell? ⟨b, o + j, none⟩ = some u) → EdgeC w (fun _ => True) b o v := by
 obtain ⟨xs, m, hm, hxx, hl, hlen, hg⟩ := DataW.trod_struct Tryz.underlying58 h
 rw [cellsEdge] at hl
 obtain ⟨c0, c1, c2, c3, c4, rfl⟩ := fiveL hl
 obtain ⟨y0, y1, y2, y3, y4, rfl⟩ := fiveL (show xs.length = 5 from hlen)
 have g0 : DataW.trod enc Tryz.prog w base spare held m 3 (([c0, c1, c2, c3, c4].drop 0).take (Tryz.prog.cellsOf 3)) = some y0 := hg 0 _ rfl
 rw [cellsInt] at g0
 have g1 : DataW.trod enc Tryz.prog w base spare held m 3 (([c0, c1, c2, c3, c4].drop 1).take (Tryz.prog.cellsOf 3)) = some y1 := hg 1 _ rfl
 rw [cellsInt] at g1
 have g2 : DataW.trod enc Tryz.prog w base spare held m 3 (([c0, c1, c2, c3, c4].drop 2).take (Tryz.prog.cellsOf 3)) = some y2 := hg 2 _ rfl
 rw [cellsInt] at g2
 have g3 : DataW.trod enc Tryz.prog w base spare held m 9 (([c0, c1, c2, c3, c4].drop 3).take (Tryz.prog.cellsOf 9)) = some y3 := hg 3 _ rfl
 rw [cellsStr] at g3
 have g4 : DataW.trod enc Tryz.prog w base spare held m 52 (([c0, c1, c2, c3, c4].drop 4).take (Tryz.prog.cellsOf 52)) = some y4 := hg 4 _ rfl
 rw [cellsProps] at g4
 have hwe : ∀ k ∈ DataW.weightsEach Tryz.prog [3, 3, 3, 9, 52] [y0.1, y1.1, y2.1, y3.1, y4.1], k ≤ reachBytes := fun k hk => hwt k (by
  rw [show x.1 = .agg [y0.1, y1.1, y2.1, y3.1, y4.1] from congrArg Prod.fst hxx]
  simp only [DataW.weights, Tryz.underlying58]
  exact hk)
 obtain ⟨k0, e0, -, -⟩ := DataW.trod_int (k := .i64) Tryz.underlying3 g0
 obtain ⟨k1, e1, -, -⟩ := DataW.trod_int (k := .i64) Tryz.underlying3 g1
 obtain ⟨k2, e2, -, -⟩ := DataW.trod_int (k := .i64) Tryz.underlying3 g2
 obtain ⟨s3, e3, x3, -⟩ := DataW.trod_string Tryz.underlying9 g3
 have z3 := str_small x3 (fun k hk => hwe k (DataW.weights_mem_each (j := 3) rfl rfl k hk))
 obtain ⟨l4, A4, c4', e4, n4, v4, z4⟩ := open_props (fun k hk => hwe k (DataW.weights_mem_each (j := 4) rfl rfl k hk)) g4
 cases e0; cases e1; cases e2; cases e3; cases e4
 exact ⟨⟨k0, k1, k2, s3, l4⟩, z4, fun b o hc => ⟨trivial, hc 0 _ rfl, hc 1 _ rfl, hc 2 _ rfl, hc 3 _ rfl, A4, c4', hc 4 _ rfl, n4, v4⟩⟩
theorem open_edges {fuel : Nat} {cs : List Value} {x : DataW H × List MemPlace} (hwt : ∀ k ∈ x.1.weights Tryz.prog 23, k ≤ reachBytes) (h : DataW.trod enc Tryz.prog w base spare held fuel 23 cs = some x) :
  ∃ (l : List EdgeG) (A : Option Addr) (c : Nat), cs = [.slice A l.length c] ∧ l.length ≤ c ∧ SliceR (EdgeC w (fun _ => True)) 5 A l ∧ ∀ v ∈ l, ∀ p ∈ v.props, szV p.v :=
 slice_gen (α := EdgeG) Tryz.underlying23 cellsEdge bytesEdge (by decide) (EdgeC w (fun _ => True)) (fun v => ∀ p ∈ v.props, szV p.v) (fun _ _ _ _ hk hy => open_edge hk hy) hwt h
set_option maxRecDepth 100000 in
/-- a graph that reads -/
theorem open_graph {r : Reach} {b0 : Nat} {v : Value} {dd : DataW H} {p : List MemPlace} (hv : Value.okWide Tryz.prog w r b0 25 v) (hwt0 : ∀ k ∈ dd.weights Tryz.prog 25, k ≤ reachBytes) (h0 : DataW.Trod enc Tryz.prog w base spare held 25 v dd p) :
  ∃ (g : GraphG) (A B : Option Addr) (c d : Nat), v = .agg #[.slice A g.nodes.length c, .slice B g.edges.length d, .int .i64 g.nn, .int .i64 g.ne] ∧ g.nodes.length ≤ c ∧ g.edges.length ≤ d ∧ GraphAt w (fun _ => True) A B g ∧ SzG g := by
 obtain ⟨csa, rfl, -⟩ := okWide_struct Tryz.underlying25 hv
 obtain ⟨fuel, hf⟩ := h0
 obtain ⟨cs, rfl⟩ : ∃ cs : List Value, csa = cs.toArray := ⟨csa.toList, by simp⟩
 obtain ⟨x, hx⟩ : ∃ x : DataW H × List MemPlace, x = (dd, p) := ⟨_, rfl⟩
 rw [← hx] at hf
 have hwt : ∀ k ∈ x.1.weights Tryz.prog 25, k ≤ reachBytes := by rw [hx]; exact hwt0
 have h : DataW.trod enc Tryz.prog w base spare held fuel 25 cs = some x := by simpa [Value.cells] using hf
 obtain ⟨xs, m, hm, hxx, hl, hlen, hg⟩ := DataW.trod_struct Tryz.underlying25 h
 rw [cellsGraph] at hl
 obtain ⟨c0, c1, c2, c3, rfl⟩ := four_L hl
 obtain ⟨y0, y1, y2, y3, rfl⟩ := four_L (show xs.length = 4 from hlen)
 have g0 : DataW.trod enc Tryz.prog w base spare held m 22 (([c0, c1, c2, c3].drop 0).take (Tryz.prog.cellsOf 22)) = some y0 := hg 0 _ rfl
 rw [cellsNodes] at g0
 have g1 : DataW.trod enc Tryz.prog w base spare held m 23 (([c0, c1, c2, c3].drop 1).take (Tryz.prog.cellsOf 23)) = some y1 := hg 1 _ rfl
 rw [cellsEdges] at g1
 have g2 : DataW.trod enc Tryz.prog w base spare held m 3 (([c0, c1, c2, c3].drop 2).take (Tryz.prog.cellsOf 3)) = some y2 := hg 2 _ rfl
 rw [cellsInt] at g2
 have g3 : DataW.trod enc Tryz.prog w base spare held m 3 (([c0, c1, c2, c3].drop 3).take (Tryz.prog.cellsOf 3)) = some y3 := hg 3 _ rfl
 rw [cellsInt] at g3
 have hwe : ∀ k ∈ DataW.weightsEach Tryz.prog [22, 23, 3, 3] [y0.1, y1.1, y2.1, y3.1], k ≤ reachBytes := fun k hk => hwt k (by
  rw [show x.1 = .agg [y0.1, y1.1, y2.1, y3.1] from congrArg Prod.fst hxx]
  simp only [DataW.weights, Tryz.underlying25]
  exact hk)
 obtain ⟨l0, A0, c0', e0, n0, v0, z0⟩ := open_nodes (fun k hk => hwe k (DataW.weights_mem_each (j := 0) rfl rfl k hk)) g0
 obtain ⟨l1, A1, c1', e1, n1, v1, z1⟩ := open_edges (fun k hk => hwe k (DataW.weights_mem_each (j := 1) rfl rfl k hk)) g1
 obtain ⟨k2, e2, -, -⟩ := DataW.trod_int (k := .i64) Tryz.underlying3 g2
 obtain ⟨k3, e3, -, -⟩ := DataW.trod_int (k := .i64) Tryz.underlying3 g3
 cases e0; cases e1; cases e2; cases e3
 exact ⟨⟨l0, l1, k2, k3⟩, A0, A1, c0', c1', rfl, n0, n1, ⟨v0, v1⟩, ⟨z0, z1⟩⟩
end
end Go.Proofs.YtnheioehadldmaaGreat

/- PLAIN: numbers as bytes, seven bits at a time; reading undoes writing. -/
namespace Go.Proofs.YtnheioehadldmaaGreat
/-- the bytes of a number -/
def vi (u : Nat) : List Nat := if u < 128 then [u] else (u % 128 + 128) :: vi (u / 128)
termination_by u
decreasing_by omega
theorem vi_small {u : Nat} (h : u < 128) : vi u = [u] := by rw [vi, if_pos h]
theorem vi_big {u : Nat} (h : 128 ≤ u) : vi u = (u % 128 + 128) :: vi (u / 128) := by rw [vi, if_neg (by omega)]
theorem vi_len : ∀ (f u : Nat), u < 128 ^ (f + 1) → (vi u).length ≤ f + 1
 | 0, u, h => by rw [vi_small (by simpa using h)]; simp
 | f + 1, u, h => by
  rcases Nat.lt_or_ge u 128 with h1 | h1
  ·rw [vi_small h1]; simp
  ·rw [vi_big h1, List.length_cons]
   have := vi_len f (u / 128) (by rw [Nat.pow_succ] at h; exact Nat.div_lt_of_lt_mul (by omega))
   omega
theorem vi_len10 {u : Nat} (h : u < 18446744073709551616) : (vi u).length ≤ 10 := vi_len 9 u (by omega)
theorem vi_ne (u : Nat) : vi u ≠ [] := by rw [vi]; split <;> simp
/-- reading: how many bytes may come; what is left behind -/
def rdF : Nat → List Nat → Except Int (Nat × List Nat)
 | 0, _ => .error 4
 | _ + 1, [] => .error 3
 | f + 1, c :: l => if 128 ≤ c then (match rdF f l with
   | .ok (u, r) => .ok (c % 128 + 128 * u, r)
   | .error e => .error e) else if f = 0 ∧ 1 < c then .error 4 else if f < 9 ∧ c = 0 then .error 2 else .ok (c, l)
theorem rdF_inv : ∀ (f : Nat) (l : List Nat) (u : Nat) (r : List Nat), f ≤ 9 → (∀ c ∈ l, c < 256) → rdF (f + 1) l = .ok (u, r) → l = vi u ++ r ∧ u < 2 * 128 ^ f ∧ (f < 9 → 0 < u)
 | _, [], u, r, _, _, h => by rw [rdF] at h; cases h
 | 0, c :: l, u, r, _, hb, h => by
  rw [rdF] at h
  split at h
  ·rw [rdF] at h; cases h
  ·rename_i h1
   split at h
   ·cases h
   ·rename_i h2
    split at h
    ·cases h
    ·rename_i h3
     injection h with h
     injection h with e1 e2
     subst e1; subst e2
     exact ⟨by rw [vi_small (by omega)]; rfl, by omega, fun _ => by omega⟩
 | f + 1, c :: l, u, r, h9, hb, h => by
  rw [rdF] at h
  split at h
  ·rename_i h1
   cases h2 : rdF (f + 1) l with
   | error e => rw [h2] at h; cases h
   | ok p =>
    obtain ⟨u', r'⟩ := p
    rw [h2] at h
    injection h with h
    injection h with e1 e2
    obtain ⟨k1, k2, k3⟩ := rdF_inv f l u' r' (by omega) (fun x hx => hb x (by simp [hx])) h2
    have hc := hb c (by simp)
    subst e2
    have hu := k3 (by omega)
    rw [← e1]
    refine ⟨?_, by rw [Nat.pow_succ]; omega, fun _ => by omega⟩
    rw [vi_big (by omega), show (c % 128 + 128 * u') % 128 + 128 = c by omega, show (c % 128 + 128 * u') / 128 = u' by omega, k1]
    rfl
  ·rename_i h1
   split at h
   ·cases h
   ·rename_i h2
    split at h
    ·cases h
    ·rename_i h3
     injection h with h
     injection h with e1 e2
     subst e1; subst e2
     exact ⟨by rw [vi_small (by omega)]; rfl, by rw [Nat.pow_succ]; have := Nat.pow_pos (n := f) (show 0 < 128 by decide); omega, fun _ => by omega⟩
/-- a signed number as an unsigned one -/
def zig (n : Int) : Nat := if n < 0 then 2 * (-(n + 1)).toNat + 1 else 2 * n.toNat
def zag (u : Nat) : Int := if u % 2 = 1 then -((u / 2 : Nat) : Int) - 1 else ((u / 2 : Nat) : Int)
theorem zig_lt {n : Int} (h : -9223372036854775808 ≤ n ∧ n ≤ 9223372036854775807) : zig n < 18446744073709551616 := by unfold zig; split <;> omega
/-- reading a number -/
def uE (l : List Nat) : Except Int (Nat × List Nat) := match rdF 10 l with
 | .ok (u, r) => if u ≤ 9223372036854775807 then .ok (u, r) else .error 4
 | .error e => .error e
def iE (l : List Nat) : Except Int (Int × List Nat) := match rdF 10 l with
 | .ok (u, r) => .ok (zag u, r)
 | .error e => .error e
/-- what is left is the end of what came -/
theorem rdF_drop : ∀ (f : Nat) (l : List Nat) (u : Nat) (r : List Nat), rdF f l = .ok (u, r) → ∃ k, 0 < k ∧ k ≤ l.length ∧ r = l.drop k
 | 0, _, _, _, h => by rw [rdF] at h; cases h
 | _ + 1, [], _, _, h => by rw [rdF] at h; cases h
 | f + 1, c :: l, u, r, h => by
  rw [rdF] at h
  split at h
  ·cases h2 : rdF f l with
   | error e => rw [h2] at h; cases h
   | ok p =>
    obtain ⟨u', r'⟩ := p
    rw [h2] at h
    injection h with h
    injection h with e1 e2
    obtain ⟨k, k1, k2, k3⟩ := rdF_drop f l u' r' h2
    exact ⟨k + 1, by omega, by simp; omega, by rw [← e2, k3]; rfl⟩
  ·split at h
   ·cases h
   ·split at h
    ·cases h
    ·injection h with h
     injection h with e1 e2
     exact ⟨1, by omega, by simp, by rw [← e2]; rfl⟩
end Go.Proofs.YtnheioehadldmaaGreat

/- ENTRIES (api.Adj): three ints; plain and in memory. -/
namespace Go.Proofs.YtnheioehadldmaaGreat
open Go.RowKit
/-- an entry: id: where it begins, n: where it leads, d: its edge -/
structure Sh where
 id : Int
 n : Int
 d : Int
deriving DecidableEq
instance : Inhabited Sh := ⟨⟨0, 0, 0⟩⟩
def ShC (w : World) (ok : Nat → Prop) (b o : Nat) (s : Sh) : Prop := ok b ∧ w.cell? ⟨b, o, none⟩ = some (.int .i64 s.id) ∧ w.cell? ⟨b, o + 1, none⟩ = some (.int .i64 s.n) ∧ w.cell? ⟨b, o + 2, none⟩ = some (.int .i64 s.d)
def Shares (w : World) (ok : Nat → Prop) (A : Option Addr) (l : List Sh) : Prop := SliceR (ShC w ok) 3 A l
theorem Shares.keep {w w' : World} {ok ok' : Nat → Prop} {A : Option Addr} {l : List Sh} (h : Shares w ok A l) (hk : ∀ b o x, ok b → w.cell? ⟨b, o, none⟩ = some x → w'.cell? ⟨b, o, none⟩ = some x ∧ ok' b) : Shares w' ok' A l := SliceR.mono h (fun _ _ _ _ hx => ⟨(hk _ _ _ hx.1 hx.2.1).2, (hk _ _ _ hx.1 hx.2.1).1, (hk _ _ _ hx.1 hx.2.2.1).1, (hk _ _ _ hx.1 hx.2.2.2).1⟩)
theorem Shares.ext {w w' : World} {ok : Nat → Prop} {A : Option Addr} {l : List Sh} (h : Shares w ok A l) (e : Ext w w') : Shares w' ok A l := h.keep (fun _ _ _ hb hc => ⟨e.cell hc, hb⟩)
theorem Shares.at_ {w : World} {ok : Nat → Prop} {A : Option Addr} {l : List Sh} (h : Shares w ok A l) {i : Nat} (hi : i < l.length) : ∃ b o, A = some ⟨b, o, none⟩ ∧ ∀ k, k < l.length → ShC w ok b (o + k * 3) l[k]! := by
 obtain ⟨b, o, hA, hc⟩ := h.2 (by omega)
 exact ⟨b, o, hA, fun k hk => by rw [getElem!_pos l k hk]; exact hc k hk⟩
def Sh.cells (s : Sh) : List Value := [.int .i64 s.id, .int .i64 s.n, .int .i64 s.d]
theorem Sh.cells_one (s : Sh) : ∀ u ∈ s.cells, u.oneCell' = true := by
 intro u hu
 simp only [Sh.cells, List.mem_cons, List.not_mem_nil, or_false] at hu
 rcases hu with rfl | rfl | rfl <;> rfl
theorem El_adj : ElT Tryz.prog 42 41 3 24 := ⟨Tryz.underlying42, ⟨.agg #[.int .i64 0, .int .i64 0, .int .i64 0], by kernel_rfl, rfl⟩, by decide⟩
theorem shares_of_own {w : World} {base e : Nat} {v : Value} {n : Nat} {l : List Sh} (h : w.ownsRow base e 3 v n (l.flatMap Sh.cells)) (hn : n = l.length) (hm : l.length ≤ 140737488355328) : ∃ A c, v = .slice A l.length c ∧ l.length ≤ c ∧ Shares w (fun b => base ≤ b) A l :=
 own_sliceR (cs := l.map Sh.cells) (by rw [← List.flatMap_def]; exact h) hn (by simp) (by simp [Sh.cells]) hm (fun g hg _ k hk h' hu => ⟨hg, by have := hu 0 (.int .i64 l[k].id) (by simp [Sh.cells]); simpa using this, by have := hu 1 (.int .i64 l[k].n) (by simp [Sh.cells]); simpa using this, by have := hu 2 (.int .i64 l[k].d) (by simp [Sh.cells]); simpa using this⟩)
end Go.Proofs.YtnheioehadldmaaGreat
