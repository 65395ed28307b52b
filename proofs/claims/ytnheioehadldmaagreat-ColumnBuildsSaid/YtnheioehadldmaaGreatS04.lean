/- PARTS OF THE WALKS, joined: Idx, Rb, Ga, Gb, Push, El. -/
import Derived.Test.YtnheioehadldmaaGreatS00
import Derived.WalkKit
import Derived.Test.YtnheioehadldmaaGreatS03
import Derived.Test.YtnheioehadldmaaGreatS02
import Derived.WalkLawsBesides
import Derived.Deep.RegionHeld3
import Derived.Deep.QuietTactic
import Derived.BigQuiet
import Derived.Deep.Cut
import Derived.Maps.AppendAt
import Derived.Test.YtnheioehadldmaaGreatS01
/- THE FIRST PLACE OF A KIND in a list; strings compared; a function value entered. -/
namespace Go.Proofs.YtnheioehadldmaaGreat
open Go.RowKit
theorem run_enter {P : Program} {f : FuncId} {fn : Func} {c : Code} (hf : P.funcs[f]? = some fn) (hname : (fn.name == "runtime.NumGoroutine") = false) (hb : fn.body = some c) (args : Array Value) (w : World) : (callFunc f args).run P w = .ok (.enter f args) w := by
 have h1 : fn.name ≠ "runtime.NumGoroutine" := by simpa using hname
 simp [callFunc, hf, h1, hb]
/-- the first place whose element is told, or -1 -/
def idxF {α : Type} (p : α → Bool) (l : List α) : Int := match l.findIdx? p with | some i => (i : Int) | none => -1
theorem idxF_none {α : Type} {p : α → Bool} {l : List α} (h : ∀ i (hi : i < l.length), p l[i] = false) : idxF p l = -1 := by
 have : l.findIdx? p = none := List.findIdx?_eq_none_iff.2 (fun x hx => by obtain ⟨i, hi, rfl⟩ := List.getElem_of_mem hx; exact h i hi)
 unfold idxF; rw [this]
theorem idxF_at {α : Type} {p : α → Bool} {l : List α} (i : Nat) (hi : i < l.length) (h1 : ∀ j (hj : j < l.length), j < i → p l[j] = false) (h2 : p l[i] = true) : idxF p l = (i : Int) := by
 have : l.findIdx? p = some i := List.findIdx?_eq_some_iff_getElem.2 ⟨hi, h2, fun j hj => by rw [h1 j (by omega) hj]; exact Bool.false_ne_true⟩
 unfold idxF; rw [this]
theorem idxF_any {α : Type} (p : α → Bool) (l : List α) : decide (idxF p l ≥ 0) = l.any p := by
 unfold idxF
 cases h : l.findIdx? p with
 | none => rw [show l.any p = false by rw [List.any_eq_false]; exact fun x hx => by rw [List.findIdx?_eq_none_iff.1 h x hx]; exact Bool.false_ne_true]; rfl
 | some i =>
  obtain ⟨hi, h2, -⟩ := List.findIdx?_eq_some_iff_getElem.1 h
  rw [List.any_eq_true.2 ⟨l[i], List.getElem_mem hi, h2⟩]
  exact decide_eq_true (Int.natCast_nonneg i)
theorem str_eq {a b : ByteArray} (h : a = b) : (a.toList == b.toList) = true := by rw [h]; simp
theorem str_ne {a b : ByteArray} (h : a ≠ b) : (a.toList == b.toList) = false := by
 rw [beq_eq_false_iff_ne]
 intro e
 exact h (bytes_eq e)
end Go.Proofs.YtnheioehadldmaaGreat

/- THE WALKS over the reference's path, list, valid, Valid. -/
namespace Go.Proofs.YtnheioehadldmaaGreat
open Go.RowKit
theorem r4_leaf (k n d : Int) (s : ByteArray) (m : Nat) (A : Option Addr) (c : Nat) (nest : Int) (w : World) (h7 : k ≠ 7) (h8 : k ≠ 8) (hs : s.size ≤ 140737488355328) : Calls Tryz.prog 121 #[.agg #[.int .i64 k, .int .i64 n, .int .i64 d, .string s, .slice A m c], .int .i64 nest] w fun e w' => e = .returned (.bool (leafF k n d s m)) ∧ Ext w w' := by
 by_cases h0 : k = 0
 ·subst h0; exact r4_valid0 n d s m A c nest w hs
 by_cases h1 : k = 1
 ·subst h1; exact r4_valid1 n d s m A c nest w hs
 by_cases h2 : k = 2
 ·subst h2; exact r4_valid2 n d s m A c nest w hs
 by_cases h3 : k = 3
 ·subst h3; exact r4_valid3 n d s m A c nest w hs
 by_cases h4 : k = 4
 ·subst h4; exact r4_valid4 n d s m A c nest w hs
 by_cases h5 : k = 5
 ·subst h5; exact r4_valid5 n d s m A c nest w hs
 by_cases h6 : k = 6
 ·subst h6; exact r4_valid6 n d s m A c nest w hs
 exact r4_valido k (by simp only [beq_eq_false_iff_ne]; exact ⟨h0, h1, h2, h3, h4, h5, h6, h7, h8⟩) n d s m A c nest w hs
set_option maxRecDepth 100000 in
set_option maxHeartbeats 3200000 in
theorem r4_path (l : List Val) (ok : Nat → Prop) (A : Option Addr) (c : Nat) (w : World) (hv : Vals w ok A l) (hsz : szL l) : Calls Tryz.prog 129 #[.slice A l.length c] w fun e w' => e = .returned (.bool (pathB l)) ∧ Ext w w' := by
 have hm := hv.len
 have HV := Lib.hid hv
 have HZ := Lib.hid (fun (x : Val) (hx : x ∈ l) => (szV_iff.1 (szL_mem hsz hx)).1)
 clear hv hsz
 by_cases h1 : l.length % 2 = 0
 ·have HF := Lib.hid (pathB_odd h1)
  have h1' : ((l.length : Int) % 2) = 0 := by omega
  go_enter Tryz.func129, Tryz.ntmps129
  go_wp2
  go_ret
  exact ⟨ret_bool HF.out.symm, Ext.refl _⟩
 ·have h1' : ((l.length : Int) % 2) = 1 := by omega
  by_cases h2 : 25 < l.length
  ·have HF := Lib.hid (pathB_long h2)
   go_enter Tryz.func129, Tryz.ntmps129
   go_wp2
   go_ret
   exact ⟨ret_bool HF.out.symm, Ext.refl _⟩
  ·have h3 : l.length % 2 = 1 := by omega
   have HY := Lib.hid (fun h => pathB_yes (l := l) h3 (by omega) h)
   have HN := Lib.hid (fun i (h : i < l.length) hg => pathB_no (l := l) h hg)
   have h25 : decide ((25 : Int) < (l.length : Int)) = false := by simp; omega
   clear h1 h2 h3
   go_enter Tryz.func129, Tryz.ntmps129
   go_wp2
   clear h1' h25
   go_loopw [3] (fun u W => ∃ k : Nat, u = .int .i64 k ∧ k ≤ l.length ∧ Hid (∀ j, j < k → goodP l j = true) ∧ Ext w W) (fun u _ => l.length - (intOf u).toNat)
   case atStart => exact ⟨0, rfl, Nat.zero_le _, Lib.hid (fun j hj => absurd hj (Nat.not_lt_zero _)), Ext.refl _⟩
   case round =>
    obtain ⟨k, rfl, hk, hgd, hE⟩ := hrel
    by_cases hlt : k < l.length
    ·obtain ⟨b, o, rfl, hc⟩ := HV.out.2 (by omega)
     obtain ⟨-, A', c', h5, -, hv'⟩ := VCells.iff.1 (hc k hlt)
     obtain ⟨d0, d1, d2, d3, d4⟩ := h5.ext hE
     have hm' := hv'.len
     have hsz' := HZ.out l[k] (List.getElem_mem hlt)
     have HS := Lib.hid (fun (h : goodP l k = true) j (hj : j < k + 1) => (if e : j = k then e ▸ h else hgd.out j (by omega) : goodP l j = true))
     have HG := Lib.hid (show goodP l k = (decide (l[k].kind = stepK k) && leafF l[k].kind l[k].n l[k].d l[k].s l[k].l.length) by unfold goodP; rw [getV hlt, leafB_eq])
     have HN' := Lib.hid (HN.out k hlt)
     clear hc h5 hv' HN
     generalize l[k] = x at d0 d1 d2 d3 d4 HG hm' hsz'
     rcases Nat.mod_two_eq_zero_or_one k with hp | hp
     ·have hst : stepK k = 5 := by unfold stepK; rw [if_pos hp]
      have hpi : ((k : Int) % 2) = 0 := by omega
      rw [hst] at HG
      clear hp hst
      by_cases hk5 : x.kind = 5
      ·rw [hk5] at d0 HG
       have C := fun W => r4_leaf 5 x.n x.d x.s x.l.length A' c' 0 W (by omega) (by omega) hsz'
       generalize leafF 5 x.n x.d x.s x.l.length = q at C HG
       have HC := Lib.hid C
       clear C hk5
       cases q
       ·have HF := Lib.hid (HN'.out (by rw [HG.out, Bool.and_false]))
        clear HG
        go_wp2_with (go_at_call 121; ((with_reducible refine (HC.out _).mono ?_); rintro e w' ⟨rfl, hb⟩; have hb' : Ext wr w' := Ext.trans (by solve_by_elim [X0, X1, X2, X3]) hb))
        go_ret
        exact ⟨ret_bool HF.out.symm, hE.trans hb'⟩
       ·have HT := Lib.hid (HS.out (by rw [HG.out]; rfl))
        clear HG
        go_wp2_with (go_at_call 121; ((with_reducible refine (HC.out _).mono ?_); rintro e w' ⟨rfl, hb⟩; have hb' : Ext wr w' := Ext.trans (by solve_by_elim [X0, X1, X2, X3]) hb))
        go_roundw
        case rel => exact ⟨k + 1, by go_num, by omega, HT, hE.trans hb'⟩
        case measure => simp [intOf]; omega
      ·have HF := Lib.hid (HN'.out (by rw [HG.out, decide_eq_false hk5]; rfl))
       have hk5' : (x.kind != 5) = true := by simpa using hk5
       clear HG hk5
       go_wp2_with fail
       go_ret
       exact ⟨ret_bool HF.out.symm, hE.trans (by solve_by_elim [X0, X1, X2, X3])⟩
     ·have hst : stepK k = 6 := by unfold stepK; rw [if_neg (by omega)]
      have hpi : ((k : Int) % 2) = 1 := by omega
      rw [hst] at HG
      clear hp hst
      by_cases hk5 : x.kind = 6
      ·rw [hk5] at d0 HG
       have C := fun W => r4_leaf 6 x.n x.d x.s x.l.length A' c' 0 W (by omega) (by omega) hsz'
       generalize leafF 6 x.n x.d x.s x.l.length = q at C HG
       have HC := Lib.hid C
       clear C hk5
       cases q
       ·have HF := Lib.hid (HN'.out (by rw [HG.out, Bool.and_false]))
        clear HG
        go_wp2_with (go_at_call 121; ((with_reducible refine (HC.out _).mono ?_); rintro e w' ⟨rfl, hb⟩; have hb' : Ext wr w' := Ext.trans (by solve_by_elim [X0, X1, X2, X3]) hb))
        go_ret
        exact ⟨ret_bool HF.out.symm, hE.trans hb'⟩
       ·have HT := Lib.hid (HS.out (by rw [HG.out]; rfl))
        clear HG
        go_wp2_with (go_at_call 121; ((with_reducible refine (HC.out _).mono ?_); rintro e w' ⟨rfl, hb⟩; have hb' : Ext wr w' := Ext.trans (by solve_by_elim [X0, X1, X2, X3]) hb))
        go_roundw
        case rel => exact ⟨k + 1, by go_num, by omega, HT, hE.trans hb'⟩
        case measure => simp [intOf]; omega
      ·have HF := Lib.hid (HN'.out (by rw [HG.out, decide_eq_false hk5]; rfl))
       have hk5' : (x.kind != 6) = true := by simpa using hk5
       clear HG hk5
       go_wp2_with fail
       go_ret
       exact ⟨ret_bool HF.out.symm, hE.trans (by solve_by_elim [X0, X1, X2, X3])⟩
    ·have hk' : k = l.length := by omega
     have HF := Lib.hid (HY.out (fun j hj => hgd.out j (by omega)))
     go_wp2
     go_ret
     exact ⟨ret_bool HF.out.symm, hE⟩
set_option maxRecDepth 100000 in
set_option maxHeartbeats 1600000 in
theorem r4_valid7 (n d : Int) (s : ByteArray) (l : List Val) (ok : Nat → Prop) (A : Option Addr) (c : Nat) (nest : Int) (w : World) (hv : Vals w ok A l) (hsz : szL l) : Calls Tryz.prog 121 #[.agg #[.int .i64 7, .int .i64 n, .int .i64 d, .string s, .slice A l.length c], .int .i64 nest] w fun e w' => e = .returned (.bool (decide (n = 0) && decide (d = 0) && decide (s.size = 0) && pathB l)) ∧ Ext w w' := by
 obtain ⟨g, w1, hg, hw1, ⟨c0, c1, c2, c3, c4⟩, hx, -⟩ := box5 w 7 n d s A l.length c 98
 have HW1 := Lib.hid hw1
 have HG := Lib.hid hg
 have HC := Lib.hid (fun W (e : Ext w1 W) => r4_path l ok A c W (hv.ext (hx.trans e)) hsz)
 clear hw1 hg hv hsz
 go_enter Tryz.func121, Tryz.ntmps121
 go_upto_region 1 with (fail)
 rw [← HW1.out, ← HG.out]
 clear HW1 HG
 go_wp2_with (first | (go_at_call 125; ((with_reducible refine (r4_bare_ffft _ _ _ _ _ _ _ _).mono ?_); rintro e w' ⟨rfl, hb⟩; have hb1 : Ext w1 w' := hb; replace c0 := hb1.cell c0; replace c1 := hb1.cell c1; replace c2 := hb1.cell c2; replace c3 := hb1.cell c3; replace c4 := hb1.cell c4)) | (go_at_call 129; ((with_reducible refine (HC.out _ hb1).mono ?_); rintro e w' ⟨rfl, hb⟩; have hb2 : Ext _ w' := hb)))
 all_goals
  go_ret
  refine ⟨ret_bool ?_, (by first | exact hx | exact Ext.trans hx (by assumption) | exact Ext.trans hx (Ext.trans hb1 (by assumption)))⟩
  clear c0 c1 c2 c3 c4 HC
  (try simp only [nil_iff] at *)
  unfold bareF at *
  generalize pathB l = q at *
  first | (simp_all; done) | (simp_all; omega)
/-- the reference's valid at values inside which j lists may be nested -/
def ValidAtR (j : Nat) : Prop := ∀ (nest : Int) (v : Val) (ok : Nat → Prop) (A : Option Addr) (c : Nat) (w : World), nest = j → Vals w ok A v.l → szV v →
 Calls Tryz.prog 121 #[.agg #[.int .i64 v.kind, .int .i64 v.n, .int .i64 v.d, .string v.s, .slice A v.l.length c], .int .i64 nest] w fun e w' => e = .returned (.bool (validN j v)) ∧ Ext w w'
theorem r4_list0 (A : Option Addr) (m c : Nat) (w : World) : Calls Tryz.prog 130 #[.slice A m c, .int .i64 0] w fun e w' => e = .returned (.bool false) ∧ Ext w w' := by
 go_enter Tryz.func130, Tryz.ntmps130
 go_wp2
 go_ret
 exact ⟨rfl, Ext.refl _⟩
theorem all_no {j : Nat} {l : List Val} (i : Nat) (hi : i < l.length) (h : validN j l[i] = false) : l.all (validN j) = false := by
 rw [List.all_eq_false]
 exact ⟨_, List.getElem_mem hi, by rw [h]; simp⟩
theorem all_yes {j : Nat} {l : List Val} (h : ∀ i (hi : i < l.length), validN j l[i] = true) : l.all (validN j) = true := by
 rw [List.all_eq_true]
 intro x hx
 obtain ⟨i, hi, rfl⟩ := List.getElem_of_mem hx
 exact h i hi
set_option maxRecDepth 100000 in
set_option maxHeartbeats 3200000 in
theorem r4_list (j : Nat) (ih : ValidAtR j) (nest : Int) (l : List Val) (ok : Nat → Prop) (A : Option Addr) (c : Nat) (w : World) (h1 : 1 ≤ nest) (h9 : nest ≤ 100) (hj : nest - 1 = (j : Int)) (hv : Vals w ok A l) (hsz : szL l) :
  Calls Tryz.prog 130 #[.slice A l.length c, .int .i64 nest] w fun e w' => e = .returned (.bool (decide (l.length ≤ 64) && l.all (validN j))) ∧ Ext w w' := by
 have hm := hv.len
 have HV := Lib.hid hv
 have HJ := Lib.hid hj
 have HZ := Lib.hid (fun (x : Val) (hx : x ∈ l) => szL_mem hsz hx)
 have hlt1 : decide (nest < 1) = false := by simp; omega
 clear hv hj hsz
 by_cases h64 : l.length ≤ 64
 ·rw [decide_eq_true h64, Bool.true_and]
  have HY := Lib.hid (fun h => all_yes (j := j) (l := l) h)
  have HB := Lib.hid (fun i (hi : i < l.length) h => all_no (j := j) i hi h)
  obtain ⟨R, hR⟩ : ∃ R, R = l.all (validN j) := ⟨_, rfl⟩
  rw [← hR] at HY HB ⊢
  have h64' : decide ((64 : Int) < (l.length : Int)) = false := by simp; omega
  clear hR h64
  go_enter Tryz.func130, Tryz.ntmps130
  go_wp2
  clear h64' hlt1
  go_loopw [5] (fun u W => ∃ k : Nat, u = .int .i64 k ∧ k ≤ l.length ∧ Hid (∀ i (hi : i < l.length), i < k → validN j l[i] = true) ∧ Ext w W) (fun u _ => l.length - (intOf u).toNat)
  case atStart => exact ⟨0, rfl, Nat.zero_le _, Lib.hid (fun i _ hi => absurd hi (Nat.not_lt_zero _)), Ext.refl _⟩
  case round =>
   obtain ⟨k, rfl, hk, hgd, hE⟩ := hrel
   by_cases hlt : k < l.length
   ·obtain ⟨b, o, rfl, hc⟩ := HV.out.2 (by omega)
    obtain ⟨-, A', c', h5, -, hv'⟩ := VCells.iff.1 (hc k hlt)
    obtain ⟨d0, d1, d2, d3, d4⟩ := h5.ext hE
    have HS := Lib.hid (fun (h : validN j l[k] = true) i hi (hj : i < k + 1) => (if e : i = k then (by subst e; exact h) else hgd.out i hi (by omega) : validN j l[i] = true))
    have HB' := Lib.hid (HB.out k hlt)
    have C := fun W (e : Ext wr W) => ih (nest - 1) l[k] ok A' c' W HJ.out (hv'.ext (hE.trans e)) (HZ.out _ (List.getElem_mem hlt))
    clear hc h5 hv' HB
    generalize l[k] = x at d0 d1 d2 d3 d4 HS HB' C
    generalize validN j x = q at C HS HB'
    have HC := Lib.hid C
    clear C
    cases q
    ·have HF := Lib.hid (HB'.out rfl)
     go_wp2_with (go_at_call 121; ((with_reducible refine (HC.out _ (by solve_by_elim [X0, X1, X2, X3])).mono ?_); rintro e w' ⟨rfl, hb⟩; have hb' : Ext wr w' := Ext.trans (by solve_by_elim [X0, X1, X2, X3]) hb))
     go_ret
     exact ⟨ret_bool HF.out.symm, hE.trans hb'⟩
    ·have HT := Lib.hid (HS.out rfl)
     go_wp2_with (go_at_call 121; ((with_reducible refine (HC.out _ (by solve_by_elim [X0, X1, X2, X3])).mono ?_); rintro e w' ⟨rfl, hb⟩; have hb' : Ext wr w' := Ext.trans (by solve_by_elim [X0, X1, X2, X3]) hb))
     go_roundw
     case rel => exact ⟨k + 1, by go_num, by omega, HT, hE.trans hb'⟩
     case measure => simp [intOf]; omega
   ·have hk' : k = l.length := by omega
    have HF := Lib.hid (HY.out (fun i hi => hgd.out i hi (by omega)))
    go_wp2
    go_ret
    exact ⟨ret_bool HF.out.symm, hE⟩
 ·rw [decide_eq_false h64]
  go_enter Tryz.func130, Tryz.ntmps130
  go_wp2
  go_ret
  exact ⟨rfl, Ext.refl _⟩
set_option maxRecDepth 100000 in
set_option maxHeartbeats 1600000 in
theorem r4_valid8 (n d : Int) (s : ByteArray) (l : List Val) (ok : Nat → Prop) (A : Option Addr) (c : Nat) (nest : Int) (w : World) (q : Bool) (hv : Vals w ok A l) (hl : ∀ W, Vals W ok A l → Calls Tryz.prog 130 #[.slice A l.length c, .int .i64 nest] W fun e w' => e = .returned (.bool q) ∧ Ext W w') :
  Calls Tryz.prog 121 #[.agg #[.int .i64 8, .int .i64 n, .int .i64 d, .string s, .slice A l.length c], .int .i64 nest] w fun e w' => e = .returned (.bool (decide (n = 0) && decide (d = 0) && decide (s.size = 0) && q)) ∧ Ext w w' := by
 obtain ⟨g, w1, hg, hw1, ⟨c0, c1, c2, c3, c4⟩, hx, -⟩ := box5 w 8 n d s A l.length c 98
 have HW1 := Lib.hid hw1
 have HG := Lib.hid hg
 have HC := Lib.hid (fun W (e : Ext w1 W) => hl W (hv.ext (hx.trans e)))
 clear hw1 hg hv hl
 go_enter Tryz.func121, Tryz.ntmps121
 go_upto_region 1 with (fail)
 rw [← HW1.out, ← HG.out]
 clear HW1 HG
 go_wp2_with (first | (go_at_call 125; ((with_reducible refine (r4_bare_ffft _ _ _ _ _ _ _ _).mono ?_); rintro e w' ⟨rfl, hb⟩; have hb1 : Ext w1 w' := hb; replace c0 := hb1.cell c0; replace c1 := hb1.cell c1; replace c2 := hb1.cell c2; replace c3 := hb1.cell c3; replace c4 := hb1.cell c4)) | (go_at_call 130; ((with_reducible refine (HC.out _ hb1).mono ?_); rintro e w' ⟨rfl, hb⟩; have hb2 : Ext _ w' := hb)))
 all_goals
  go_ret
  refine ⟨ret_bool ?_, (by first | exact hx | exact Ext.trans hx (by assumption) | exact Ext.trans hx (Ext.trans hb1 (by assumption)))⟩
  clear c0 c1 c2 c3 c4 HC
  (try simp only [nil_iff] at *)
  unfold bareF at *
  first | (simp_all; done) | (simp_all; omega)
theorem r4_valid : ∀ j, j ≤ 99 → ValidAtR j
 | 0, _ => fun nest v ok A c w hj hv hs => by
  obtain ⟨k, n, d, s, l⟩ := v
  obtain ⟨hs1, hs2⟩ := szV_iff.1 hs
  simp only [Val.kind, Val.n, Val.d, Val.s, Val.l] at *
  obtain rfl : nest = 0 := by omega
  by_cases h7 : k = 7
  ·subst h7
   rw [validN_path rfl]
   exact r4_valid7 n d s l ok A c 0 w hv hs2
  ·by_cases h8 : k = 8
   ·subst h8
    rw [validN_list0 rfl]
    exact (r4_valid8 n d s l ok A c 0 w false hv (fun W _ => r4_list0 A l.length c W)).mono (fun _ _ h => ⟨h.1.trans (by rw [Bool.and_false]), h.2⟩)
   ·rw [validN_leaf (v := .mk k n d s l) h7 h8, leafB_eq]
    exact r4_leaf k n d s l.length A c 0 w h7 h8 hs1
 | j + 1, hj9 => fun nest v ok A c w hj hv hs => by
  have ih := r4_valid j (by omega)
  obtain ⟨k, n, d, s, l⟩ := v
  obtain ⟨hs1, hs2⟩ := szV_iff.1 hs
  simp only [Val.kind, Val.n, Val.d, Val.s, Val.l] at *
  by_cases h7 : k = 7
  ·subst h7
   rw [validN_path rfl]
   exact r4_valid7 n d s l ok A c nest w hv hs2
  ·by_cases h8 : k = 8
   ·subst h8
    rw [listN_eq, Bool.and_assoc]
    exact r4_valid8 n d s l ok A c nest w _ hv (fun W h => r4_list j ih nest l ok A c W (by omega) (by omega) (by omega) h hs2)
   ·rw [validN_leaf (v := .mk k n d s l) h7 h8, leafB_eq]
    exact r4_leaf k n d s l.length A c nest w h7 h8 hs1
set_option maxRecDepth 100000 in
theorem r4_Valid (v : Val) (ok : Nat → Prop) (A : Option Addr) (c : Nat) (w : World) (hv : Vals w ok A v.l) (hs : szV v) :
  Calls Tryz.prog 109 #[.agg #[.int .i64 v.kind, .int .i64 v.n, .int .i64 v.d, .string v.s, .slice A v.l.length c]] w fun e w' => e = .returned (.bool (validV v)) ∧ Ext w w' := by
 obtain ⟨g, w1, hg, hw1, ⟨c0, c1, c2, c3, c4⟩, hx, -⟩ := box5 w v.kind v.n v.d v.s A v.l.length c 98
 have C := r4_valid 8 (by omega) 8 v ok A c w1 rfl (hv.ext hx) hs
 rw [show validN 8 v = validV v from rfl] at C
 have HC := Lib.hid C
 have HW1 := Lib.hid hw1
 have HG := Lib.hid hg
 clear hw1 hg hv C hs
 go_enter Tryz.func109, Tryz.ntmps109
 go_upto_region 1 with (fail)
 rw [← HW1.out, ← HG.out]
 clear HW1 HG
 go_wp2_with (go_at_call 121; refine (HC.out).mono ?_; rintro e w' ⟨rfl, hb⟩; have hb' : Ext w1 w' := hb)
 go_ret
 exact ⟨rfl, hx.trans hb'⟩
end Go.Proofs.YtnheioehadldmaaGreat

/- THE WALKS over small functions of graph and its reference: names, increasing strings, values that may be stored, places in lists of strings. -/
namespace Go.Proofs.YtnheioehadldmaaGreat
open Go.RowKit
theorem gr_unnamed (s : ByteArray) (w : World) : Calls Tryz.prog 73 #[.string s] w fun e w' => e = .returned (.bool (!nameB s)) ∧ w' = w := by
 go_enter Tryz.func73, Tryz.ntmps73
 go_wp2_with (go_at_call 21; refine (g_Name _ _).mono ?_; rintro e w' ⟨rfl, rfl⟩)
 go_ret
 exact ⟨rfl, rfl⟩
set_option maxRecDepth 100000 in
set_option maxHeartbeats 1600000 in
theorem s_IndexFS (l : List ByteArray) (ok : Nat → Prop) (A : Option Addr) (c : Nat) (w : World) (hv : Strs w ok A l) :
  Calls Tryz.prog 89 #[.slice A l.length c, .func (.func 73) #[] #[]] w fun e w' => e = .returned (.int .i64 (idxF (fun s => !nameB s) l)) ∧ w' = w := by
 have hm := hv.len
 have HV := Lib.hid hv
 have HY := Lib.hid (fun h => idxF_none (p := fun s => !nameB s) (l := l) h)
 have HB := Lib.hid (fun i (hi : i < l.length) h1 h2 => idxF_at (p := fun s => !nameB s) i hi h1 h2)
 obtain ⟨R, hR⟩ : ∃ R, R = idxF (fun s => !nameB s) l := ⟨_, rfl⟩
 rw [← hR] at HY HB ⊢
 clear hv hR
 go_enter Tryz.func89, Tryz.ntmps89
 go_wp2_with fail
 go_loop [8] (fun u => ∃ k : Nat, u = .int .i64 k ∧ k ≤ l.length ∧ Hid (∀ i (hi : i < l.length), i < k → (!nameB l[i]) = false)) (fun u => l.length - (intOf u).toNat)
 case atStart => exact ⟨0, rfl, Nat.zero_le _, Lib.hid (fun i _ hi => absurd hi (Nat.not_lt_zero _))⟩
 case round =>
  obtain ⟨k, rfl, hk, hgd⟩ := hrel
  by_cases hlt : k < l.length
  ·obtain ⟨b, o, rfl, hc⟩ := HV.out.2 (by omega)
   have h5 := (hc k hlt).2
   rw [Nat.mul_one] at h5
   have HS := Lib.hid (fun (h : (!nameB l[k]) = false) i hi (hj : i < k + 1) => (if e : i = k then (by subst e; exact h) else hgd.out i hi (by omega) : (!nameB l[i]) = false))
   have HB' := Lib.hid (HB.out k hlt hgd.out)
   have HC := Lib.hid (fun w => gr_unnamed l[k] w)
   clear hc HB hgd
   generalize l[k] = x at *
   generalize nameB x = q at *
   cases q
   ·have HT := Lib.hid (HB'.out rfl)
    go_wp2_with (go_at_call 73; refine (HC.out _).mono ?_; rintro e w' ⟨rfl, rfl⟩)
    go_ret
    exact ⟨ret_int HT.out.symm, rfl⟩
   ·have HT := Lib.hid (HS.out rfl)
    go_wp2_with (go_at_call 73; refine (HC.out _).mono ?_; rintro e w' ⟨rfl, rfl⟩)
    go_round
    case rel => exact ⟨k + 1, by go_num, by omega, HT⟩
    case measure => simp [intOf]; omega
  ·have HT := Lib.hid (HY.out (fun i hi => hgd.out i hi (by omega)))
   go_wp2_with fail
   go_ret
   exact ⟨ret_int HT.out.symm, rfl⟩
theorem any_not {α : Type} (p : α → Bool) (l : List α) : l.any (fun x => !p x) = !l.all p := by
 induction l with
 | nil => rfl
 | cons x l ih => rw [List.any_cons, List.all_cons, ih, Bool.not_and]
set_option maxRecDepth 100000 in
theorem s_ContainsFS (l : List ByteArray) (ok : Nat → Prop) (A : Option Addr) (c : Nat) (w : World) (hv : Strs w ok A l) :
  Calls Tryz.prog 72 #[.slice A l.length c, .func (.func 73) #[] #[]] w fun e w' => e = .returned (.bool (!l.all nameB)) ∧ w' = w := by
 have HC := Lib.hid (s_IndexFS l ok A c w hv)
 have HQ := Lib.hid ((idxF_any (fun s => !nameB s) l).trans (any_not nameB l))
 generalize l.all nameB = q at *
 generalize idxF (fun s => !nameB s) l = z at *
 clear hv
 go_enter Tryz.func72, Tryz.ntmps72
 go_wp2_with (go_at_call 89; ((with_reducible refine (HC.out).mono ?_); rintro e w' ⟨rfl, rfl⟩))
 go_ret
 exact ⟨ret_bool HQ.out, rfl⟩
set_option maxRecDepth 100000 in
theorem s_IndexS (l : List ByteArray) (s : ByteArray) (ok : Nat → Prop) (A : Option Addr) (c : Nat) (w : World) (hv : Strs w ok A l) :
  Calls Tryz.prog 91 #[.slice A l.length c, .string s] w fun e w' => e = .returned (.int .i64 (idxF (fun t => decide (s = t)) l)) ∧ w' = w := by
 have hm := hv.len
 have HV := Lib.hid hv
 have HY := Lib.hid (fun h => idxF_none (p := fun t => decide (s = t)) (l := l) h)
 have HB := Lib.hid (fun i (hi : i < l.length) h1 h2 => idxF_at (p := fun t => decide (s = t)) i hi h1 h2)
 obtain ⟨R, hR⟩ : ∃ R, R = idxF (fun t => decide (s = t)) l := ⟨_, rfl⟩
 rw [← hR] at HY HB ⊢
 clear hv hR
 go_enter Tryz.func91, Tryz.ntmps91
 go_wp2_with fail
 go_loop [8] (fun u => ∃ k : Nat, u = .int .i64 k ∧ k ≤ l.length ∧ Hid (∀ i (hi : i < l.length), i < k → decide (s = l[i]) = false)) (fun u => l.length - (intOf u).toNat)
 case atStart => exact ⟨0, rfl, Nat.zero_le _, Lib.hid (fun i _ hi => absurd hi (Nat.not_lt_zero _))⟩
 case round =>
  obtain ⟨k, rfl, hk, hgd⟩ := hrel
  by_cases hlt : k < l.length
  ·obtain ⟨b, o, rfl, hc⟩ := HV.out.2 (by omega)
   have h5 := (hc k hlt).2
   rw [Nat.mul_one] at h5
   have HS := Lib.hid (fun (h : decide (s = l[k]) = false) i hi (hj : i < k + 1) => (if e : i = k then (by subst e; exact h) else hgd.out i hi (by omega) : decide (s = l[i]) = false))
   have HB' := Lib.hid (HB.out k hlt hgd.out)
   clear hc HB hgd
   generalize l[k] = x at *
   by_cases hq : s = x
   ·have HT := Lib.hid (HB'.out (decide_eq_true hq))
    have hq2 := str_eq hq
    clear hq
    go_wp2_with fail
    go_ret
    exact ⟨ret_int HT.out.symm, rfl⟩
   ·have HT := Lib.hid (HS.out (decide_eq_false hq))
    have hq2 := str_ne hq
    clear hq
    go_wp2_with fail
    go_round
    case rel => exact ⟨k + 1, by go_num, by omega, HT⟩
    case measure => simp [intOf]; omega
  ·have HT := Lib.hid (HY.out (fun i hi => hgd.out i hi (by omega)))
   go_wp2_with fail
   go_ret
   exact ⟨ret_int HT.out.symm, rfl⟩
/-- a string is on the list -/
def memB (s : ByteArray) (l : List ByteArray) : Bool := l.any (fun t => decide (s = t))
set_option maxRecDepth 100000 in
theorem s_ContainsS (l : List ByteArray) (s : ByteArray) (ok : Nat → Prop) (A : Option Addr) (c : Nat) (w : World) (hv : Strs w ok A l) :
  Calls Tryz.prog 78 #[.slice A l.length c, .string s] w fun e w' => e = .returned (.bool (memB s l)) ∧ w' = w := by
 have HC := Lib.hid (s_IndexS l s ok A c w hv)
 have HQ := Lib.hid (show decide (idxF (fun t => decide (s = t)) l ≥ 0) = memB s l from idxF_any (fun t => decide (s = t)) l)
 generalize memB s l = q at *
 generalize idxF (fun t => decide (s = t)) l = z at *
 clear hv
 go_enter Tryz.func78, Tryz.ntmps78
 go_wp2_with (go_at_call 91; ((with_reducible refine (HC.out).mono ?_); rintro e w' ⟨rfl, rfl⟩))
 go_ret
 exact ⟨ret_bool HQ.out, rfl⟩
set_option maxRecDepth 100000 in
theorem r7_Names (l : List ByteArray) (ok : Nat → Prop) (A : Option Addr) (c : Nat) (w : World) (hv : Strs w ok A l) :
  Calls Tryz.prog 95 #[.slice A l.length c] w fun e w' => e = .returned (.bool (l.all nameB)) ∧ w' = w := by
 have hm := hv.len
 have HV := Lib.hid hv
 have HY := Lib.hid (fun (h : ∀ i (hi : i < l.length), i < l.length → nameB l[i] = true) => (List.all_eq_true.2 (fun x hx => by obtain ⟨i, hi, rfl⟩ := List.getElem_of_mem hx; exact h i hi hi) : l.all nameB = true))
 have HB := Lib.hid (fun i (hi : i < l.length) (h : nameB l[i] = false) => (List.all_eq_false.2 ⟨l[i], List.getElem_mem hi, by rw [h]; exact Bool.false_ne_true⟩ : l.all nameB = false))
 generalize l.all nameB = R at *
 clear hv
 go_enter Tryz.func95, Tryz.ntmps95
 go_wp2_with fail
 go_loop [3] (fun u => ∃ k : Nat, u = .int .i64 k ∧ k ≤ l.length ∧ Hid (∀ i (hi : i < l.length), i < k → nameB l[i] = true)) (fun u => l.length - (intOf u).toNat)
 case atStart => exact ⟨0, rfl, Nat.zero_le _, Lib.hid (fun i _ hi => absurd hi (Nat.not_lt_zero _))⟩
 case round =>
  obtain ⟨k, rfl, hk, hgd⟩ := hrel
  by_cases hlt : k < l.length
  ·obtain ⟨b, o, rfl, hc⟩ := HV.out.2 (by omega)
   have h5 := (hc k hlt).2
   rw [Nat.mul_one] at h5
   have HS := Lib.hid (fun (h : nameB l[k] = true) i hi (hj : i < k + 1) => (if e : i = k then (by subst e; exact h) else hgd.out i hi (by omega) : nameB l[i] = true))
   have HB' := Lib.hid (HB.out k hlt)
   have HC := Lib.hid (fun w => r7_Name l[k] w)
   clear hc HB hgd
   generalize l[k] = x at *
   generalize nameB x = q at *
   cases q
   ·have HT := Lib.hid (HB'.out rfl)
    go_wp2_with (go_at_call 25; refine (HC.out _).mono ?_; rintro e w' ⟨rfl, rfl⟩)
    go_ret
    exact ⟨ret_bool HT.out.symm, rfl⟩
   ·have HT := Lib.hid (HS.out rfl)
    go_wp2_with (go_at_call 25; refine (HC.out _).mono ?_; rintro e w' ⟨rfl, rfl⟩)
    go_round
    case rel => exact ⟨k + 1, by go_num, by omega, HT⟩
    case measure => simp [intOf]; omega
  ·have HT := Lib.hid (HY.out (fun i hi _ => hgd.out i hi (by omega)))
   go_wp2_with fail
   go_ret
   exact ⟨ret_bool HT.out.symm, rfl⟩
end Go.Proofs.YtnheioehadldmaaGreat

/- THE WALKS over increasing strings, values that may be stored, and labels and properties. -/
namespace Go.Proofs.YtnheioehadldmaaGreat
open Go.RowKit
set_option maxRecDepth 100000 in
set_option maxHeartbeats 800000 in
theorem gr_increasing (l : List ByteArray) (ok : Nat → Prop) (A : Option Addr) (c : Nat) (w : World) (hv : Strs w ok A l) :
  Calls Tryz.prog 74 #[.slice A l.length c] w fun e w' => e = .returned (.bool (risesB l)) ∧ Ext w w' := by
 have hm := hv.len
 have HV := Lib.hid hv
 have HY := Lib.hid (fun (h : ∀ i, i + 1 < l.length → cmpT l[i]! l[i + 1]! < 0) => risesB_iff.2 h)
 have HB := Lib.hid (fun i (hi : i + 1 < l.length) (h : ¬ cmpT l[i]! l[i + 1]! < 0) => risesB_no hi h)
 generalize risesB l = R at *
 clear hv
 go_enter Tryz.func74, Tryz.ntmps74
 go_wp2_with fail
 go_loopw [3] (fun u W => ∃ k : Nat, u = .int .i64 k ∧ 1 ≤ k ∧ (k ≤ l.length ∨ k = 1) ∧ Hid (∀ i, i + 1 < k → cmpT l[i]! l[i + 1]! < 0) ∧ Ext w W) (fun u _ => l.length - (intOf u).toNat)
 case atStart => exact ⟨1, rfl, Nat.le_refl _, .inr rfl, Lib.hid (fun i hi => absurd hi (by omega)), Ext.refl _⟩
 case round =>
  obtain ⟨k, rfl, hk, hk2, hgd, hE⟩ := hrel
  by_cases hlt : k < l.length
  ·obtain ⟨b, o, rfl, hc⟩ := HV.out.2 (by omega)
   have h5 := (hc k hlt).2
   have h6 := (hc (k - 1) (by omega)).2
   rw [Nat.mul_one] at h5 h6
   rw [← getElem!_pos l k hlt] at h5
   rw [← getElem!_pos l (k - 1) (by omega)] at h6
   replace h5 := hE.cell h5
   replace h6 := hE.cell h6
   have HS := Lib.hid (fun (h : cmpT l[k - 1]! l[k]! < 0) i (hi : i + 1 < k + 1) => (if e : i = k - 1 then (by subst e; rw [show k - 1 + 1 = k by omega]; exact h) else hgd.out i (by omega) : cmpT l[i]! l[i + 1]! < 0))
   have HB' := Lib.hid (show ¬ cmpT l[k - 1]! l[k]! < 0 → R = false from fun h => HB.out (k - 1) (by omega) (by rw [show k - 1 + 1 = k by omega]; omega))
   clear hc HB hgd hk2 HY
   generalize l[k]! = x at *
   generalize l[k - 1]! = y at *
   have p1 : (1 : Int) ≤ (k : Int) := by omega
   have p2 : ((k : Int) - 1).toNat = k - 1 := by omega
   have p5 : IntKind.i64.wrap ((k : Int) - 1) = (k : Int) - 1 := IntWalk.i64_in _ (by omega)
   have p6 : ((k : Int) - 1) < (l.length : Int) := by omega
   rcases cmpT_tri y x with ⟨hq, h7, -⟩ | ⟨rfl, h7⟩ | ⟨hq, h7, -⟩
   ·have HT := Lib.hid (HS.out (by omega))
    have q1 := less_asymm hq
    have q2 : (x.toList == y.toList) = false := str_ne (fun e => by subst e; rw [cmpT_eq] at h7; omega)
    clear HS HB' hq h7
    go_upto_region 4 with (fail)
    have MKR1 := Lib.hid (fun V (e : Ext wr V) => (⟨e.cell h5, e.cell h6, e⟩ : V.cell? ⟨b, o + k, none⟩ = some (.string x) ∧ V.cell? ⟨b, o + (k - 1), none⟩ = some (.string y) ∧ Ext wr V))
    refine wp_region_held_drew (S := (fun V => V.cell? ⟨b, o + k, none⟩ = some (.string x) ∧ V.cell? ⟨b, o + (k - 1), none⟩ = some (.string y) ∧ Ext wr V)) (by kernel_rfl) ?hs1 (fun hHeld => ?go1)
    case hs1 => (exact MKR1.out _ (by solve_by_elim [X0, X1, X2, X3]))
    refine TK 0 (v := ?v2) hHeld ?hy2 ?_
    case hy2 => (intro w _; go_simp <;> rfl)
    (try simp only [PU])
    refine TK 1 (v := ?v3) hHeld ?hy3 ?_
    case hy3 => (intro w _; go_simp <;> rfl)
    (try simp only [PU])
    refine TK 2 (v := ?v4) hHeld ?hy4 ?_
    case hy4 => (intro w _; go_simp <;> first | with_reducible rfl | rw [if_neg (by omega)] | rw [if_pos (by omega)])
    (try simp only [PU])
    refine TK 3 (v := ?v5) hHeld ?hy5 ?_
    case hy5 => (intro w hSw; (try dsimp only at hSw); go_simp <;> first | with_reducible rfl | rw [if_neg (by omega)] | rw [if_pos (by omega)])
    (try simp only [PU])
    refine TK 4 (v := ?v6) hHeld ?hy6 ?_
    case hy6 => (intro w _; go_simp <;> rfl)
    (try simp only [PU])
    refine TK 5 (v := ?v7) hHeld ?hy7 ?_
    case hy7 => (intro w _; go_simp <;> rfl)
    (try simp only [PU])
    refine TK 6 (v := ?v8) hHeld ?hy8 ?_
    case hy8 => (intro w _; go_simp <;> first | with_reducible rfl | rw [if_neg (by omega)] | rw [if_pos (by omega)])
    (try simp only [PU])
    refine TK 7 (v := ?v9) hHeld ?hy9 ?_
    case hy9 => (intro w _; go_simp <;> first | with_reducible rfl | rw [if_neg (by omega)] | rw [if_pos (by omega)])
    (try simp only [PU])
    refine TK 8 (v := ?v10) hHeld ?hy10 ?_
    case hy10 => (intro w hSw; (try dsimp only at hSw); go_simp <;> first | with_reducible rfl | rw [if_neg (by omega)] | rw [if_pos (by omega)])
    (try simp only [PU])
    refine TK 9 (v := ?v11) hHeld ?hy11 ?_
    case hy11 => (intro w _; go_simp <;> first | with_reducible rfl | rw [if_neg (by omega)] | rw [if_pos (by omega)])
    (try simp only [PU])
    refine wpAnyH_done (by kernel_rfl) ?_ _
    clear hHeld
    clear MKR1
    clear p1 p2 p5 p6
    go_wp2_with fail
    go_roundw
    case rel => exact ⟨k + 1, by go_num, by omega, by omega, HT, hE.trans (by solve_by_elim [X0, X1, X2, X3])⟩
    case measure => simp [intOf]; omega
   ·have HT := Lib.hid (HB'.out (by omega))
    clear h7
    clear HS HB'
    go_upto_region 4 with (fail)
    have MKR2 := Lib.hid (fun V (e : Ext wr V) => (⟨e.cell h5, e.cell h6, e⟩ : V.cell? ⟨b, o + k, none⟩ = some (.string y) ∧ V.cell? ⟨b, o + (k - 1), none⟩ = some (.string y) ∧ Ext wr V))
    refine wp_region_held_drew (S := (fun V => V.cell? ⟨b, o + k, none⟩ = some (.string y) ∧ V.cell? ⟨b, o + (k - 1), none⟩ = some (.string y) ∧ Ext wr V)) (by kernel_rfl) ?hs12 (fun hHeld => ?go12)
    case hs12 => (exact MKR2.out _ (by solve_by_elim [X0, X1, X2, X3]))
    refine TK 0 (v := ?v13) hHeld ?hy13 ?_
    case hy13 => (intro w _; go_simp <;> rfl)
    (try simp only [PU])
    refine TK 1 (v := ?v14) hHeld ?hy14 ?_
    case hy14 => (intro w _; go_simp <;> rfl)
    (try simp only [PU])
    refine TK 2 (v := ?v15) hHeld ?hy15 ?_
    case hy15 => (intro w _; go_simp <;> first | with_reducible rfl | rw [if_neg (by omega)] | rw [if_pos (by omega)])
    (try simp only [PU])
    refine TK 3 (v := ?v16) hHeld ?hy16 ?_
    case hy16 => (intro w hSw; (try dsimp only at hSw); go_simp <;> first | with_reducible rfl | rw [if_neg (by omega)] | rw [if_pos (by omega)])
    (try simp only [PU])
    refine TK 4 (v := ?v17) hHeld ?hy17 ?_
    case hy17 => (intro w _; go_simp <;> rfl)
    (try simp only [PU])
    refine TK 5 (v := ?v18) hHeld ?hy18 ?_
    case hy18 => (intro w _; go_simp <;> rfl)
    (try simp only [PU])
    refine TK 6 (v := ?v19) hHeld ?hy19 ?_
    case hy19 => (intro w _; go_simp <;> first | with_reducible rfl | rw [if_neg (by omega)] | rw [if_pos (by omega)])
    (try simp only [PU])
    refine TK 7 (v := ?v20) hHeld ?hy20 ?_
    case hy20 => (intro w _; go_simp <;> first | with_reducible rfl | rw [if_neg (by omega)] | rw [if_pos (by omega)])
    (try simp only [PU])
    refine TK 8 (v := ?v21) hHeld ?hy21 ?_
    case hy21 => (intro w hSw; (try dsimp only at hSw); go_simp <;> first | with_reducible rfl | rw [if_neg (by omega)] | rw [if_pos (by omega)])
    (try simp only [PU])
    refine TK 9 (v := ?v22) hHeld ?hy22 ?_
    case hy22 => (intro w _; go_simp <;> first | with_reducible rfl | rw [if_neg (by omega)] | rw [if_pos (by omega)])
    (try simp only [PU])
    refine wpAnyH_done (by kernel_rfl) ?_ _
    clear hHeld
    clear MKR2
    go_wp2_with fail
    go_ret
    exact ⟨ret_bool HT.out.symm, hE.trans (by solve_by_elim [X0, X1, X2, X3])⟩
   ·have HT := Lib.hid (HB'.out (by omega))
    clear h7
    clear HS HB'
    go_upto_region 4 with (fail)
    have MKR3 := Lib.hid (fun V (e : Ext wr V) => (⟨e.cell h5, e.cell h6, e⟩ : V.cell? ⟨b, o + k, none⟩ = some (.string x) ∧ V.cell? ⟨b, o + (k - 1), none⟩ = some (.string y) ∧ Ext wr V))
    refine wp_region_held_drew (S := (fun V => V.cell? ⟨b, o + k, none⟩ = some (.string x) ∧ V.cell? ⟨b, o + (k - 1), none⟩ = some (.string y) ∧ Ext wr V)) (by kernel_rfl) ?hs23 (fun hHeld => ?go23)
    case hs23 => (exact MKR3.out _ (by solve_by_elim [X0, X1, X2, X3]))
    refine TK 0 (v := ?v24) hHeld ?hy24 ?_
    case hy24 => (intro w _; go_simp <;> rfl)
    (try simp only [PU])
    refine TK 1 (v := ?v25) hHeld ?hy25 ?_
    case hy25 => (intro w _; go_simp <;> rfl)
    (try simp only [PU])
    refine TK 2 (v := ?v26) hHeld ?hy26 ?_
    case hy26 => (intro w _; go_simp <;> first | with_reducible rfl | rw [if_neg (by omega)] | rw [if_pos (by omega)])
    (try simp only [PU])
    refine TK 3 (v := ?v27) hHeld ?hy27 ?_
    case hy27 => (intro w hSw; (try dsimp only at hSw); go_simp <;> first | with_reducible rfl | rw [if_neg (by omega)] | rw [if_pos (by omega)])
    (try simp only [PU])
    refine TK 4 (v := ?v28) hHeld ?hy28 ?_
    case hy28 => (intro w _; go_simp <;> rfl)
    (try simp only [PU])
    refine TK 5 (v := ?v29) hHeld ?hy29 ?_
    case hy29 => (intro w _; go_simp <;> rfl)
    (try simp only [PU])
    refine TK 6 (v := ?v30) hHeld ?hy30 ?_
    case hy30 => (intro w _; go_simp <;> first | with_reducible rfl | rw [if_neg (by omega)] | rw [if_pos (by omega)])
    (try simp only [PU])
    refine TK 7 (v := ?v31) hHeld ?hy31 ?_
    case hy31 => (intro w _; go_simp <;> first | with_reducible rfl | rw [if_neg (by omega)] | rw [if_pos (by omega)])
    (try simp only [PU])
    refine TK 8 (v := ?v32) hHeld ?hy32 ?_
    case hy32 => (intro w hSw; (try dsimp only at hSw); go_simp <;> first | with_reducible rfl | rw [if_neg (by omega)] | rw [if_pos (by omega)])
    (try simp only [PU])
    refine TK 9 (v := ?v33) hHeld ?hy33 ?_
    case hy33 => (intro w _; go_simp <;> first | with_reducible rfl | rw [if_neg (by omega)] | rw [if_pos (by omega)])
    (try simp only [PU])
    refine wpAnyH_done (by kernel_rfl) ?_ _
    clear hHeld
    clear MKR3
    go_wp2_with fail
    go_ret
    exact ⟨ret_bool HT.out.symm, hE.trans (by solve_by_elim [X0, X1, X2, X3])⟩
  ·have HT := Lib.hid (HY.out (fun i hi => hgd.out i (by omega)))
   go_wp2_with fail
   go_ret
   exact ⟨ret_bool HT.out.symm, hE⟩
set_option maxRecDepth 100000 in
set_option maxHeartbeats 800000 in
theorem r7_Rises (l : List ByteArray) (ok : Nat → Prop) (A : Option Addr) (c : Nat) (w : World) (hv : Strs w ok A l) :
  Calls Tryz.prog 96 #[.slice A l.length c] w fun e w' => e = .returned (.bool (risesB l)) ∧ Ext w w' := by
 have hm := hv.len
 have HV := Lib.hid hv
 have HY := Lib.hid (fun (h : ∀ i, i + 1 < l.length → cmpT l[i]! l[i + 1]! < 0) => risesB_iff.2 h)
 have HB := Lib.hid (fun i (hi : i + 1 < l.length) (h : ¬ cmpT l[i]! l[i + 1]! < 0) => risesB_no hi h)
 generalize risesB l = R at *
 clear hv
 go_enter Tryz.func96, Tryz.ntmps96
 go_wp2_with fail
 go_loopw [3] (fun u W => ∃ k : Nat, u = .int .i64 k ∧ 1 ≤ k ∧ (k ≤ l.length ∨ k = 1) ∧ Hid (∀ i, i + 1 < k → cmpT l[i]! l[i + 1]! < 0) ∧ Ext w W) (fun u _ => l.length - (intOf u).toNat)
 case atStart => exact ⟨1, rfl, Nat.le_refl _, .inr rfl, Lib.hid (fun i hi => absurd hi (by omega)), Ext.refl _⟩
 case round =>
  obtain ⟨k, rfl, hk, hk2, hgd, hE⟩ := hrel
  by_cases hlt : k < l.length
  ·obtain ⟨b, o, rfl, hc⟩ := HV.out.2 (by omega)
   have h5 := (hc k hlt).2
   have h6 := (hc (k - 1) (by omega)).2
   rw [Nat.mul_one] at h5 h6
   rw [← getElem!_pos l k hlt] at h5
   rw [← getElem!_pos l (k - 1) (by omega)] at h6
   replace h5 := hE.cell h5
   replace h6 := hE.cell h6
   have HS := Lib.hid (fun (h : cmpT l[k - 1]! l[k]! < 0) i (hi : i + 1 < k + 1) => (if e : i = k - 1 then (by subst e; rw [show k - 1 + 1 = k by omega]; exact h) else hgd.out i (by omega) : cmpT l[i]! l[i + 1]! < 0))
   have HB' := Lib.hid (show ¬ cmpT l[k - 1]! l[k]! < 0 → R = false from fun h => HB.out (k - 1) (by omega) (by rw [show k - 1 + 1 = k by omega]; omega))
   clear hc HB hgd hk2 HY
   generalize l[k]! = x at *
   generalize l[k - 1]! = y at *
   have p1 : (1 : Int) ≤ (k : Int) := by omega
   have p2 : ((k : Int) - 1).toNat = k - 1 := by omega
   have p5 : IntKind.i64.wrap ((k : Int) - 1) = (k : Int) - 1 := IntWalk.i64_in _ (by omega)
   have p6 : ((k : Int) - 1) < (l.length : Int) := by omega
   rcases cmpT_tri y x with ⟨hq, h7, -⟩ | ⟨rfl, h7⟩ | ⟨hq, h7, -⟩
   ·have HT := Lib.hid (HS.out (by omega))
    have q1 := less_asymm hq
    have q2 : (x.toList == y.toList) = false := str_ne (fun e => by subst e; rw [cmpT_eq] at h7; omega)
    clear HS HB' hq h7
    go_upto_region 4 with (fail)
    have MKR4 := Lib.hid (fun V (e : Ext wr V) => (⟨e.cell h5, e.cell h6, e⟩ : V.cell? ⟨b, o + k, none⟩ = some (.string x) ∧ V.cell? ⟨b, o + (k - 1), none⟩ = some (.string y) ∧ Ext wr V))
    refine wp_region_held_drew (S := (fun V => V.cell? ⟨b, o + k, none⟩ = some (.string x) ∧ V.cell? ⟨b, o + (k - 1), none⟩ = some (.string y) ∧ Ext wr V)) (by kernel_rfl) ?hs34 (fun hHeld => ?go34)
    case hs34 => (exact MKR4.out _ (by solve_by_elim [X0, X1, X2, X3]))
    refine TK 0 (v := ?v35) hHeld ?hy35 ?_
    case hy35 => (intro w _; go_simp <;> rfl)
    (try simp only [PU])
    refine TK 1 (v := ?v36) hHeld ?hy36 ?_
    case hy36 => (intro w _; go_simp <;> rfl)
    (try simp only [PU])
    refine TK 2 (v := ?v37) hHeld ?hy37 ?_
    case hy37 => (intro w _; go_simp <;> first | with_reducible rfl | rw [if_neg (by omega)] | rw [if_pos (by omega)])
    (try simp only [PU])
    refine TK 3 (v := ?v38) hHeld ?hy38 ?_
    case hy38 => (intro w hSw; (try dsimp only at hSw); go_simp <;> first | with_reducible rfl | rw [if_neg (by omega)] | rw [if_pos (by omega)])
    (try simp only [PU])
    refine TK 4 (v := ?v39) hHeld ?hy39 ?_
    case hy39 => (intro w _; go_simp <;> rfl)
    (try simp only [PU])
    refine TK 5 (v := ?v40) hHeld ?hy40 ?_
    case hy40 => (intro w _; go_simp <;> rfl)
    (try simp only [PU])
    refine TK 6 (v := ?v41) hHeld ?hy41 ?_
    case hy41 => (intro w _; go_simp <;> first | with_reducible rfl | rw [if_neg (by omega)] | rw [if_pos (by omega)])
    (try simp only [PU])
    refine TK 7 (v := ?v42) hHeld ?hy42 ?_
    case hy42 => (intro w _; go_simp <;> first | with_reducible rfl | rw [if_neg (by omega)] | rw [if_pos (by omega)])
    (try simp only [PU])
    refine TK 8 (v := ?v43) hHeld ?hy43 ?_
    case hy43 => (intro w hSw; (try dsimp only at hSw); go_simp <;> first | with_reducible rfl | rw [if_neg (by omega)] | rw [if_pos (by omega)])
    (try simp only [PU])
    refine TK 9 (v := ?v44) hHeld ?hy44 ?_
    case hy44 => (intro w _; go_simp <;> first | with_reducible rfl | rw [if_neg (by omega)] | rw [if_pos (by omega)])
    (try simp only [PU])
    refine wpAnyH_done (by kernel_rfl) ?_ _
    clear hHeld
    clear MKR4
    clear p1 p2 p5 p6
    go_wp2_with fail
    go_roundw
    case rel => exact ⟨k + 1, by go_num, by omega, by omega, HT, hE.trans (by solve_by_elim [X0, X1, X2, X3])⟩
    case measure => simp [intOf]; omega
   ·have HT := Lib.hid (HB'.out (by omega))
    clear h7
    clear HS HB'
    go_upto_region 4 with (fail)
    have MKR5 := Lib.hid (fun V (e : Ext wr V) => (⟨e.cell h5, e.cell h6, e⟩ : V.cell? ⟨b, o + k, none⟩ = some (.string y) ∧ V.cell? ⟨b, o + (k - 1), none⟩ = some (.string y) ∧ Ext wr V))
    refine wp_region_held_drew (S := (fun V => V.cell? ⟨b, o + k, none⟩ = some (.string y) ∧ V.cell? ⟨b, o + (k - 1), none⟩ = some (.string y) ∧ Ext wr V)) (by kernel_rfl) ?hs45 (fun hHeld => ?go45)
    case hs45 => (exact MKR5.out _ (by solve_by_elim [X0, X1, X2, X3]))
    refine TK 0 (v := ?v46) hHeld ?hy46 ?_
    case hy46 => (intro w _; go_simp <;> rfl)
    (try simp only [PU])
    refine TK 1 (v := ?v47) hHeld ?hy47 ?_
    case hy47 => (intro w _; go_simp <;> rfl)
    (try simp only [PU])
    refine TK 2 (v := ?v48) hHeld ?hy48 ?_
    case hy48 => (intro w _; go_simp <;> first | with_reducible rfl | rw [if_neg (by omega)] | rw [if_pos (by omega)])
    (try simp only [PU])
    refine TK 3 (v := ?v49) hHeld ?hy49 ?_
    case hy49 => (intro w hSw; (try dsimp only at hSw); go_simp <;> first | with_reducible rfl | rw [if_neg (by omega)] | rw [if_pos (by omega)])
    (try simp only [PU])
    refine TK 4 (v := ?v50) hHeld ?hy50 ?_
    case hy50 => (intro w _; go_simp <;> rfl)
    (try simp only [PU])
    refine TK 5 (v := ?v51) hHeld ?hy51 ?_
    case hy51 => (intro w _; go_simp <;> rfl)
    (try simp only [PU])
    refine TK 6 (v := ?v52) hHeld ?hy52 ?_
    case hy52 => (intro w _; go_simp <;> first | with_reducible rfl | rw [if_neg (by omega)] | rw [if_pos (by omega)])
    (try simp only [PU])
    refine TK 7 (v := ?v53) hHeld ?hy53 ?_
    case hy53 => (intro w _; go_simp <;> first | with_reducible rfl | rw [if_neg (by omega)] | rw [if_pos (by omega)])
    (try simp only [PU])
    refine TK 8 (v := ?v54) hHeld ?hy54 ?_
    case hy54 => (intro w hSw; (try dsimp only at hSw); go_simp <;> first | with_reducible rfl | rw [if_neg (by omega)] | rw [if_pos (by omega)])
    (try simp only [PU])
    refine TK 9 (v := ?v55) hHeld ?hy55 ?_
    case hy55 => (intro w _; go_simp <;> first | with_reducible rfl | rw [if_neg (by omega)] | rw [if_pos (by omega)])
    (try simp only [PU])
    refine wpAnyH_done (by kernel_rfl) ?_ _
    clear hHeld
    clear MKR5
    go_wp2_with fail
    go_ret
    exact ⟨ret_bool HT.out.symm, hE.trans (by solve_by_elim [X0, X1, X2, X3])⟩
   ·have HT := Lib.hid (HB'.out (by omega))
    clear h7
    clear HS HB'
    go_upto_region 4 with (fail)
    have MKR6 := Lib.hid (fun V (e : Ext wr V) => (⟨e.cell h5, e.cell h6, e⟩ : V.cell? ⟨b, o + k, none⟩ = some (.string x) ∧ V.cell? ⟨b, o + (k - 1), none⟩ = some (.string y) ∧ Ext wr V))
    refine wp_region_held_drew (S := (fun V => V.cell? ⟨b, o + k, none⟩ = some (.string x) ∧ V.cell? ⟨b, o + (k - 1), none⟩ = some (.string y) ∧ Ext wr V)) (by kernel_rfl) ?hs56 (fun hHeld => ?go56)
    case hs56 => (exact MKR6.out _ (by solve_by_elim [X0, X1, X2, X3]))
    refine TK 0 (v := ?v57) hHeld ?hy57 ?_
    case hy57 => (intro w _; go_simp <;> rfl)
    (try simp only [PU])
    refine TK 1 (v := ?v58) hHeld ?hy58 ?_
    case hy58 => (intro w _; go_simp <;> rfl)
    (try simp only [PU])
    refine TK 2 (v := ?v59) hHeld ?hy59 ?_
    case hy59 => (intro w _; go_simp <;> first | with_reducible rfl | rw [if_neg (by omega)] | rw [if_pos (by omega)])
    (try simp only [PU])
    refine TK 3 (v := ?v60) hHeld ?hy60 ?_
    case hy60 => (intro w hSw; (try dsimp only at hSw); go_simp <;> first | with_reducible rfl | rw [if_neg (by omega)] | rw [if_pos (by omega)])
    (try simp only [PU])
    refine TK 4 (v := ?v61) hHeld ?hy61 ?_
    case hy61 => (intro w _; go_simp <;> rfl)
    (try simp only [PU])
    refine TK 5 (v := ?v62) hHeld ?hy62 ?_
    case hy62 => (intro w _; go_simp <;> rfl)
    (try simp only [PU])
    refine TK 6 (v := ?v63) hHeld ?hy63 ?_
    case hy63 => (intro w _; go_simp <;> first | with_reducible rfl | rw [if_neg (by omega)] | rw [if_pos (by omega)])
    (try simp only [PU])
    refine TK 7 (v := ?v64) hHeld ?hy64 ?_
    case hy64 => (intro w _; go_simp <;> first | with_reducible rfl | rw [if_neg (by omega)] | rw [if_pos (by omega)])
    (try simp only [PU])
    refine TK 8 (v := ?v65) hHeld ?hy65 ?_
    case hy65 => (intro w hSw; (try dsimp only at hSw); go_simp <;> first | with_reducible rfl | rw [if_neg (by omega)] | rw [if_pos (by omega)])
    (try simp only [PU])
    refine TK 9 (v := ?v66) hHeld ?hy66 ?_
    case hy66 => (intro w _; go_simp <;> first | with_reducible rfl | rw [if_neg (by omega)] | rw [if_pos (by omega)])
    (try simp only [PU])
    refine wpAnyH_done (by kernel_rfl) ?_ _
    clear hHeld
    clear MKR6
    go_wp2_with fail
    go_ret
    exact ⟨ret_bool HT.out.symm, hE.trans (by solve_by_elim [X0, X1, X2, X3])⟩
  ·have HT := Lib.hid (HY.out (fun i hi => hgd.out i (by omega)))
   go_wp2_with fail
   go_ret
   exact ⟨ret_bool HT.out.symm, hE⟩
set_option maxRecDepth 100000 in
theorem v_Plain (v : Val) (ok : Nat → Prop) (A : Option Addr) (c : Nat) (w : World) (hv : Vals w ok A v.l) :
  Calls Tryz.prog 75 #[.agg #[.int .i64 v.kind, .int .i64 v.n, .int .i64 v.d, .string v.s, .slice A v.l.length c]] w fun e w' => e = .returned (.bool (plainV v)) ∧ Ext w w' := by
 obtain ⟨g, w1, hg, hw1, ⟨p0, p1, p2, p3, p4⟩, hx, -⟩ := box_val w v A c 98
 have HC := Lib.hid (v_Valid v ok A c w1 (hv.ext hx))
 have HW1 := Lib.hid hw1
 have HG := Lib.hid hg
 have HQ := Lib.hid (show plainV v = ((decide (v.kind = 1) || decide (v.kind = 2) || decide (v.kind = 4)) && validV v) from rfl)
 generalize plainV v = R at *
 generalize validV v = q at *
 generalize v.kind = K at *
 clear hw1 hg hv
 by_cases h1 : K = 1
 ·subst h1
  cases q
  all_goals
   go_enter Tryz.func75, Tryz.ntmps75
   go_upto_region 1 with (fail)
   rw [← HW1.out, ← HG.out]
   clear HW1 HG
   go_wp2_with (go_at_call 90; ((with_reducible refine (HC.out).mono ?_); rintro e w' ⟨rfl, hb⟩; have := hb.cell p0))
   go_ret
   exact ⟨ret_bool (by rw [HQ.out]; rfl), hx.trans (by first | assumption | exact Ext.refl _)⟩
 ·by_cases h2 : K = 2
  ·subst h2
   cases q
   all_goals
    go_enter Tryz.func75, Tryz.ntmps75
    go_upto_region 1 with (fail)
    rw [← HW1.out, ← HG.out]
    clear HW1 HG
    go_wp2_with (go_at_call 90; ((with_reducible refine (HC.out).mono ?_); rintro e w' ⟨rfl, hb⟩; have := hb.cell p0))
    go_ret
    exact ⟨ret_bool (by rw [HQ.out]; rfl), hx.trans (by first | assumption | exact Ext.refl _)⟩
  ·by_cases h4 : K = 4
   ·subst h4
    cases q
    all_goals
     go_enter Tryz.func75, Tryz.ntmps75
     go_upto_region 1 with (fail)
     rw [← HW1.out, ← HG.out]
     clear HW1 HG
     go_wp2_with (go_at_call 90; ((with_reducible refine (HC.out).mono ?_); rintro e w' ⟨rfl, hb⟩; have := hb.cell p0))
     go_ret
     exact ⟨ret_bool (by rw [HQ.out]; rfl), hx.trans (by first | assumption | exact Ext.refl _)⟩
   ·have HR := Lib.hid (show R = false by rw [HQ.out, decide_eq_false h1, decide_eq_false h2, decide_eq_false h4]; rfl)
    have k1 : (K == 1) = false := beq_eq_false_iff_ne.2 h1
    have k2 : (K == 2) = false := beq_eq_false_iff_ne.2 h2
    have k4 : (K == 4) = false := beq_eq_false_iff_ne.2 h4
    clear h1 h2 h4 HQ
    cases q
    all_goals
     go_enter Tryz.func75, Tryz.ntmps75
     go_upto_region 1 with (fail)
     rw [← HW1.out, ← HG.out]
     clear HW1 HG
     go_wp2_with (go_at_call 90; ((with_reducible refine (HC.out).mono ?_); rintro e w' ⟨rfl, hb⟩; have := hb.cell p0))
     go_ret
     exact ⟨ret_bool HR.out.symm, hx.trans (by first | assumption | exact Ext.refl _)⟩
set_option maxRecDepth 100000 in
theorem r4_Plain (v : Val) (ok : Nat → Prop) (A : Option Addr) (c : Nat) (w : World) (hv : Vals w ok A v.l) (hs : szV v) :
  Calls Tryz.prog 97 #[.agg #[.int .i64 v.kind, .int .i64 v.n, .int .i64 v.d, .string v.s, .slice A v.l.length c]] w fun e w' => e = .returned (.bool (plainV v)) ∧ Ext w w' := by
 obtain ⟨g, w1, hg, hw1, ⟨p0, p1, p2, p3, p4⟩, hx, -⟩ := box_val w v A c 98
 have HC := Lib.hid (r4_Valid v ok A c w1 (hv.ext hx) hs)
 have HW1 := Lib.hid hw1
 have HG := Lib.hid hg
 have HQ := Lib.hid (show plainV v = ((decide (v.kind = 1) || decide (v.kind = 2) || decide (v.kind = 4)) && validV v) from rfl)
 generalize plainV v = R at *
 generalize validV v = q at *
 generalize v.kind = K at *
 clear hw1 hg hv
 by_cases h1 : K = 1
 ·subst h1
  cases q
  all_goals
   go_enter Tryz.func97, Tryz.ntmps97
   go_upto_region 1 with (fail)
   rw [← HW1.out, ← HG.out]
   clear HW1 HG
   go_wp2_with (go_at_call 109; ((with_reducible refine (HC.out).mono ?_); rintro e w' ⟨rfl, hb⟩; have := hb.cell p0))
   go_ret
   exact ⟨ret_bool (by rw [HQ.out]; rfl), hx.trans (by first | assumption | exact Ext.refl _)⟩
 ·by_cases h2 : K = 2
  ·subst h2
   cases q
   all_goals
    go_enter Tryz.func97, Tryz.ntmps97
    go_upto_region 1 with (fail)
    rw [← HW1.out, ← HG.out]
    clear HW1 HG
    go_wp2_with (go_at_call 109; ((with_reducible refine (HC.out).mono ?_); rintro e w' ⟨rfl, hb⟩; have := hb.cell p0))
    go_ret
    exact ⟨ret_bool (by rw [HQ.out]; rfl), hx.trans (by first | assumption | exact Ext.refl _)⟩
  ·by_cases h4 : K = 4
   ·subst h4
    cases q
    all_goals
     go_enter Tryz.func97, Tryz.ntmps97
     go_upto_region 1 with (fail)
     rw [← HW1.out, ← HG.out]
     clear HW1 HG
     go_wp2_with (go_at_call 109; ((with_reducible refine (HC.out).mono ?_); rintro e w' ⟨rfl, hb⟩; have := hb.cell p0))
     go_ret
     exact ⟨ret_bool (by rw [HQ.out]; rfl), hx.trans (by first | assumption | exact Ext.refl _)⟩
   ·have HR := Lib.hid (show R = false by rw [HQ.out, decide_eq_false h1, decide_eq_false h2, decide_eq_false h4]; rfl)
    have k1 : (K == 1) = false := beq_eq_false_iff_ne.2 h1
    have k2 : (K == 2) = false := beq_eq_false_iff_ne.2 h2
    have k4 : (K == 4) = false := beq_eq_false_iff_ne.2 h4
    clear h1 h2 h4 HQ
    cases q
    all_goals
     go_enter Tryz.func97, Tryz.ntmps97
     go_upto_region 1 with (fail)
     rw [← HW1.out, ← HG.out]
     clear HW1 HG
     go_wp2_with (go_at_call 109; ((with_reducible refine (HC.out).mono ?_); rintro e w' ⟨rfl, hb⟩; have := hb.cell p0))
     go_ret
     exact ⟨ret_bool HR.out.symm, hx.trans (by first | assumption | exact Ext.refl _)⟩
end Go.Proofs.YtnheioehadldmaaGreat

/- APPENDS TO ROWS THAT A CALL OWNS, with what they leave as it was; values kept over them. -/
namespace Go.Proofs.YtnheioehadldmaaGreat
open Go.RowKit
/-- behind an append to v: all that lay outside v's block lies as it lay; the new block is none of those -/
structure FarBut (w w' : World) (v v' : Value) : Prop where
 cell : ∀ b o x, some b ≠ v.ownBlock → w.cell? ⟨b, o, none⟩ = some x → w'.cell? ⟨b, o, none⟩ = some x
 own : ∀ b, b < w.heap.size → some b ≠ v.ownBlock → some b ≠ v'.ownBlock
theorem own_pushF {P : Program} {t e size bytes : Nat} (T : ElT P t e size bytes) {ops : Array Oper} {rest : List Oper} {o : Oper} {a : Act} {Q : Exit → Act → World → Prop} {w : World} (hgd : o.guard = none) (s x : Operand)
  (ho : o.op = .call { callee := .builtin .append, args := #[s, x], argTypes := #[t, t] }) (wb w0 : World) (v : Value) (n : Nat) (xs news : List Value) (hs : a.eval s = v) (hown : w0.ownsRow wb.heap.size e size v n xs) (hE : Ext wb w0)
  (hw : w = w0.alloc (.cells news.toArray e)) (hx : a.eval x = .slice (some ⟨w0.heap.size, 0, none⟩) 1 1) (hl : news.length = size) (h1 : ∀ u ∈ news, u.oneCell' = true)
  (h63 : n + 1 ≤ 8388608) (hbytes : bytes ≤ 1000000)
  (h : ∀ v' w', w'.ownsRow wb.heap.size e size v' (n + 1) (xs ++ news) → Ext wb w' → FarBut w0 w' v v' → wpList P ops Q rest (a.put o.dst v') w') : wpList P ops Q (o :: rest) a w := by
 obtain ⟨z, hz, hzc⟩ := T.hi
 obtain ⟨i, hi, hz0, hz1, hz2⟩ := info_parts hz
 subst hw
 refine wpList_append_own_at _ hgd s x t ho wb.heap.size e i z size bytes T.ht hi hz0 hz1 hz2 hzc T.hs v n xs hs (hown.alloc _) ⟨w0.heap.size, 0, none⟩ 1 1 news hx (by omega) ?_ h1 (by unfold maxLen; omega) ?_ (Nat.le_trans hE.le (by simp)) ?_
 ·intro j u hj
  rw [Addr.add_mid, cell_of_row _ _ _ _ _ _ (heap_alloc_new w0 _)]
  simpa using hj
 ·exact Nat.le_trans (Nat.mul_le_mul h63 hbytes) (by decide)
 ·intro v' w' h2 h3 _ h5
  refine h v' w' h2 ((hE.alloc _).grown h3 (fun k hk => (hown.lt k hk).1)) ⟨fun b o x hb hc => ?_, fun b hb hn => ?_⟩
  ·have hlt : b < w0.heap.size := block_lt_of_cell hc
   have hc2 : (w0.alloc (.cells news.toArray e)).cell? ⟨b, o, none⟩ = some x := (World.cell?_alloc_lt w0 _ ⟨b, o, none⟩ hlt).trans hc
   exact (World.cell?_of_block (h3.block b (by simp; omega) hb)).trans hc2
  ·rcases h5 with e | e
   ·rw [e]; exact hn
   ·rw [e]
    intro e2
    injection e2 with e2
    simp at e2; omega
end Go.Proofs.YtnheioehadldmaaGreat

/- ROWS OF STRINGS AND OF NUMBERS that a call owns. -/
namespace Go.Proofs.YtnheioehadldmaaGreat
open Go.RowKit
theorem El_str : ElT Tryz.prog 51 9 1 16 := ⟨Tryz.underlying51, ⟨.string ByteArray.empty, by kernel_rfl, rfl⟩, by decide⟩
theorem El_int : ElT Tryz.prog 27 3 1 8 := ⟨Tryz.underlying27, ⟨.int .i64 0, by kernel_rfl, rfl⟩, by decide⟩
/-- as own_push, where the walk writes the new block's number in its own way -/
theorem own_pushH {P : Program} {t e size bytes : Nat} (T : ElT P t e size bytes) {ops : Array Oper} {rest : List Oper} {o : Oper} {a : Act} {Q : Exit → Act → World → Prop} {w : World} (hgd : o.guard = none) (s x : Operand)
  (ho : o.op = .call { callee := .builtin .append, args := #[s, x], argTypes := #[t, t] }) (wb w0 : World) (v : Value) (n : Nat) (xs news : List Value) (hs : a.eval s = v) (hown : w0.ownsRow wb.heap.size e size v n xs) (hE : Ext wb w0)
  (hw : w = w0.alloc (.cells news.toArray e)) (H : Nat) (hH : w0.heap.size = H) (hx : a.eval x = .slice (some ⟨H, 0, none⟩) 1 1) (hl : news.length = size) (h1 : ∀ u ∈ news, u.oneCell' = true)
  (h63 : n + 1 ≤ 8388608) (hbytes : bytes ≤ 1000000)
  (h : ∀ v' w', w'.ownsRow wb.heap.size e size v' (n + 1) (xs ++ news) → Ext wb w' → FarBut w0 w' v v' → wpList P ops Q rest (a.put o.dst v') w') : wpList P ops Q (o :: rest) a w := by
 subst hH
 exact own_pushF T hgd s x ho wb w0 v n xs news hs hown hE hw hx hl h1 h63 hbytes h
/-- one element appended to a row of the call's own: the run -/
theorem run_pushK {P : Program} {t e size bytes : Nat} (T : ElT P t e size bytes) (ty : TypeId) {w : World} (base : Nat) (w0 : World) (v : Value) (n : Nat) (xs news : List Value) (hown : w0.ownsRow base e size v n xs) (hb : base ≤ w0.heap.size)
  (hw : w = w0.alloc (.cells news.toArray e)) (hl : news.length = size) (h1 : ∀ u ∈ news, u.oneCell' = true) (h63 : n + 1 ≤ 8388608) (hbytes : bytes ≤ 1000000) :
  ∃ v' w', (Builtin.append_ #[t, t] ty #[v, .slice (some ⟨w0.heap.size, 0, none⟩) 1 1]).run P w = .ok v' w' ∧ w'.ownsRow base e size v' (n + 1) (xs ++ news) ∧ w0.grownBy w' v.ownBlock ∧ (v'.ownBlock = v.ownBlock ∨ v'.ownBlock = some (w0.heap.size + 1)) := by
 obtain ⟨z, hz, hzc⟩ := T.hi
 obtain ⟨i, hi, hz0, hz1, hz2⟩ := info_parts hz
 subst hw
 obtain ⟨v', w', hr, k2, k3, -, k5⟩ := run_append_own_at (P := P) (w0.alloc (.cells news.toArray e)) base t ty e i z size bytes T.ht hi hz0 hz1 hz2 hzc T.hs v n xs (hown.alloc _) ⟨w0.heap.size, 0, none⟩ 1 1 news (by omega) (fun j u hj => by
  rw [Addr.add_mid, cell_of_row _ _ _ _ _ _ (heap_alloc_new w0 _)]
  simpa using hj) h1 (by unfold maxLen; omega) (Nat.le_trans (Nat.mul_le_mul h63 hbytes) (by decide)) (Nat.le_trans hb (by simp))
 refine ⟨v', w', hr, k2, ⟨k3.os, k3.tape, k3.output, Nat.le_trans (by simp) k3.size, fun b hb hne => (k3.block b (by simp; omega) hne).trans (((Ext.refl w0).alloc _).block b hb)⟩, ?_⟩
 rcases k5 with h | h
 ·exact .inl h
 ·exact .inr (by rw [h]; simp)
theorem flat1 {α : Type} (f : α → Value) : ∀ l : List α, (l.map (fun x => [f x])).flatten = l.map f
 | [] => rfl
 | x :: l => by rw [List.map_cons, List.flatten_cons, flat1 f l]; rfl
theorem strs_of_own {w : World} {base e : Nat} {v : Value} {n : Nat} {l : List ByteArray} (h : w.ownsRow base e 1 v n (l.map Value.string)) (hn : n = l.length) (hm : l.length ≤ 140737488355328) : ∃ A c, v = .slice A l.length c ∧ l.length ≤ c ∧ Strs w (fun b => base ≤ b) A l :=
 own_sliceR (cs := l.map (fun x => [Value.string x])) (by rw [flat1]; exact h) hn (by simp) (by simp) hm (fun g hg _ k hk h' hu => ⟨hg, by have := hu 0 (.string l[k]) (by simp); simpa using this⟩)
end Go.Proofs.YtnheioehadldmaaGreat
