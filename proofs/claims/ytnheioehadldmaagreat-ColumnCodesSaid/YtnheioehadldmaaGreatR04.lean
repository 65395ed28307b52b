/- PARTS OF THE WALKS, joined: Ga, Gb, Push, El, Gc, Gd. -/
import Derived.Test.YtnheioehadldmaaGreatR03
import Derived.Test.YtnheioehadldmaaGreatR02
import Derived.Deep.RegionHeld3
import Derived.WalkLawsBesides
import Derived.Deep.QuietTactic
import Derived.BigQuiet
import Derived.Deep.Cut
import Derived.Maps.AppendAt
import Derived.Test.YtnheioehadldmaaGreatR01
import Derived.Laws.BitsAllLaws
/- THE WALKS over small functions of graph and its reference: names, increasing strings, values that may be stored, places in lists of strings. -/
namespace Go.Proofs.YtnheioehadldmaaGreat
open Go.RowKit
theorem gr_unnamed (s : ByteArray) (w : World) : Calls Tryz.prog 73 #[.string s] w fun e w' => e = .returned (.bool (!nameB s)) ∧ w' = w := by
 go_enter Tryz.func73, Tryz.ntmps73
 go_wp2_with (go_at_call 21; refine (g_Name _ _).mono ?_; rintro e w' ⟨rfl, rfl⟩)
 go_ret
 exact ⟨rfl, rfl⟩
set_option maxRecDepth 100000 in
set_option maxHeartbeats 1600000 in
theorem s_IndexFS (l : List ByteArray) (ok : Nat → Prop) (A : Option Addr) (c : Nat) (w : World) (hv : Strs w ok A l) :
  Calls Tryz.prog 89 #[.slice A l.length c, .func (.func 73) #[] #[]] w fun e w' => e = .returned (.int .i64 (idxF (fun s => !nameB s) l)) ∧ w' = w := by
 have hm := hv.len
 have HV := Lib.hid hv
 have HY := Lib.hid (fun h => idxF_none (p := fun s => !nameB s) (l := l) h)
 have HB := Lib.hid (fun i (hi : i < l.length) h1 h2 => idxF_at (p := fun s => !nameB s) i hi h1 h2)
 obtain ⟨R, hR⟩ : ∃ R, R = idxF (fun s => !nameB s) l := ⟨_, rfl⟩
 rw [← hR] at HY HB ⊢
 clear hv hR
 go_enter Tryz.func89, Tryz.ntmps89
 go_wp2_with fail
 go_loop [8] (fun u => ∃ k : Nat, u = .int .i64 k ∧ k ≤ l.length ∧ Hid (∀ i (hi : i < l.length), i < k → (!nameB l[i]) = false)) (fun u => l.length - (intOf u).toNat)
 case atStart => exact ⟨0, rfl, Nat.zero_le _, Lib.hid (fun i _ hi => absurd hi (Nat.not_lt_zero _))⟩
 case round =>
  obtain ⟨k, rfl, hk, hgd⟩ := hrel
  by_cases hlt : k < l.length
  ·obtain ⟨b, o, rfl, hc⟩ := HV.out.2 (by omega)
   have h5 := (hc k hlt).2
   rw [Nat.mul_one] at h5
   have HS := Lib.hid (fun (h : (!nameB l[k]) = false) i hi (hj : i < k + 1) => (if e : i = k then (by subst e; exact h) else hgd.out i hi (by omega) : (!nameB l[i]) = false))
   have HB' := Lib.hid (HB.out k hlt hgd.out)
   have HC := Lib.hid (fun w => gr_unnamed l[k] w)
   clear hc HB hgd
   generalize l[k] = x at *
   generalize nameB x = q at *
   cases q
   ·have HT := Lib.hid (HB'.out rfl)
    go_wp2_with (go_at_call 73; refine (HC.out _).mono ?_; rintro e w' ⟨rfl, rfl⟩)
    go_ret
    exact ⟨ret_int HT.out.symm, rfl⟩
   ·have HT := Lib.hid (HS.out rfl)
    go_wp2_with (go_at_call 73; refine (HC.out _).mono ?_; rintro e w' ⟨rfl, rfl⟩)
    go_round
    case rel => exact ⟨k + 1, by go_num, by omega, HT⟩
    case measure => simp [intOf]; omega
  ·have HT := Lib.hid (HY.out (fun i hi => hgd.out i hi (by omega)))
   go_wp2_with fail
   go_ret
   exact ⟨ret_int HT.out.symm, rfl⟩
theorem any_not {α : Type} (p : α → Bool) (l : List α) : l.any (fun x => !p x) = !l.all p := by
 induction l with
 | nil => rfl
 | cons x l ih => rw [List.any_cons, List.all_cons, ih, Bool.not_and]
set_option maxRecDepth 100000 in
theorem s_ContainsFS (l : List ByteArray) (ok : Nat → Prop) (A : Option Addr) (c : Nat) (w : World) (hv : Strs w ok A l) :
  Calls Tryz.prog 72 #[.slice A l.length c, .func (.func 73) #[] #[]] w fun e w' => e = .returned (.bool (!l.all nameB)) ∧ w' = w := by
 have HC := Lib.hid (s_IndexFS l ok A c w hv)
 have HQ := Lib.hid ((idxF_any (fun s => !nameB s) l).trans (any_not nameB l))
 generalize l.all nameB = q at *
 generalize idxF (fun s => !nameB s) l = z at *
 clear hv
 go_enter Tryz.func72, Tryz.ntmps72
 go_wp2_with (go_at_call 89; ((with_reducible refine (HC.out).mono ?_); rintro e w' ⟨rfl, rfl⟩))
 go_ret
 exact ⟨ret_bool HQ.out, rfl⟩
set_option maxRecDepth 100000 in
theorem s_IndexS (l : List ByteArray) (s : ByteArray) (ok : Nat → Prop) (A : Option Addr) (c : Nat) (w : World) (hv : Strs w ok A l) :
  Calls Tryz.prog 91 #[.slice A l.length c, .string s] w fun e w' => e = .returned (.int .i64 (idxF (fun t => decide (s = t)) l)) ∧ w' = w := by
 have hm := hv.len
 have HV := Lib.hid hv
 have HY := Lib.hid (fun h => idxF_none (p := fun t => decide (s = t)) (l := l) h)
 have HB := Lib.hid (fun i (hi : i < l.length) h1 h2 => idxF_at (p := fun t => decide (s = t)) i hi h1 h2)
 obtain ⟨R, hR⟩ : ∃ R, R = idxF (fun t => decide (s = t)) l := ⟨_, rfl⟩
 rw [← hR] at HY HB ⊢
 clear hv hR
 go_enter Tryz.func91, Tryz.ntmps91
 go_wp2_with fail
 go_loop [8] (fun u => ∃ k : Nat, u = .int .i64 k ∧ k ≤ l.length ∧ Hid (∀ i (hi : i < l.length), i < k → decide (s = l[i]) = false)) (fun u => l.length - (intOf u).toNat)
 case atStart => exact ⟨0, rfl, Nat.zero_le _, Lib.hid (fun i _ hi => absurd hi (Nat.not_lt_zero _))⟩
 case round =>
  obtain ⟨k, rfl, hk, hgd⟩ := hrel
  by_cases hlt : k < l.length
  ·obtain ⟨b, o, rfl, hc⟩ := HV.out.2 (by omega)
   have h5 := (hc k hlt).2
   rw [Nat.mul_one] at h5
   have HS := Lib.hid (fun (h : decide (s = l[k]) = false) i hi (hj : i < k + 1) => (if e : i = k then (by subst e; exact h) else hgd.out i hi (by omega) : decide (s = l[i]) = false))
   have HB' := Lib.hid (HB.out k hlt hgd.out)
   clear hc HB hgd
   generalize l[k] = x at *
   by_cases hq : s = x
   ·have HT := Lib.hid (HB'.out (decide_eq_true hq))
    have hq2 := str_eq hq
    clear hq
    go_wp2_with fail
    go_ret
    exact ⟨ret_int HT.out.symm, rfl⟩
   ·have HT := Lib.hid (HS.out (decide_eq_false hq))
    have hq2 := str_ne hq
    clear hq
    go_wp2_with fail
    go_round
    case rel => exact ⟨k + 1, by go_num, by omega, HT⟩
    case measure => simp [intOf]; omega
  ·have HT := Lib.hid (HY.out (fun i hi => hgd.out i hi (by omega)))
   go_wp2_with fail
   go_ret
   exact ⟨ret_int HT.out.symm, rfl⟩
/-- a string is on the list -/
def memB (s : ByteArray) (l : List ByteArray) : Bool := l.any (fun t => decide (s = t))
set_option maxRecDepth 100000 in
theorem s_ContainsS (l : List ByteArray) (s : ByteArray) (ok : Nat → Prop) (A : Option Addr) (c : Nat) (w : World) (hv : Strs w ok A l) :
  Calls Tryz.prog 78 #[.slice A l.length c, .string s] w fun e w' => e = .returned (.bool (memB s l)) ∧ w' = w := by
 have HC := Lib.hid (s_IndexS l s ok A c w hv)
 have HQ := Lib.hid (show decide (idxF (fun t => decide (s = t)) l ≥ 0) = memB s l from idxF_any (fun t => decide (s = t)) l)
 generalize memB s l = q at *
 generalize idxF (fun t => decide (s = t)) l = z at *
 clear hv
 go_enter Tryz.func78, Tryz.ntmps78
 go_wp2_with (go_at_call 91; ((with_reducible refine (HC.out).mono ?_); rintro e w' ⟨rfl, rfl⟩))
 go_ret
 exact ⟨ret_bool HQ.out, rfl⟩
end Go.Proofs.YtnheioehadldmaaGreat

/- THE WALKS over increasing strings, values that may be stored, and labels and properties. -/
namespace Go.Proofs.YtnheioehadldmaaGreat
open Go.RowKit
set_option maxRecDepth 100000 in
set_option maxHeartbeats 800000 in
theorem gr_increasing (l : List ByteArray) (ok : Nat → Prop) (A : Option Addr) (c : Nat) (w : World) (hv : Strs w ok A l) :
  Calls Tryz.prog 74 #[.slice A l.length c] w fun e w' => e = .returned (.bool (risesB l)) ∧ Ext w w' := by
 have hm := hv.len
 have HV := Lib.hid hv
 have HY := Lib.hid (fun (h : ∀ i, i + 1 < l.length → cmpT l[i]! l[i + 1]! < 0) => risesB_iff.2 h)
 have HB := Lib.hid (fun i (hi : i + 1 < l.length) (h : ¬ cmpT l[i]! l[i + 1]! < 0) => risesB_no hi h)
 generalize risesB l = R at *
 clear hv
 go_enter Tryz.func74, Tryz.ntmps74
 go_wp2_with fail
 go_loopw [3] (fun u W => ∃ k : Nat, u = .int .i64 k ∧ 1 ≤ k ∧ (k ≤ l.length ∨ k = 1) ∧ Hid (∀ i, i + 1 < k → cmpT l[i]! l[i + 1]! < 0) ∧ Ext w W) (fun u _ => l.length - (intOf u).toNat)
 case atStart => exact ⟨1, rfl, Nat.le_refl _, .inr rfl, Lib.hid (fun i hi => absurd hi (by omega)), Ext.refl _⟩
 case round =>
  obtain ⟨k, rfl, hk, hk2, hgd, hE⟩ := hrel
  by_cases hlt : k < l.length
  ·obtain ⟨b, o, rfl, hc⟩ := HV.out.2 (by omega)
   have h5 := (hc k hlt).2
   have h6 := (hc (k - 1) (by omega)).2
   rw [Nat.mul_one] at h5 h6
   rw [← getElem!_pos l k hlt] at h5
   rw [← getElem!_pos l (k - 1) (by omega)] at h6
   replace h5 := hE.cell h5
   replace h6 := hE.cell h6
   have HS := Lib.hid (fun (h : cmpT l[k - 1]! l[k]! < 0) i (hi : i + 1 < k + 1) => (if e : i = k - 1 then (by subst e; rw [show k - 1 + 1 = k by omega]; exact h) else hgd.out i (by omega) : cmpT l[i]! l[i + 1]! < 0))
   have HB' := Lib.hid (show ¬ cmpT l[k - 1]! l[k]! < 0 → R = false from fun h => HB.out (k - 1) (by omega) (by rw [show k - 1 + 1 = k by omega]; omega))
   clear hc HB hgd hk2 HY
   generalize l[k]! = x at *
   generalize l[k - 1]! = y at *
   have p1 : (1 : Int) ≤ (k : Int) := by omega
   have p2 : ((k : Int) - 1).toNat = k - 1 := by omega
   have p5 : IntKind.i64.wrap ((k : Int) - 1) = (k : Int) - 1 := IntWalk.i64_in _ (by omega)
   have p6 : ((k : Int) - 1) < (l.length : Int) := by omega
   rcases cmpT_tri y x with ⟨hq, h7, -⟩ | ⟨rfl, h7⟩ | ⟨hq, h7, -⟩
   ·have HT := Lib.hid (HS.out (by omega))
    have q1 := less_asymm hq
    have q2 : (x.toList == y.toList) = false := str_ne (fun e => by subst e; rw [cmpT_eq] at h7; omega)
    clear HS HB' hq h7
    go_upto_region 4 with (fail)
    have MKR1 := Lib.hid (fun V (e : Ext wr V) => (⟨e.cell h5, e.cell h6, e⟩ : V.cell? ⟨b, o + k, none⟩ = some (.string x) ∧ V.cell? ⟨b, o + (k - 1), none⟩ = some (.string y) ∧ Ext wr V))
    refine wp_region_held_drew (S := (fun V => V.cell? ⟨b, o + k, none⟩ = some (.string x) ∧ V.cell? ⟨b, o + (k - 1), none⟩ = some (.string y) ∧ Ext wr V)) (by kernel_rfl) ?hs1 (fun hHeld => ?go1)
    case hs1 => (exact MKR1.out _ (by solve_by_elim [X0, X1, X2, X3]))
    refine TK 0 (v := ?v2) hHeld ?hy2 ?_
    case hy2 => (intro w _; go_simp <;> rfl)
    (try simp only [PU])
    refine TK 1 (v := ?v3) hHeld ?hy3 ?_
    case hy3 => (intro w _; go_simp <;> rfl)
    (try simp only [PU])
    refine TK 2 (v := ?v4) hHeld ?hy4 ?_
    case hy4 => (intro w _; go_simp <;> first | with_reducible rfl | rw [if_neg (by omega)] | rw [if_pos (by omega)])
    (try simp only [PU])
    refine TK 3 (v := ?v5) hHeld ?hy5 ?_
    case hy5 => (intro w hSw; (try dsimp only at hSw); go_simp <;> first | with_reducible rfl | rw [if_neg (by omega)] | rw [if_pos (by omega)])
    (try simp only [PU])
    refine TK 4 (v := ?v6) hHeld ?hy6 ?_
    case hy6 => (intro w _; go_simp <;> rfl)
    (try simp only [PU])
    refine TK 5 (v := ?v7) hHeld ?hy7 ?_
    case hy7 => (intro w _; go_simp <;> rfl)
    (try simp only [PU])
    refine TK 6 (v := ?v8) hHeld ?hy8 ?_
    case hy8 => (intro w _; go_simp <;> first | with_reducible rfl | rw [if_neg (by omega)] | rw [if_pos (by omega)])
    (try simp only [PU])
    refine TK 7 (v := ?v9) hHeld ?hy9 ?_
    case hy9 => (intro w _; go_simp <;> first | with_reducible rfl | rw [if_neg (by omega)] | rw [if_pos (by omega)])
    (try simp only [PU])
    refine TK 8 (v := ?v10) hHeld ?hy10 ?_
    case hy10 => (intro w hSw; (try dsimp only at hSw); go_simp <;> first | with_reducible rfl | rw [if_neg (by omega)] | rw [if_pos (by omega)])
    (try simp only [PU])
    refine TK 9 (v := ?v11) hHeld ?hy11 ?_
    case hy11 => (intro w _; go_simp <;> first | with_reducible rfl | rw [if_neg (by omega)] | rw [if_pos (by omega)])
    (try simp only [PU])
    refine wpAnyH_done (by kernel_rfl) ?_ _
    clear hHeld
    clear MKR1
    clear p1 p2 p5 p6
    go_wp2_with fail
    go_roundw
    case rel => exact ⟨k + 1, by go_num, by omega, by omega, HT, hE.trans (by solve_by_elim [X0, X1, X2, X3])⟩
    case measure => simp [intOf]; omega
   ·have HT := Lib.hid (HB'.out (by omega))
    clear h7
    clear HS HB'
    go_upto_region 4 with (fail)
    have MKR2 := Lib.hid (fun V (e : Ext wr V) => (⟨e.cell h5, e.cell h6, e⟩ : V.cell? ⟨b, o + k, none⟩ = some (.string y) ∧ V.cell? ⟨b, o + (k - 1), none⟩ = some (.string y) ∧ Ext wr V))
    refine wp_region_held_drew (S := (fun V => V.cell? ⟨b, o + k, none⟩ = some (.string y) ∧ V.cell? ⟨b, o + (k - 1), none⟩ = some (.string y) ∧ Ext wr V)) (by kernel_rfl) ?hs12 (fun hHeld => ?go12)
    case hs12 => (exact MKR2.out _ (by solve_by_elim [X0, X1, X2, X3]))
    refine TK 0 (v := ?v13) hHeld ?hy13 ?_
    case hy13 => (intro w _; go_simp <;> rfl)
    (try simp only [PU])
    refine TK 1 (v := ?v14) hHeld ?hy14 ?_
    case hy14 => (intro w _; go_simp <;> rfl)
    (try simp only [PU])
    refine TK 2 (v := ?v15) hHeld ?hy15 ?_
    case hy15 => (intro w _; go_simp <;> first | with_reducible rfl | rw [if_neg (by omega)] | rw [if_pos (by omega)])
    (try simp only [PU])
    refine TK 3 (v := ?v16) hHeld ?hy16 ?_
    case hy16 => (intro w hSw; (try dsimp only at hSw); go_simp <;> first | with_reducible rfl | rw [if_neg (by omega)] | rw [if_pos (by omega)])
    (try simp only [PU])
    refine TK 4 (v := ?v17) hHeld ?hy17 ?_
    case hy17 => (intro w _; go_simp <;> rfl)
    (try simp only [PU])
    refine TK 5 (v := ?v18) hHeld ?hy18 ?_
    case hy18 => (intro w _; go_simp <;> rfl)
    (try simp only [PU])
    refine TK 6 (v := ?v19) hHeld ?hy19 ?_
    case hy19 => (intro w _; go_simp <;> first | with_reducible rfl | rw [if_neg (by omega)] | rw [if_pos (by omega)])
    (try simp only [PU])
    refine TK 7 (v := ?v20) hHeld ?hy20 ?_
    case hy20 => (intro w _; go_simp <;> first | with_reducible rfl | rw [if_neg (by omega)] | rw [if_pos (by omega)])
    (try simp only [PU])
    refine TK 8 (v := ?v21) hHeld ?hy21 ?_
    case hy21 => (intro w hSw; (try dsimp only at hSw); go_simp <;> first | with_reducible rfl | rw [if_neg (by omega)] | rw [if_pos (by omega)])
    (try simp only [PU])
    refine TK 9 (v := ?v22) hHeld ?hy22 ?_
    case hy22 => (intro w _; go_simp <;> first | with_reducible rfl | rw [if_neg (by omega)] | rw [if_pos (by omega)])
    (try simp only [PU])
    refine wpAnyH_done (by kernel_rfl) ?_ _
    clear hHeld
    clear MKR2
    go_wp2_with fail
    go_ret
    exact ⟨ret_bool HT.out.symm, hE.trans (by solve_by_elim [X0, X1, X2, X3])⟩
   ·have HT := Lib.hid (HB'.out (by omega))
    clear h7
    clear HS HB'
    go_upto_region 4 with (fail)
    have MKR3 := Lib.hid (fun V (e : Ext wr V) => (⟨e.cell h5, e.cell h6, e⟩ : V.cell? ⟨b, o + k, none⟩ = some (.string x) ∧ V.cell? ⟨b, o + (k - 1), none⟩ = some (.string y) ∧ Ext wr V))
    refine wp_region_held_drew (S := (fun V => V.cell? ⟨b, o + k, none⟩ = some (.string x) ∧ V.cell? ⟨b, o + (k - 1), none⟩ = some (.string y) ∧ Ext wr V)) (by kernel_rfl) ?hs23 (fun hHeld => ?go23)
    case hs23 => (exact MKR3.out _ (by solve_by_elim [X0, X1, X2, X3]))
    refine TK 0 (v := ?v24) hHeld ?hy24 ?_
    case hy24 => (intro w _; go_simp <;> rfl)
    (try simp only [PU])
    refine TK 1 (v := ?v25) hHeld ?hy25 ?_
    case hy25 => (intro w _; go_simp <;> rfl)
    (try simp only [PU])
    refine TK 2 (v := ?v26) hHeld ?hy26 ?_
    case hy26 => (intro w _; go_simp <;> first | with_reducible rfl | rw [if_neg (by omega)] | rw [if_pos (by omega)])
    (try simp only [PU])
    refine TK 3 (v := ?v27) hHeld ?hy27 ?_
    case hy27 => (intro w hSw; (try dsimp only at hSw); go_simp <;> first | with_reducible rfl | rw [if_neg (by omega)] | rw [if_pos (by omega)])
    (try simp only [PU])
    refine TK 4 (v := ?v28) hHeld ?hy28 ?_
    case hy28 => (intro w _; go_simp <;> rfl)
    (try simp only [PU])
    refine TK 5 (v := ?v29) hHeld ?hy29 ?_
    case hy29 => (intro w _; go_simp <;> rfl)
    (try simp only [PU])
    refine TK 6 (v := ?v30) hHeld ?hy30 ?_
    case hy30 => (intro w _; go_simp <;> first | with_reducible rfl | rw [if_neg (by omega)] | rw [if_pos (by omega)])
    (try simp only [PU])
    refine TK 7 (v := ?v31) hHeld ?hy31 ?_
    case hy31 => (intro w _; go_simp <;> first | with_reducible rfl | rw [if_neg (by omega)] | rw [if_pos (by omega)])
    (try simp only [PU])
    refine TK 8 (v := ?v32) hHeld ?hy32 ?_
    case hy32 => (intro w hSw; (try dsimp only at hSw); go_simp <;> first | with_reducible rfl | rw [if_neg (by omega)] | rw [if_pos (by omega)])
    (try simp only [PU])
    refine TK 9 (v := ?v33) hHeld ?hy33 ?_
    case hy33 => (intro w _; go_simp <;> first | with_reducible rfl | rw [if_neg (by omega)] | rw [if_pos (by omega)])
    (try simp only [PU])
    refine wpAnyH_done (by kernel_rfl) ?_ _
    clear hHeld
    clear MKR3
    go_wp2_with fail
    go_ret
    exact ⟨ret_bool HT.out.symm, hE.trans (by solve_by_elim [X0, X1, X2, X3])⟩
  ·have HT := Lib.hid (HY.out (fun i hi => hgd.out i (by omega)))
   go_wp2_with fail
   go_ret
   exact ⟨ret_bool HT.out.symm, hE⟩
set_option maxRecDepth 100000 in
theorem v_Plain (v : Val) (ok : Nat → Prop) (A : Option Addr) (c : Nat) (w : World) (hv : Vals w ok A v.l) :
  Calls Tryz.prog 75 #[.agg #[.int .i64 v.kind, .int .i64 v.n, .int .i64 v.d, .string v.s, .slice A v.l.length c]] w fun e w' => e = .returned (.bool (plainV v)) ∧ Ext w w' := by
 obtain ⟨g, w1, hg, hw1, ⟨p0, p1, p2, p3, p4⟩, hx, -⟩ := box_val w v A c 98
 have HC := Lib.hid (v_Valid v ok A c w1 (hv.ext hx))
 have HW1 := Lib.hid hw1
 have HG := Lib.hid hg
 have HQ := Lib.hid (show plainV v = ((decide (v.kind = 1) || decide (v.kind = 2) || decide (v.kind = 4)) && validV v) from rfl)
 generalize plainV v = R at *
 generalize validV v = q at *
 generalize v.kind = K at *
 clear hw1 hg hv
 by_cases h1 : K = 1
 ·subst h1
  cases q
  all_goals
   go_enter Tryz.func75, Tryz.ntmps75
   go_upto_region 1 with (fail)
   rw [← HW1.out, ← HG.out]
   clear HW1 HG
   go_wp2_with (go_at_call 90; ((with_reducible refine (HC.out).mono ?_); rintro e w' ⟨rfl, hb⟩; have := hb.cell p0))
   go_ret
   exact ⟨ret_bool (by rw [HQ.out]; rfl), hx.trans (by first | assumption | exact Ext.refl _)⟩
 ·by_cases h2 : K = 2
  ·subst h2
   cases q
   all_goals
    go_enter Tryz.func75, Tryz.ntmps75
    go_upto_region 1 with (fail)
    rw [← HW1.out, ← HG.out]
    clear HW1 HG
    go_wp2_with (go_at_call 90; ((with_reducible refine (HC.out).mono ?_); rintro e w' ⟨rfl, hb⟩; have := hb.cell p0))
    go_ret
    exact ⟨ret_bool (by rw [HQ.out]; rfl), hx.trans (by first | assumption | exact Ext.refl _)⟩
  ·by_cases h4 : K = 4
   ·subst h4
    cases q
    all_goals
     go_enter Tryz.func75, Tryz.ntmps75
     go_upto_region 1 with (fail)
     rw [← HW1.out, ← HG.out]
     clear HW1 HG
     go_wp2_with (go_at_call 90; ((with_reducible refine (HC.out).mono ?_); rintro e w' ⟨rfl, hb⟩; have := hb.cell p0))
     go_ret
     exact ⟨ret_bool (by rw [HQ.out]; rfl), hx.trans (by first | assumption | exact Ext.refl _)⟩
   ·have HR := Lib.hid (show R = false by rw [HQ.out, decide_eq_false h1, decide_eq_false h2, decide_eq_false h4]; rfl)
    have k1 : (K == 1) = false := beq_eq_false_iff_ne.2 h1
    have k2 : (K == 2) = false := beq_eq_false_iff_ne.2 h2
    have k4 : (K == 4) = false := beq_eq_false_iff_ne.2 h4
    clear h1 h2 h4 HQ
    cases q
    all_goals
     go_enter Tryz.func75, Tryz.ntmps75
     go_upto_region 1 with (fail)
     rw [← HW1.out, ← HG.out]
     clear HW1 HG
     go_wp2_with (go_at_call 90; ((with_reducible refine (HC.out).mono ?_); rintro e w' ⟨rfl, hb⟩; have := hb.cell p0))
     go_ret
     exact ⟨ret_bool HR.out.symm, hx.trans (by first | assumption | exact Ext.refl _)⟩
end Go.Proofs.YtnheioehadldmaaGreat

/- APPENDS TO ROWS THAT A CALL OWNS, with what they leave as it was; values kept over them. -/
namespace Go.Proofs.YtnheioehadldmaaGreat
open Go.RowKit
/-- behind an append to v: all that lay outside v's block lies as it lay; the new block is none of those -/
structure FarBut (w w' : World) (v v' : Value) : Prop where
 cell : ∀ b o x, some b ≠ v.ownBlock → w.cell? ⟨b, o, none⟩ = some x → w'.cell? ⟨b, o, none⟩ = some x
 own : ∀ b, b < w.heap.size → some b ≠ v.ownBlock → some b ≠ v'.ownBlock
theorem own_pushF {P : Program} {t e size bytes : Nat} (T : ElT P t e size bytes) {ops : Array Oper} {rest : List Oper} {o : Oper} {a : Act} {Q : Exit → Act → World → Prop} {w : World} (hgd : o.guard = none) (s x : Operand)
  (ho : o.op = .call { callee := .builtin .append, args := #[s, x], argTypes := #[t, t] }) (wb w0 : World) (v : Value) (n : Nat) (xs news : List Value) (hs : a.eval s = v) (hown : w0.ownsRow wb.heap.size e size v n xs) (hE : Ext wb w0)
  (hw : w = w0.alloc (.cells news.toArray e)) (hx : a.eval x = .slice (some ⟨w0.heap.size, 0, none⟩) 1 1) (hl : news.length = size) (h1 : ∀ u ∈ news, u.oneCell' = true)
  (h63 : n + 1 ≤ 8388608) (hbytes : bytes ≤ 1000000)
  (h : ∀ v' w', w'.ownsRow wb.heap.size e size v' (n + 1) (xs ++ news) → Ext wb w' → FarBut w0 w' v v' → wpList P ops Q rest (a.put o.dst v') w') : wpList P ops Q (o :: rest) a w := by
 obtain ⟨z, hz, hzc⟩ := T.hi
 obtain ⟨i, hi, hz0, hz1, hz2⟩ := info_parts hz
 subst hw
 refine wpList_append_own_at _ hgd s x t ho wb.heap.size e i z size bytes T.ht hi hz0 hz1 hz2 hzc T.hs v n xs hs (hown.alloc _) ⟨w0.heap.size, 0, none⟩ 1 1 news hx (by omega) ?_ h1 (by unfold maxLen; omega) ?_ (Nat.le_trans hE.le (by simp)) ?_
 ·intro j u hj
  rw [Addr.add_mid, cell_of_row _ _ _ _ _ _ (heap_alloc_new w0 _)]
  simpa using hj
 ·exact Nat.le_trans (Nat.mul_le_mul h63 hbytes) (by decide)
 ·intro v' w' h2 h3 _ h5
  refine h v' w' h2 ((hE.alloc _).grown h3 (fun k hk => (hown.lt k hk).1)) ⟨fun b o x hb hc => ?_, fun b hb hn => ?_⟩
  ·have hlt : b < w0.heap.size := block_lt_of_cell hc
   have hc2 : (w0.alloc (.cells news.toArray e)).cell? ⟨b, o, none⟩ = some x := (World.cell?_alloc_lt w0 _ ⟨b, o, none⟩ hlt).trans hc
   exact (World.cell?_of_block (h3.block b (by simp; omega) hb)).trans hc2
  ·rcases h5 with e | e
   ·rw [e]; exact hn
   ·rw [e]
    intro e2
    injection e2 with e2
    simp at e2; omega
end Go.Proofs.YtnheioehadldmaaGreat

/- ROWS OF STRINGS AND OF NUMBERS that a call owns. -/
namespace Go.Proofs.YtnheioehadldmaaGreat
open Go.RowKit
theorem El_str : ElT Tryz.prog 51 9 1 16 := ⟨Tryz.underlying51, ⟨.string ByteArray.empty, by kernel_rfl, rfl⟩, by decide⟩
theorem El_int : ElT Tryz.prog 27 3 1 8 := ⟨Tryz.underlying27, ⟨.int .i64 0, by kernel_rfl, rfl⟩, by decide⟩
/-- as own_push, where the walk writes the new block's number in its own way -/
theorem own_pushH {P : Program} {t e size bytes : Nat} (T : ElT P t e size bytes) {ops : Array Oper} {rest : List Oper} {o : Oper} {a : Act} {Q : Exit → Act → World → Prop} {w : World} (hgd : o.guard = none) (s x : Operand)
  (ho : o.op = .call { callee := .builtin .append, args := #[s, x], argTypes := #[t, t] }) (wb w0 : World) (v : Value) (n : Nat) (xs news : List Value) (hs : a.eval s = v) (hown : w0.ownsRow wb.heap.size e size v n xs) (hE : Ext wb w0)
  (hw : w = w0.alloc (.cells news.toArray e)) (H : Nat) (hH : w0.heap.size = H) (hx : a.eval x = .slice (some ⟨H, 0, none⟩) 1 1) (hl : news.length = size) (h1 : ∀ u ∈ news, u.oneCell' = true)
  (h63 : n + 1 ≤ 8388608) (hbytes : bytes ≤ 1000000)
  (h : ∀ v' w', w'.ownsRow wb.heap.size e size v' (n + 1) (xs ++ news) → Ext wb w' → FarBut w0 w' v v' → wpList P ops Q rest (a.put o.dst v') w') : wpList P ops Q (o :: rest) a w := by
 subst hH
 exact own_pushF T hgd s x ho wb w0 v n xs news hs hown hE hw hx hl h1 h63 hbytes h
/-- one element appended to a row of the call's own: the run -/
theorem run_pushK {P : Program} {t e size bytes : Nat} (T : ElT P t e size bytes) (ty : TypeId) {w : World} (base : Nat) (w0 : World) (v : Value) (n : Nat) (xs news : List Value) (hown : w0.ownsRow base e size v n xs) (hb : base ≤ w0.heap.size)
  (hw : w = w0.alloc (.cells news.toArray e)) (hl : news.length = size) (h1 : ∀ u ∈ news, u.oneCell' = true) (h63 : n + 1 ≤ 8388608) (hbytes : bytes ≤ 1000000) :
  ∃ v' w', (Builtin.append_ #[t, t] ty #[v, .slice (some ⟨w0.heap.size, 0, none⟩) 1 1]).run P w = .ok v' w' ∧ w'.ownsRow base e size v' (n + 1) (xs ++ news) ∧ w0.grownBy w' v.ownBlock ∧ (v'.ownBlock = v.ownBlock ∨ v'.ownBlock = some (w0.heap.size + 1)) := by
 obtain ⟨z, hz, hzc⟩ := T.hi
 obtain ⟨i, hi, hz0, hz1, hz2⟩ := info_parts hz
 subst hw
 obtain ⟨v', w', hr, k2, k3, -, k5⟩ := run_append_own_at (P := P) (w0.alloc (.cells news.toArray e)) base t ty e i z size bytes T.ht hi hz0 hz1 hz2 hzc T.hs v n xs (hown.alloc _) ⟨w0.heap.size, 0, none⟩ 1 1 news (by omega) (fun j u hj => by
  rw [Addr.add_mid, cell_of_row _ _ _ _ _ _ (heap_alloc_new w0 _)]
  simpa using hj) h1 (by unfold maxLen; omega) (Nat.le_trans (Nat.mul_le_mul h63 hbytes) (by decide)) (Nat.le_trans hb (by simp))
 refine ⟨v', w', hr, k2, ⟨k3.os, k3.tape, k3.output, Nat.le_trans (by simp) k3.size, fun b hb hne => (k3.block b (by simp; omega) hne).trans (((Ext.refl w0).alloc _).block b hb)⟩, ?_⟩
 rcases k5 with h | h
 ·exact .inl h
 ·exact .inr (by rw [h]; simp)
theorem flat1 {α : Type} (f : α → Value) : ∀ l : List α, (l.map (fun x => [f x])).flatten = l.map f
 | [] => rfl
 | x :: l => by rw [List.map_cons, List.flatten_cons, flat1 f l]; rfl
theorem strs_of_own {w : World} {base e : Nat} {v : Value} {n : Nat} {l : List ByteArray} (h : w.ownsRow base e 1 v n (l.map Value.string)) (hn : n = l.length) (hm : l.length ≤ 140737488355328) : ∃ A c, v = .slice A l.length c ∧ l.length ≤ c ∧ Strs w (fun b => base ≤ b) A l :=
 own_sliceR (cs := l.map (fun x => [Value.string x])) (by rw [flat1]; exact h) hn (by simp) (by simp) hm (fun g hg _ k hk h' hu => ⟨hg, by have := hu 0 (.string l[k]) (by simp); simpa using this⟩)
end Go.Proofs.YtnheioehadldmaaGreat

/- THE WALKS over the keys of properties and over what is wrong with labels and properties. -/
namespace Go.Proofs.YtnheioehadldmaaGreat
open Go.RowKit
theorem keysP_snoc (l : List PropG) (k : Nat) (h : k < l.length) : (keysP (l.take (k + 1))).map Value.string = (keysP (l.take k)).map Value.string ++ [.string l[k].key] := by
 unfold keysP
 rw [List.take_succ_eq_append_getElem h, List.map_append, List.map_append]; rfl
theorem keysP_len (l : List PropG) : (keysP l).length = l.length := by unfold keysP; rw [List.length_map]
theorem all_prop {l : List PropG} (h : ∀ i (hi : i < l.length), plainV l[i].v = true) : l.all (fun p => plainV p.v) = true := List.all_eq_true.2 (fun x hx => by obtain ⟨i, hi, rfl⟩ := List.getElem_of_mem hx; exact h i hi)
theorem all_prop_no {l : List PropG} (i : Nat) (hi : i < l.length) (h : plainV l[i].v = false) : l.all (fun p => plainV p.v) = false := List.all_eq_false.2 ⟨l[i], List.getElem_mem hi, by rw [h]; exact Bool.false_ne_true⟩
theorem partsE_of {L : List ByteArray} {P : List PropG} (h1 : L.length ≤ 8) (h2 : P.length ≤ 16) : partsE L P = if L.all nameB && (keysP P).all nameB then (if risesB L && risesB (keysP P) then (if P.all (fun p => plainV p.v) then 0 else 8) else 26) else 6 := by
 unfold partsE; rw [if_neg (by omega)]
set_option maxRecDepth 100000 in
set_option maxHeartbeats 1600000 in
theorem gr_parts (L : List ByteArray) (P : List PropG) (ok ok' : Nat → Prop) (A B : Option Addr) (c d : Nat) (w : World) (hv : Strs w ok A L) (hp : Props w ok' B P) :
  Calls Tryz.prog 47 #[.slice A L.length c, .slice B P.length d] w fun e w' => e = .returned (.int .i64 (partsE L P)) ∧ Ext w w' := by
 have hm := hv.len
 have hm2 := hp.len
 by_cases h8 : L.length ≤ 8
 ·by_cases h16 : P.length ≤ 16
  ·have HP := Lib.hid hp
   have HR := Lib.hid (partsE_of h8 h16)
   have HN1 := Lib.hid (fun W (e : Ext w W) => s_ContainsFS L ok A c W (hv.ext e))
   have HN2 := Lib.hid (fun W A' c' (h : Strs W (fun b => w.heap.size ≤ b) A' (keysP P)) => s_ContainsFS (keysP P) _ A' c' W h)
   have HI1 := Lib.hid (fun W (e : Ext w W) => gr_increasing L ok A c W (hv.ext e))
   have HI2 := Lib.hid (fun W A' c' (h : Strs W (fun b => w.heap.size ≤ b) A' (keysP P)) => gr_increasing (keysP P) _ A' c' W h)
   have HY := Lib.hid (all_prop (l := P))
   have HB := Lib.hid (all_prop_no (l := P))
   have HQ := Lib.hid (fun k (hk : k < P.length) (A' : Option Addr) c' W (h : Vals W ok' A' P[k].v.l) => v_Plain P[k].v ok' A' c' W h)
   have HS0 := Lib.hid (World.ownsRow_nil w w.heap.size 9 1)
   clear hv hp
   generalize partsE L P = R at *
   generalize L.all nameB = n1 at *
   obtain ⟨n2, hn2⟩ : ∃ n2, n2 = (keysP P).all nameB := ⟨_, rfl⟩
   generalize risesB L = i1 at *
   obtain ⟨i2, hi2⟩ : ∃ i2, i2 = risesB (keysP P) := ⟨_, rfl⟩
   rw [← hn2] at HN2 HR
   rw [← hi2] at HI2 HR
   clear hn2 hi2
   generalize P.all (fun p => plainV p.v) = q at *
   go_enter Tryz.func47, Tryz.ntmps47
   go_wp2_with fail
   go_loopw [5, 20] (fun v u W => ∃ k : Nat, u = .int .i64 k ∧ k ≤ P.length ∧ Hid (W.ownsRow w.heap.size 9 1 v k ((keysP (P.take k)).map Value.string)) ∧ Hid (Ext w W)) (fun _ u _ => P.length - (intOf u).toNat)
   case atStart => exact ⟨0, rfl, Nat.zero_le _, HS0, Lib.hid (Ext.refl _)⟩
   case round =>
    clear HS0
    obtain ⟨k, rfl, hk, hown, hE⟩ := hrel
    by_cases hlt : k < P.length
    ·obtain ⟨b, o, rfl, hc⟩ := HP.out.2 (by omega)
     have h5 := hE.out.cell (hc k hlt).1
     obtain ⟨-, A', c', h6, -, -⟩ := VCells.iff.1 (hc k hlt).2
     obtain ⟨d0, d1, d2, d3, d4⟩ := h6.ext hE.out
     have HSN := Lib.hid (keysP_snoc P k hlt)
     clear hc h6 HQ HB HY HN1 HN2 HI1 HI2
     generalize P[k] = x at *
     have hown' := hown.out
     have hE' := hE.out
     clear hown hE
     have hkb : k + 1 ≤ 8388608 := by omega
     go_wp2_with (at_builtin; refine own_pushH El_str rfl (.tmp 24) (.tmp 27) rfl w _ _ k _ [.string x.key] rfl (own_ext hown' (by solve_by_elim [X0, X1, X2, X3])) (hE'.trans (by solve_by_elim [X0, X1, X2, X3])) rfl (wr.heap.size + 1) (by simp) rfl rfl (by simp [Value.oneCell']) hkb (by decide) ?_; intro v2 w9 hown2 hE9 hF9; clear hF9)
     have HO2 := Lib.hid (show w9.ownsRow w.heap.size 9 1 v2 (k + 1) ((keysP (P.take (k + 1))).map Value.string) by rw [HSN.out]; exact hown2)
     have HE9 := Lib.hid hE9
     clear hown2 hE9 hown' hE'
     go_roundw
     case rel => exact ⟨k + 1, by go_num, by omega, HO2, HE9⟩
     case measure => simp [intOf]; omega
    ·obtain ⟨A1, c1, rfl, -, hS1⟩ := strs_of_own (l := keysP P) (by have := hown.out; rwa [List.take_of_length_le (by omega)] at this) (by rw [keysP_len]; omega) (by rw [keysP_len]; omega)
     have hx1 := hE.out
     clear hown hE
     generalize keysP P = KS at *
     cases n1
     ·clear HY HB HQ HI1 HI2 HN2
      go_wp2_with (first | (go_at_call 72; ((with_reducible refine (HN1.out _ (by solve_by_elim [X0, X1, X2, X3])).mono ?_); rintro e w1x ⟨rfl, rfl⟩)) | (go_at_call 72; ((with_reducible refine (HN2.out _ A1 c1 hS1).mono ?_); rintro e w1x ⟨rfl, rfl⟩)) | (go_at_call 74; ((with_reducible refine (HI1.out _ hx1).mono ?_); rintro e w2 ⟨rfl, hx2⟩)) | (go_at_call 74; ((with_reducible refine (HI2.out _ A1 c1 (hS1.ext hx2)).mono ?_); rintro e w3 ⟨rfl, hx3⟩)))
      go_ret
      exact ⟨ret_int (by rw [HR.out]; rfl), hx1⟩
     ·cases n2
      ·clear HY HB HQ HI1 HI2
       go_wp2_with (first | (go_at_call 72; ((with_reducible refine (HN1.out _ (by solve_by_elim [X0, X1, X2, X3])).mono ?_); rintro e w1x ⟨rfl, rfl⟩)) | (go_at_call 72; ((with_reducible refine (HN2.out _ A1 c1 hS1).mono ?_); rintro e w1x ⟨rfl, rfl⟩)) | (go_at_call 74; ((with_reducible refine (HI1.out _ hx1).mono ?_); rintro e w2 ⟨rfl, hx2⟩)) | (go_at_call 74; ((with_reducible refine (HI2.out _ A1 c1 (hS1.ext hx2)).mono ?_); rintro e w3 ⟨rfl, hx3⟩)))
       go_ret
       exact ⟨ret_int (by rw [HR.out]; rfl), hx1⟩
      ·cases i1
       ·clear HY HB HQ HI2
        go_wp2_with (first | (go_at_call 72; ((with_reducible refine (HN1.out _ (by solve_by_elim [X0, X1, X2, X3])).mono ?_); rintro e w1x ⟨rfl, rfl⟩)) | (go_at_call 72; ((with_reducible refine (HN2.out _ A1 c1 hS1).mono ?_); rintro e w1x ⟨rfl, rfl⟩)) | (go_at_call 74; ((with_reducible refine (HI1.out _ hx1).mono ?_); rintro e w2 ⟨rfl, hx2⟩)) | (go_at_call 74; ((with_reducible refine (HI2.out _ A1 c1 (hS1.ext hx2)).mono ?_); rintro e w3 ⟨rfl, hx3⟩)))
        go_ret
        exact ⟨ret_int (by rw [HR.out]; rfl), hx1.trans hx2⟩
       ·cases i2
        ·clear HY HB HQ
         go_wp2_with (first | (go_at_call 72; ((with_reducible refine (HN1.out _ (by solve_by_elim [X0, X1, X2, X3])).mono ?_); rintro e w1x ⟨rfl, rfl⟩)) | (go_at_call 72; ((with_reducible refine (HN2.out _ A1 c1 hS1).mono ?_); rintro e w1x ⟨rfl, rfl⟩)) | (go_at_call 74; ((with_reducible refine (HI1.out _ hx1).mono ?_); rintro e w2 ⟨rfl, hx2⟩)) | (go_at_call 74; ((with_reducible refine (HI2.out _ A1 c1 (hS1.ext hx2)).mono ?_); rintro e w3 ⟨rfl, hx3⟩)))
         go_ret
         exact ⟨ret_int (by rw [HR.out]; rfl), (hx1.trans hx2).trans hx3⟩
        ·go_wp2_with (first | (go_at_call 72; ((with_reducible refine (HN1.out _ (by solve_by_elim [X0, X1, X2, X3])).mono ?_); rintro e w1x ⟨rfl, rfl⟩)) | (go_at_call 72; ((with_reducible refine (HN2.out _ A1 c1 hS1).mono ?_); rintro e w1x ⟨rfl, rfl⟩)) | (go_at_call 74; ((with_reducible refine (HI1.out _ hx1).mono ?_); rintro e w2 ⟨rfl, hx2⟩)) | (go_at_call 74; ((with_reducible refine (HI2.out _ A1 c1 (hS1.ext hx2)).mono ?_); rintro e w3 ⟨rfl, hx3⟩)))
         have hE0 := (hx1.trans hx2).trans hx3
         clear hx1 hx2 hx3 hS1 HN1 HN2 HI1 HI2
         go_loopw [46] (fun u W => ∃ k : Nat, u = .int .i64 k ∧ k ≤ P.length ∧ Hid (∀ i (hi : i < P.length), i < k → plainV P[i].v = true) ∧ Ext w W) (fun u _ => P.length - (intOf u).toNat)
         case atStart => exact ⟨0, rfl, Nat.zero_le _, Lib.hid (fun i _ hi => absurd hi (Nat.not_lt_zero _)), hE0⟩
         case round =>
          clear hE0
          obtain ⟨k, rfl, hk, hgd, hE⟩ := hrel
          by_cases hlt : k < P.length
          ·obtain ⟨b, o, rfl, hc⟩ := HP.out.2 (by omega)
           have h5 := hE.cell (hc k hlt).1
           obtain ⟨-, A', c', h6, -, hv'⟩ := VCells.iff.1 (hc k hlt).2
           obtain ⟨d0, d1, d2, d3, d4⟩ := h6.ext hE
           have HC := Lib.hid (fun W (e : Ext wr W) => HQ.out k hlt A' c' W (hv'.ext (hE.trans e)))
           have HS := Lib.hid (fun (h : plainV P[k].v = true) i hi (hj : i < k + 1) => (if e : i = k then (by subst e; exact h) else hgd.out i hi (by omega) : plainV P[i].v = true))
           have HB' := Lib.hid (HB.out k hlt)
           clear hc h6 hv' HQ HB HY hgd
           generalize P[k].key = ky at *
           generalize P[k].v = x at *
           generalize plainV x = y at *
           cases y
           ·have HT := Lib.hid (HB'.out rfl)
            go_wp2_with (go_at_call 75; ((with_reducible refine (HC.out _ (by solve_by_elim [X0, X1, X2, X3])).mono ?_); rintro e w8 ⟨rfl, hx8⟩))
            go_ret
            exact ⟨ret_int (by rw [HR.out, HT.out]; rfl), hE.trans (Ext.trans (by solve_by_elim [X0, X1, X2, X3]) hx8)⟩
           ·have HT := Lib.hid (HS.out rfl)
            go_wp2_with (go_at_call 75; ((with_reducible refine (HC.out _ (by solve_by_elim [X0, X1, X2, X3])).mono ?_); rintro e w8 ⟨rfl, hx8⟩))
            go_roundw
            case rel => exact ⟨k + 1, by go_num, by omega, HT, hE.trans (Ext.trans (by solve_by_elim [X0, X1, X2, X3]) hx8)⟩
            case measure => simp [intOf]; omega
          ·have HT := Lib.hid (HY.out (fun i hi => hgd.out i hi (by omega)))
           go_wp2_with fail
           go_ret
           exact ⟨ret_int (by rw [HR.out, HT.out]; rfl), hE⟩
  ·have HR := Lib.hid (show partsE L P = 4 by unfold partsE; rw [if_pos (.inr (by omega))])
   clear hv hp
   go_enter Tryz.func47, Tryz.ntmps47
   go_wp2_with fail
   go_ret
   exact ⟨ret_int HR.out.symm, Ext.refl _⟩
 ·have HR := Lib.hid (show partsE L P = 4 by unfold partsE; rw [if_pos (.inl (by omega))])
  clear hv hp
  go_enter Tryz.func47, Tryz.ntmps47
  go_wp2_with fail
  go_ret
  exact ⟨ret_int HR.out.symm, Ext.refl _⟩
end Go.Proofs.YtnheioehadldmaaGreat

/- THE WALKS over the search for a node by its id: graph.has, the reference's Node; over the types of edges. -/
namespace Go.Proofs.YtnheioehadldmaaGreat
open Go.RowKit
theorem gr_has1 (n : Int) (A B : Option Addr) (na c nb d : Nat) (m : Int) (w : World) :
  Calls Tryz.prog 77 #[.agg #[.int .i64 n, .slice A na c, .slice B nb d], .int .i64 m] w fun e w' => e = .returned (.int .i64 (Lib.compareInt n m)) ∧ Ext w w' := by
 go_enter Tryz.func77, Tryz.ntmps77
 go_wp2_with (go_at_call 54; ((with_reducible refine (c_cmp_int _ _ _).mono ?_); rintro e w' ⟨rfl, rfl⟩))
 go_ret
 exact ⟨rfl, (Ext.refl _).alloc _⟩
theorem hasN_at {l : List NodeG} {n : Int} (i : Nat) (hi : i < l.length) (h : l[i]!.id = n) : hasN l n = true := by
 unfold hasN
 rw [List.any_eq_true]
 exact ⟨l[i], List.getElem_mem hi, by rw [getElem!_pos l i hi] at h; exact decide_eq_true h⟩
theorem hasN_no {l : List NodeG} {n : Int} (h : ∀ i, i < l.length → l[i]!.id ≠ n) : hasN l n = false := by
 unfold hasN
 rw [List.any_eq_false]
 intro x hx
 obtain ⟨i, hi, rfl⟩ := List.getElem_of_mem hx
 have := h i hi
 rw [getElem!_pos l i hi] at this
 rw [decide_eq_false this]; exact Bool.false_ne_true
theorem cmpI_lt {a b : Int} (h : a < b) : Lib.compareInt a b = -1 := by unfold Lib.compareInt; rw [if_pos h]
theorem cmpI_ge {a b : Int} (h : ¬ a < b) : ¬ Lib.compareInt a b < 0 := by unfold Lib.compareInt; rw [if_neg h]; split <;> omega
theorem cmpI_eq (a : Int) : Lib.compareInt a a = 0 := by unfold Lib.compareInt; rw [if_neg (by omega), if_neg (by omega)]
theorem cmpI_ne {a b : Int} (h : a ≠ b) : Lib.compareInt a b ≠ 0 := by unfold Lib.compareInt; split <;> (try split) <;> omega
set_option maxRecDepth 100000 in
set_option maxHeartbeats 1600000 in
theorem gr_BSF (l : List NodeG) (ok : Nat → Prop) (A : Option Addr) (c : Nat) (n : Int) (w : World) (hv : Nodes w ok A l) (hsort : ∀ i j, i < j → j < l.length → l[i]!.id < l[j]!.id) :
  Calls Tryz.prog 76 #[.slice A l.length c, .int .i64 n, .func (.func 77) #[] #[]] w fun e w' => (∃ i : Int, e = .returned (.tuple #[.int .i64 i, .bool (hasN l n)])) ∧ Ext w w' := by
 have hm := hv.len
 have HV := Lib.hid hv
 have HY := Lib.hid (hasN_at (l := l) (n := n))
 have HN := Lib.hid (hasN_no (l := l) (n := n))
 have HS := Lib.hid hsort
 generalize hasN l n = R at *
 clear hv hsort
 go_enter Tryz.func76, Tryz.ntmps76
 go_wp2_with fail
 go_loopw [9, 10] (fun u v W => ∃ i j : Nat, u = .int .i64 i ∧ v = .int .i64 j ∧ i ≤ j ∧ j ≤ l.length ∧ Hid (∀ t, t < i → l[t]!.id < n) ∧ Hid (∀ t, j ≤ t → t < l.length → n ≤ l[t]!.id) ∧ Ext w W) (fun u v _ => (intOf v - intOf u).toNat)
 case atStart => exact ⟨0, l.length, rfl, rfl, Nat.zero_le _, Nat.le_refl _, Lib.hid (fun t ht => absurd ht (by omega)), Lib.hid (fun t h1 h2 => absurd h1 (by omega)), Ext.refl _⟩
 case round =>
  obtain ⟨i, j, rfl, rfl, hij, hjl, hlo, hhi, hE⟩ := hrel
  by_cases hlt : i < j
  ·obtain ⟨b, off, rfl, hc⟩ := HV.out.2 (by omega)
   have hm1 : (i + j) / 2 < l.length := by omega
   obtain ⟨-, d0, A', c', B', d', d1, -, -, d2, -, -⟩ := (hc ((i + j) / 2) hm1).ext hE
   rw [← getElem!_pos l ((i + j) / 2) hm1] at d0 d1 d2
   have HL := Lib.hid (fun (h : l[(i + j) / 2]!.id < n) t (ht : t < (i + j) / 2 + 1) => (if e : t = (i + j) / 2 then (by rw [e]; exact h) else (Int.lt_trans (HS.out t _ (by omega) hm1) h) : l[t]!.id < n))
   have HH := Lib.hid (fun (h : n ≤ l[(i + j) / 2]!.id) t (ht : (i + j) / 2 ≤ t) (htl : t < l.length) => (if e : t = (i + j) / 2 then (by rw [e]; exact h) else (Int.le_trans h (Int.le_of_lt (HS.out _ t (by omega) htl))) : n ≤ l[t]!.id))
   clear hc
   generalize l[(i + j) / 2]! = x at *
   have q1 : (0 : Int) ≤ ((i : Int) + (j : Int)) / 2 := by omega
   have q2 : ((i : Int) + (j : Int)) / 2 < (l.length : Int) := by omega
   have q3 : (((i : Int) + (j : Int)) / 2).toNat = (i + j) / 2 := by omega
   by_cases ho : x.id < n
   ·have HX := Lib.hid (HL.out ho)
    have HC := Lib.hid (fun W => gr_has1 x.id A' B' x.labels.length c' x.props.length d' n W)
    rw [cmpI_lt ho] at HC
    clear ho HL HH
    go_wp2_with (go_at_call 77; ((with_reducible refine (HC.out _).mono ?_); rintro e w8 ⟨rfl, hx8⟩))
    go_roundw
    case rel => exact ⟨(i + j) / 2 + 1, j, congrArg (Value.int .i64) (by omega), rfl, by omega, hjl, HX, hhi, hE.trans hx8⟩
    case measure => simp [intOf]; omega
   ·have HX := Lib.hid (HH.out (by omega))
    have ho' := cmpI_ge ho
    have HC := Lib.hid (fun W => gr_has1 x.id A' B' x.labels.length c' x.props.length d' n W)
    generalize Lib.compareInt x.id n = z at *
    have ho2 : decide (z < 0) = false := decide_eq_false ho'
    clear ho ho' HL HH
    go_wp2_with (go_at_call 77; ((with_reducible refine (HC.out _).mono ?_); rintro e w8 ⟨rfl, hx8⟩))
    go_roundw
    case rel => exact ⟨i, (i + j) / 2, rfl, congrArg (Value.int .i64) (by omega), by omega, by omega, hlo, HX, hE.trans hx8⟩
    case measure => simp [intOf]; omega
  ·obtain rfl : i = j := by omega
   by_cases hin : i < l.length
   ·obtain ⟨b, off, rfl, hc⟩ := HV.out.2 (by omega)
    obtain ⟨-, d0, A', c', B', d', d1, -, -, d2, -, -⟩ := (hc i hin).ext hE
    rw [← getElem!_pos l i hin] at d0 d1 d2
    have HX1 := Lib.hid (HY.out i hin)
    have HX2 := Lib.hid (fun (h : l[i]!.id ≠ n) => HN.out (fun t ht => by
     rcases Nat.lt_trichotomy t i with h1 | h1 | h1
     ·have := hlo.out t h1; omega
     ·rw [h1]; exact h
     ·have h2 := hhi.out i (Nat.le_refl _) hin
      have h3 := HS.out i t h1 ht
      omega))
    have HC := Lib.hid (fun W => gr_has1 l[i]!.id A' B' l[i]!.labels.length c' l[i]!.props.length d' n W)
    clear hc HY HN
    generalize l[i]! = x at *
    by_cases he : x.id = n
    ·have HT := Lib.hid (HX1.out he)
     rw [he] at d0 HC
     rw [cmpI_eq] at HC
     clear he HX1 HX2
     go_wp2_with (go_at_call 77; ((with_reducible refine (HC.out _).mono ?_); rintro e w8 ⟨rfl, hx8⟩))
     go_ret2
     exact ⟨⟨(i : Int), by rw [HT.out]; rfl⟩, hE.trans hx8⟩
    ·have HT := Lib.hid (HX2.out he)
     have hz : (Lib.compareInt x.id n == 0) = false := beq_eq_false_iff_ne.2 (cmpI_ne he)
     generalize Lib.compareInt x.id n = z at *
     clear he HX1 HX2
     go_wp2_with (go_at_call 77; ((with_reducible refine (HC.out _).mono ?_); rintro e w8 ⟨rfl, hx8⟩))
     go_ret2
     exact ⟨⟨(i : Int), by rw [HT.out]; rfl⟩, hE.trans hx8⟩
   ·have HT := Lib.hid (HN.out (fun t ht => by have := hlo.out t (by omega); omega))
    go_wp2_with fail
    go_ret2
    exact ⟨⟨(i : Int), by rw [HT.out]; rfl⟩, hE⟩
set_option maxRecDepth 100000 in
theorem gr_has (l : List NodeG) (ok : Nat → Prop) (A : Option Addr) (c : Nat) (n : Int) (w : World) (hv : Nodes w ok A l) (hsort : ∀ i j, i < j → j < l.length → l[i]!.id < l[j]!.id) :
  Calls Tryz.prog 48 #[.slice A l.length c, .int .i64 n] w fun e w' => e = .returned (.bool (hasN l n)) ∧ Ext w w' := by
 have HC := Lib.hid (gr_BSF l ok A c n w hv hsort)
 clear hv hsort
 generalize hasN l n = R at *
 go_enter Tryz.func48, Tryz.ntmps48
 go_wp2_with (go_at_call 76; ((with_reducible refine (HC.out).mono ?_); rintro e w8 ⟨⟨i, rfl⟩, hx8⟩))
 go_ret
 exact ⟨rfl, hx8⟩
theorem box_graph (w : World) (A B : Option Addr) (c d : Nat) (g : GraphG) (t : TypeId) : ∃ (q : Nat) (w1 : World), q = w.heap.size ∧ w1 = w.alloc (.cells #[.slice A g.nodes.length c, .slice B g.edges.length d, .int .i64 g.nn, .int .i64 g.ne] t) ∧ w1.cell? ⟨q, 0, none⟩ = some (.slice A g.nodes.length c) ∧ w1.cell? ⟨q, 1, none⟩ = some (.slice B g.edges.length d) ∧ w1.cell? ⟨q, 2, none⟩ = some (.int .i64 g.nn) ∧ w1.cell? ⟨q, 3, none⟩ = some (.int .i64 g.ne) ∧ Ext w w1 :=
 ⟨_, _, rfl, rfl, by go_simp, by go_simp, by go_simp, by go_simp, (Ext.refl _).alloc _⟩
def typB (types : List ByteArray) (t : ByteArray) : Bool := decide (types.length = 0) || memB t types
set_option maxRecDepth 100000 in
theorem gr_HasType (types : List ByteArray) (x : EdgeG) (ok : Nat → Prop) (A B : Option Addr) (c m d : Nat) (w : World) (hv : Strs w ok A types) :
  Calls Tryz.prog 50 #[.agg #[.int .i64 x.id, .int .i64 x.frm, .int .i64 x.to_, .string x.typ, .slice B m d], .slice A types.length c] w fun e w' => e = .returned (.bool (typB types x.typ)) ∧ Ext w w' := by
 have hm := hv.len
 have HC := Lib.hid (fun W (e : Ext w W) => s_ContainsS types x.typ ok A c W (hv.ext e))
 have HQ := Lib.hid (show typB types x.typ = (decide (types.length = 0) || memB x.typ types) from rfl)
 generalize typB types x.typ = R at *
 generalize memB x.typ types = q at *
 clear hv
 by_cases h0 : types.length = 0
 ·have hz : ((types.length : Int) == 0) = true := by rw [h0]; rfl
  go_enter Tryz.func50, Tryz.ntmps50
  go_wp2_with (go_at_call 78; ((with_reducible refine (HC.out _ (by solve_by_elim [X0, X1, X2, X3])).mono ?_); rintro e w8 ⟨rfl, rfl⟩))
  go_ret
  exact ⟨ret_bool (by rw [HQ.out, decide_eq_true h0]; rfl), (by solve_by_elim [X0, X1, X2, X3])⟩
 ·have hz : ((types.length : Int) == 0) = false := beq_eq_false_iff_ne.2 (by omega)
  have HR := Lib.hid (show R = q by rw [HQ.out, decide_eq_false h0]; rfl)
  clear h0 HQ
  go_enter Tryz.func50, Tryz.ntmps50
  go_wp2_with (go_at_call 78; ((with_reducible refine (HC.out _ (by solve_by_elim [X0, X1, X2, X3])).mono ?_); rintro e w8 ⟨rfl, rfl⟩))
  go_ret
  exact ⟨ret_bool HR.out.symm, (by solve_by_elim [X0, X1, X2, X3])⟩
end Go.Proofs.YtnheioehadldmaaGreat
