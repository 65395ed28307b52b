/- PARTS OF THE WALKS, joined: SaB, SaA, SaC, SaD. -/
import Derived.Test.YtnheioehadldmaaGreatR06
import Derived.Deep.RegionHeld3
import Derived.WalkSpells
import Derived.Deep.Cut
import Derived.BigRegion
import Derived.WalkKit
import Derived.Laws.BitsAllLaws
/- THE WALK over slices.insertionSortCmpFunc, at entries. -/
namespace Go.Proofs.YtnheioehadldmaaGreat
open Go.RowKit Go.Sort
set_option maxRecDepth 100000 in
set_option maxHeartbeats 1600000 in
theorem sm_insert (w0 : World) (B g cap : Nat) (cf : Sh → Sh → Int) (f : Nat) (cb : Array Value) (d : Array Sh) (a b : Nat) (w : World)
  (eg : ∀ args w, (callFunc f args).run Tryz.prog w = .ok (.enter f args) w) (hcmp : CmpOkM Tryz.prog f cb cf w0 g) (hS : SWO (ltM cf)) (hs : SortM w0 B g cap 41 d w) (hab : a ≤ b) (hb : b ≤ d.size) (hsz : d.size ≤ 8000000) :
  Calls Tryz.prog 92 #[.slice (some ⟨g, 0, none⟩) d.size cap, .int .i64 a, .int .i64 b, .func (.func f) #[] cb] w fun e w' => e = .returned (.tuple #[]) ∧ ∃ d', SortM w0 B g cap 41 d' w' ∧ PermIn a b d d' ∧ SortedIn (ltM cf) a b d' := by
 have HS := Lib.hid hs
 have HC := Lib.hid hcmp
 have HW := Lib.hid hS
 clear hs hcmp hS
 go_enter Tryz.func92, Tryz.ntmps92
 go_wp2
 go_loopw [8] (fun u W => ∃ (i : Nat) (e : Array Sh), u = .int .i64 i ∧ a < i ∧ Hid (i ≤ b ∨ i = a + 1) ∧ Hid (SortM w0 B g cap 41 e W) ∧ Hid (SortedIn (ltM cf) a i e) ∧ Hid (PermIn a b d e)) (fun u _ => b + 1 - (intOf u).toNat)
 case atStart => exact ⟨a + 1, d, by go_num, by omega, Lib.hid (.inr rfl), HS, Lib.hid (fun p q h1 h2 h3 => by omega), Lib.hid (permIn_refl _ _ _)⟩
 case round =>
  obtain ⟨i, e, rfl, hai, hib, he, hso, hp⟩ := hrel
  by_cases hlt : i < b
  ·go_wp2_with fail
   go_loopw [9] (fun u W => ∃ (j : Nat) (e : Array Sh), u = .int .i64 j ∧ a ≤ j ∧ j ≤ i ∧ Hid (SortM w0 B g cap 41 e W) ∧ Hid (Ins (ltM cf) a j i e) ∧ Hid (PermIn a b d e)) (fun u _ => (intOf u).toNat)
   case atStart => exact ⟨i, e, rfl, by omega, Nat.le_refl _, he, Lib.hid ⟨fun p q hap hpq hqi _ hq => hso.out p q hap hpq (by omega), fun q h1 h2 => by omega⟩, hp⟩
   case round =>
    clear he hso hp hib
    obtain ⟨j, e, rfl, haj, hji, he, hin, hp⟩ := hrel
    have hes := hp.out.1
    by_cases hja : a < j
    ·obtain ⟨jp, rfl⟩ : ∃ jp, j = jp + 1 := ⟨j - 1, by omega⟩
     obtain ⟨c10, c11, c12⟩ := he.out.cells (show jp + 1 < e.size by omega)
     obtain ⟨c20, c21, c22⟩ := he.out.cells (show jp < e.size by omega)
     have HN := Lib.hid (fun V (h : Ext wr V) => ((he.out.ext h).swap (jp + 1) jp).drew)
     have HX := Lib.hid (fun V (h : Ext wr V) => he.out.ext h)
     have HQ := Lib.hid (fun V (h : Ext wr V) => HC.out V (he.out.ext h).gr e[jp + 1]! e[jp]!)
     have HG := Lib.hid (fun (h : cf e[jp + 1]! e[jp]! < 0) => hin.out.step (ltM_t h) (by omega) (by omega))
     have HE := Lib.hid (fun (h : ¬ cf e[jp + 1]! e[jp]! < 0) => hin.out.stop HW.out (.inr (ltM_f h)))
     have HP := Lib.hid (permIn_trans _ _ _ a b hp.out (swp_permIn e a b (jp + 1) jp (by omega) (by omega) (by omega) (by omega) (by omega)))
     generalize cf e[jp + 1]! e[jp]! = z at *
     generalize e[jp + 1]! = x1 at *
     generalize e[jp]! = x2 at *
     have MK := Lib.hid (fun V (e : Ext wr V) => (⟨e.cell c10, e.cell c11, e.cell c12, e.cell c20, e.cell c21, e.cell c22, e⟩ : V.cell? ⟨g, (jp + 1) * 3, none⟩ = some (.int .i64 x1.id) ∧ V.cell? ⟨g, (jp + 1) * 3 + 1, none⟩ = some (.int .i64 x1.n) ∧ V.cell? ⟨g, (jp + 1) * 3 + 2, none⟩ = some (.int .i64 x1.d) ∧ V.cell? ⟨g, jp * 3, none⟩ = some (.int .i64 x2.id) ∧ V.cell? ⟨g, jp * 3 + 1, none⟩ = some (.int .i64 x2.n) ∧ V.cell? ⟨g, jp * 3 + 2, none⟩ = some (.int .i64 x2.d) ∧ Ext wr V))
     have hwp : IntKind.i64.wrap (jp : Int) = (jp : Int) := by rw [IntKind.wrap_i64]; omega
     have b1 : (jp : Int) + 1 < (d.size : Int) := by omega
     have b2 : (jp : Int) < (d.size : Int) := by omega
     have b3 : (0 : Int) ≤ (jp : Int) + 1 := by omega
     have b4 : ((jp : Int) + 1).toNat = jp + 1 := by omega
     have hjaz' : (a : Int) < (jp : Int) + 1 := by omega
     by_cases hz : z < 0
     ·have hg := Lib.hid (HG.out hz)
      clear HG HE c10 c11 c12 c20 c21 c22
      go_wp2_with fail
      go_region_held3 (fun V => V.cell? ⟨g, (jp + 1) * 3, none⟩ = some (.int .i64 x1.id) ∧ V.cell? ⟨g, (jp + 1) * 3 + 1, none⟩ = some (.int .i64 x1.n) ∧ V.cell? ⟨g, (jp + 1) * 3 + 2, none⟩ = some (.int .i64 x1.d) ∧ V.cell? ⟨g, jp * 3, none⟩ = some (.int .i64 x2.id) ∧ V.cell? ⟨g, jp * 3 + 1, none⟩ = some (.int .i64 x2.n) ∧ V.cell? ⟨g, jp * 3 + 2, none⟩ = some (.int .i64 x2.d) ∧ Ext wr V) ((exact MK.out _ (by solve_by_elim [X0, X1, X2, X3]))) ((refine (HQ.out _ (by solve_by_elim [X0, X1, X2, X3])).mono ?_; rintro e w' ⟨rfl, hb⟩; replace hb : Ext wr w' := Ext.trans (by solve_by_elim [X0, X1, X2, X3]) hb))
      rename_i hHeld
      have hN := Lib.hid (HN.out w' hb)
      obtain ⟨g10, g11, g12, g20, g21, g22, -⟩ := hHeld
      have f10 := (HX.out w' hb).frozen ((jp + 1) * 3)
      have f11 := (HX.out w' hb).frozen ((jp + 1) * 3 + 1)
      have f12 := (HX.out w' hb).frozen ((jp + 1) * 3 + 2)
      have f20 := (HX.out w' hb).frozen (jp * 3)
      have f21 := (HX.out w' hb).frozen (jp * 3 + 1)
      have f22 := (HX.out w' hb).frozen (jp * 3 + 2)
      clear HN HX HQ MK
      have MKE := Lib.hid (fun V (e : Ext w' V) => (⟨e.cell g10, e.cell g11, e.cell g12, e.cell g20, e.cell g21, e.cell g22⟩ : V.cell? ⟨g, (jp + 1) * 3, none⟩ = some (.int .i64 x1.id) ∧ V.cell? ⟨g, (jp + 1) * 3 + 1, none⟩ = some (.int .i64 x1.n) ∧ V.cell? ⟨g, (jp + 1) * 3 + 2, none⟩ = some (.int .i64 x1.d) ∧ V.cell? ⟨g, jp * 3, none⟩ = some (.int .i64 x2.id) ∧ V.cell? ⟨g, jp * 3 + 1, none⟩ = some (.int .i64 x2.n) ∧ V.cell? ⟨g, jp * 3 + 2, none⟩ = some (.int .i64 x2.d)))
      go_upto_region 6 with (fail)
      refine AnyE.start (S := (fun V => V.cell? ⟨g, (jp + 1) * 3, none⟩ = some (.int .i64 x1.id) ∧ V.cell? ⟨g, (jp + 1) * 3 + 1, none⟩ = some (.int .i64 x1.n) ∧ V.cell? ⟨g, (jp + 1) * 3 + 2, none⟩ = some (.int .i64 x1.d) ∧ V.cell? ⟨g, jp * 3, none⟩ = some (.int .i64 x2.id) ∧ V.cell? ⟨g, jp * 3 + 1, none⟩ = some (.int .i64 x2.n) ∧ V.cell? ⟨g, jp * 3 + 2, none⟩ = some (.int .i64 x2.d))) (E := 15) (by kernel_rfl) ?hs1 (fun hHeld => ?go1)
      case hs1 => (exact MKE.out _ (by solve_by_elim [X0, X1, X2, X3]))
      refine AnyE.takeP (i := 0) (oi := ⟨_, _, _, _, _, _⟩) (v := ?v2) rfl (by kernel_rfl) (by kernel_rfl) (by kernel_rfl) (fun _ _ _ h => h) rfl (Or.inl ⟨rfl, ?hy2⟩) (fun _ => hHeld) ?_
      case hy2 => (intro w _; go_simp <;> rfl)
      (try simp only [PU])
      refine AnyE.takeP (i := 1) (oi := ⟨_, _, _, _, _, _⟩) (v := ?v3) rfl (by kernel_rfl) (by kernel_rfl) (by kernel_rfl) (fun _ _ _ h => h) rfl (Or.inl ⟨rfl, ?hy3⟩) (fun _ => hHeld) ?_
      case hy3 => (intro w _; go_simp <;> rfl)
      (try simp only [PU])
      refine AnyE.takeP (i := 2) (oi := ⟨_, _, _, _, _, _⟩) (v := ?v4) rfl (by kernel_rfl) (by kernel_rfl) (by kernel_rfl) (fun _ _ _ h => h) rfl (Or.inl ⟨rfl, ?hy4⟩) (fun _ => hHeld) ?_
      case hy4 => (intro w _; go_simp <;> rfl)
      (try simp only [PU])
      refine AnyE.takeP (i := 3) (oi := ⟨_, _, _, _, _, _⟩) (v := ?v5) rfl (by kernel_rfl) (by kernel_rfl) (by kernel_rfl) (fun _ _ _ h => h) rfl (Or.inl ⟨rfl, ?hy5⟩) (fun _ => hHeld) ?_
      case hy5 => (intro w _; go_simp <;> rfl)
      (try simp only [PU])
      refine AnyE.takeP (i := 4) (oi := ⟨_, _, _, _, _, _⟩) (v := ?v6) rfl (by kernel_rfl) (by kernel_rfl) (by kernel_rfl) (fun _ _ _ h => h) rfl (Or.inl ⟨rfl, ?hy6⟩) (fun _ => hHeld) ?_
      case hy6 => (intro w _; go_simp <;> first | with_reducible rfl | rw [if_neg (by omega)] | rw [if_pos (by omega)])
      (try simp only [PU])
      refine AnyE.takeP (i := 5) (oi := ⟨_, _, _, _, _, _⟩) (v := ?v7) rfl (by kernel_rfl) (by kernel_rfl) (by kernel_rfl) (fun _ _ _ h => h) rfl (Or.inl ⟨rfl, ?hy7⟩) (fun _ => hHeld) ?_
      case hy7 => (intro w _; go_simp <;> rfl)
      (try simp only [PU])
      refine AnyE.takeP (i := 6) (oi := ⟨_, _, _, _, _, _⟩) (v := ?v8) rfl (by kernel_rfl) (by kernel_rfl) (by kernel_rfl) (fun _ _ _ h => h) rfl (Or.inl ⟨rfl, ?hy8⟩) (fun _ => hHeld) ?_
      case hy8 => (intro w _; go_simp <;> rfl)
      (try simp only [PU])
      refine AnyE.takeP (i := 7) (oi := ⟨_, _, _, _, _, _⟩) (v := ?v9) rfl (by kernel_rfl) (by kernel_rfl) (by kernel_rfl) (fun _ _ _ h => h) rfl (Or.inl ⟨rfl, ?hy9⟩) (fun _ => hHeld) ?_
      case hy9 => (intro w _; go_simp <;> first | with_reducible rfl | rw [if_neg (by omega)] | rw [if_pos (by omega)])
      (try simp only [PU])
      refine AnyE.takeP (i := 8) (oi := ⟨_, _, _, _, _, _⟩) (v := ?v10) rfl (by kernel_rfl) (by kernel_rfl) (by kernel_rfl) (fun _ _ _ h => h) rfl (Or.inl ⟨rfl, ?hy10⟩) (fun _ => hHeld) ?_
      case hy10 => (intro w _; go_simp <;> first | with_reducible rfl | rw [if_neg (by omega)] | rw [if_pos (by omega)])
      (try simp only [PU])
      refine AnyE.take (i := 9) (oi := ⟨_, _, _, _, _, _⟩) (v := ?v11) rfl (by kernel_rfl) (by kernel_rfl) (by kernel_rfl) (fun _ _ _ h => h) (by kernel_rfl) rfl (by kernel_rfl) (Or.inl ⟨rfl, ?hy11⟩) hHeld ?_
      case hy11 => (intro w hSw; (try dsimp only at hSw); go_simp <;> first | with_reducible rfl | rw [if_neg (by omega)] | rw [if_pos (by omega)])
      (try simp only [PU])
      refine AnyE.takeP (i := 10) (oi := ⟨_, _, _, _, _, _⟩) (v := ?v12) rfl (by kernel_rfl) (by kernel_rfl) (by kernel_rfl) (fun _ _ _ h => h) rfl (Or.inl ⟨rfl, ?hy12⟩) (fun _ => hHeld) ?_
      case hy12 => (intro w _; go_simp <;> rfl)
      (try simp only [PU])
      refine AnyE.takeP (i := 11) (oi := ⟨_, _, _, _, _, _⟩) (v := ?v13) rfl (by kernel_rfl) (by kernel_rfl) (by kernel_rfl) (fun _ _ _ h => h) rfl (Or.inl ⟨rfl, ?hy13⟩) (fun _ => hHeld) ?_
      case hy13 => (intro w _; go_simp <;> rfl)
      (try simp only [PU])
      refine AnyE.takeP (i := 12) (oi := ⟨_, _, _, _, _, _⟩) (v := ?v14) rfl (by kernel_rfl) (by kernel_rfl) (by kernel_rfl) (fun _ _ _ h => h) rfl (Or.inl ⟨rfl, ?hy14⟩) (fun _ => hHeld) ?_
      case hy14 => (intro w _; go_simp <;> first | with_reducible rfl | rw [if_neg (by omega)] | rw [if_pos (by omega)])
      (try simp only [PU])
      refine AnyE.take (i := 13) (oi := ⟨_, _, _, _, _, _⟩) (v := ?v15) rfl (by kernel_rfl) (by kernel_rfl) (by kernel_rfl) (fun _ _ _ h => h) (by kernel_rfl) rfl (by kernel_rfl) (Or.inl ⟨rfl, ?hy15⟩) hHeld ?_
      case hy15 => (intro w hSw; (try dsimp only at hSw); go_simp <;> first | with_reducible rfl | rw [if_neg (by omega)] | rw [if_pos (by omega)])
      (try simp only [PU])
      refine AnyE.takeP (i := 14) (oi := ⟨_, _, _, _, _, _⟩) (v := ?v16) rfl (by kernel_rfl) (by kernel_rfl) (by kernel_rfl) (fun _ _ _ h => h) rfl (Or.inl ⟨rfl, ?hy16⟩) (fun _ => hHeld) ?_
      case hy16 => (intro w _; go_simp <;> first | with_reducible rfl | rw [if_neg (by omega)] | rw [if_pos (by omega)])
      (try simp only [PU])
      refine AnyE.ready (rs := [15]) (by kernel_rfl) (by simp) ?_
      refine AllE.cons (o := ⟨_, _, _, _, _, _⟩) rfl (fun K hK => ?step17x0) ?more17x0
      case more17x0 => exact AllE.nil
      go_simp
      refine hK.out _ _ ?hS17x0 (fun H17 => ?_)
      case hS17x0 => first | (intro h; exact absurd h (by decide)) | (intro h; simp at h)
      clear hK K
      clear hHeld
      refine AnyE.ready (rs := [16]) (by kernel_rfl) (by simp) ?_
      refine AllE.cons (o := ⟨_, _, _, _, _, _⟩) rfl (fun K hK => ?step18x0) ?more18x0
      case more18x0 => exact AllE.nil
      go_simp
      refine hK.out _ _ ?hS18x0 (fun H18 => ?_)
      case hS18x0 => first | (intro h; exact absurd h (by decide)) | (intro h; simp at h)
      clear hK K
      clear H17
      (try simp only [PU])
      refine AnyE.ready (rs := [17]) (by kernel_rfl) (by simp) ?_
      refine AllE.cons (o := ⟨_, _, _, _, _, _⟩) rfl (fun K hK => ?step19x0) ?more19x0
      case more19x0 => exact AllE.nil
      go_simp
      refine hK.out _ _ ?hS19x0 (fun H19 => ?_)
      case hS19x0 => first | (intro h; exact absurd h (by decide)) | (intro h; simp at h)
      clear hK K
      clear H18
      refine AnyE.done (by kernel_rfl) ?_ _
      clear H19
      go_wp2_with fail

      go_roundw
      case rel => exact ⟨jp, swp e (jp + 1) jp, by first | rfl | go_num, by omega, by omega, hN, hg, HP⟩
      case measure => simp [intOf]
     ·have he := Lib.hid (HE.out hz)
      clear HG HE HN c10 c11 c12 c20 c21 c22
      go_wp2_with fail
      go_region_held3 (fun V => V.cell? ⟨g, (jp + 1) * 3, none⟩ = some (.int .i64 x1.id) ∧ V.cell? ⟨g, (jp + 1) * 3 + 1, none⟩ = some (.int .i64 x1.n) ∧ V.cell? ⟨g, (jp + 1) * 3 + 2, none⟩ = some (.int .i64 x1.d) ∧ V.cell? ⟨g, jp * 3, none⟩ = some (.int .i64 x2.id) ∧ V.cell? ⟨g, jp * 3 + 1, none⟩ = some (.int .i64 x2.n) ∧ V.cell? ⟨g, jp * 3 + 2, none⟩ = some (.int .i64 x2.d) ∧ Ext wr V) ((exact MK.out _ (by solve_by_elim [X0, X1, X2, X3]))) ((refine (HQ.out _ (by solve_by_elim [X0, X1, X2, X3])).mono ?_; rintro e w' ⟨rfl, hb⟩; replace hb : Ext wr w' := Ext.trans (by solve_by_elim [X0, X1, X2, X3]) hb))
      have hN := Lib.hid (HX.out w' hb)
      clear HX HQ MK
      go_wp2
      go_roundw
      case rel => exact ⟨i + 1, e, by go_num, by omega, Lib.hid (.inl (by omega)), hN, he, hp⟩
      case measure => simp [intOf]; omega
    ·have hja2 : j = a := by omega
     subst hja2
     have HE := Lib.hid (hin.out.stop HW.out (.inl (Nat.le_refl _)))
     have hjaz : decide ((j : Int) > (j : Int)) = false := decide_eq_false (by omega)
     go_wp2_with fail
     go_big_region
     all_goals go_wp2
     all_goals go_roundw
     case rel => exact ⟨i + 1, e, by go_num, by omega, Lib.hid (.inl (by omega)), Lib.hid he.out.drew, HE, hp⟩
     case measure => simp [intOf]; omega
  ·have HE := Lib.hid (show SortedIn (ltM cf) a b e from by
    rcases hib.out with h | h
    ·have : i = b := by omega
     subst this; exact hso.out
    ·intro p q h1 h2 h3; omega)
   go_wp2
   go_end0
   exact ⟨rfl, e, he.out, hp.out, HE.out⟩
end Go.Proofs.YtnheioehadldmaaGreat

/- THE WALKS over slices.swapRangeCmpFunc, rotateCmpFunc, at entries. -/
namespace Go.Proofs.YtnheioehadldmaaGreat
open Go.RowKit Go.Sort
set_option maxRecDepth 100000 in
set_option maxHeartbeats 1600000 in
theorem sm_range (w0 : World) (B g cap : Nat) (d : Array Sh) (a b n : Nat) (fv : Value) (w : World) (hs : SortM w0 B g cap 41 d w) (hab : a + n ≤ b) (hb : b + n ≤ d.size) (hsz : d.size ≤ 8000000) (lo hi : Nat) (hlo : lo ≤ a) (hhi : b + n ≤ hi) (hhs : hi ≤ d.size) :
  Calls Tryz.prog 120 #[.slice (some ⟨g, 0, none⟩) d.size cap, .int .i64 a, .int .i64 b, .int .i64 n, fv] w fun e w' => e = .returned (.tuple #[]) ∧ ∃ d', SortM w0 B g cap 41 d' w' ∧ d'.size = d.size ∧ (∀ x, d'[x]! = d[swS a b n x]!) ∧ PermIn lo hi d d' := by
 have HS := Lib.hid hs
 clear hs
 go_enter Tryz.func120, Tryz.ntmps120
 go_wp2
 go_loopw [10] (fun u W => ∃ (i : Nat) (e : Array Sh), u = .int .i64 i ∧ i ≤ n ∧ Hid (SortM w0 B g cap 41 e W) ∧ e.size = d.size ∧ Hid (∀ x, e[x]! = d[swS a b i x]!) ∧ Hid (PermIn lo hi d e)) (fun u _ => n - (intOf u).toNat)
 case atStart => exact ⟨0, d, rfl, Nat.zero_le _, HS, rfl, Lib.hid (fun x => by rw [swS_zero]), Lib.hid (permIn_refl _ _ _)⟩
 case round =>
  obtain ⟨i, e, rfl, hi', he, hes, hx, hp⟩ := hrel
  by_cases hlt : i < n
  ·have HX := Lib.hid (swS_step d e hes hab hlt (by omega) hx.out)
   have HP := Lib.hid (permIn_trans _ _ _ lo hi hp.out (swp_permIn e lo hi (a + i) (b + i) (by omega) (by omega) (by omega) (by omega) (by omega)))
   have HZ := Lib.hid (size_swp e (a + i) (b + i))
   obtain ⟨c10, c11, c12⟩ := he.out.cells (show a + i < e.size by omega)
   obtain ⟨c20, c21, c22⟩ := he.out.cells (show b + i < e.size by omega)
   have f10 := he.out.frozen ((a + i) * 3)
   have f11 := he.out.frozen ((a + i) * 3 + 1)
   have f12 := he.out.frozen ((a + i) * 3 + 2)
   have f20 := he.out.frozen ((b + i) * 3)
   have f21 := he.out.frozen ((b + i) * 3 + 1)
   have f22 := he.out.frozen ((b + i) * 3 + 2)
   have HN := Lib.hid ((he.out.swap (a + i) (b + i)).drew)
   generalize e[a + i]! = x1 at *
   generalize e[b + i]! = x2 at *
   have MKE := Lib.hid (fun V (e : Ext wr V) => (⟨e.cell c10, e.cell c11, e.cell c12, e.cell c20, e.cell c21, e.cell c22⟩ : V.cell? ⟨g, (a + i) * 3, none⟩ = some (.int .i64 x1.id) ∧ V.cell? ⟨g, (a + i) * 3 + 1, none⟩ = some (.int .i64 x1.n) ∧ V.cell? ⟨g, (a + i) * 3 + 2, none⟩ = some (.int .i64 x1.d) ∧ V.cell? ⟨g, (b + i) * 3, none⟩ = some (.int .i64 x2.id) ∧ V.cell? ⟨g, (b + i) * 3 + 1, none⟩ = some (.int .i64 x2.n) ∧ V.cell? ⟨g, (b + i) * 3 + 2, none⟩ = some (.int .i64 x2.d)))
   have wa : IntKind.i64.wrap ((a : Int) + (i : Int)) = (a : Int) + (i : Int) := by rw [IntKind.wrap_i64]; omega
   have wb : IntKind.i64.wrap ((b : Int) + (i : Int)) = (b : Int) + (i : Int) := by rw [IntKind.wrap_i64]; omega
   have ta : ((a : Int) + (i : Int)).toNat = a + i := by omega
   have tb : ((b : Int) + (i : Int)).toNat = b + i := by omega
   have ba : (a : Int) + (i : Int) < (d.size : Int) := by omega
   have bb : (b : Int) + (i : Int) < (d.size : Int) := by omega
   have za : (0 : Int) ≤ (a : Int) + (i : Int) := by omega
   have zb : (0 : Int) ≤ (b : Int) + (i : Int) := by omega
   go_upto_region 3 with (fail)
   refine AnyE.start (S := (fun V => V.cell? ⟨g, (a + i) * 3, none⟩ = some (.int .i64 x1.id) ∧ V.cell? ⟨g, (a + i) * 3 + 1, none⟩ = some (.int .i64 x1.n) ∧ V.cell? ⟨g, (a + i) * 3 + 2, none⟩ = some (.int .i64 x1.d) ∧ V.cell? ⟨g, (b + i) * 3, none⟩ = some (.int .i64 x2.id) ∧ V.cell? ⟨g, (b + i) * 3 + 1, none⟩ = some (.int .i64 x2.n) ∧ V.cell? ⟨g, (b + i) * 3 + 2, none⟩ = some (.int .i64 x2.d))) (E := 21) (by kernel_rfl) ?hs1 (fun hHeld => ?go1)
   case hs1 => (exact MKE.out _ (by solve_by_elim [X0, X1, X2, X3]))
   refine AnyE.takeP (i := 0) (oi := ⟨_, _, _, _, _, _⟩) (v := ?v2) rfl (by kernel_rfl) (by kernel_rfl) (by kernel_rfl) (fun _ _ _ h => h) rfl (Or.inl ⟨rfl, ?hy2⟩) (fun _ => hHeld) ?_
   case hy2 => (intro w _; go_simp <;> rfl)
   (try simp only [PU])
   refine AnyE.takeP (i := 1) (oi := ⟨_, _, _, _, _, _⟩) (v := ?v3) rfl (by kernel_rfl) (by kernel_rfl) (by kernel_rfl) (fun _ _ _ h => h) rfl (Or.inl ⟨rfl, ?hy3⟩) (fun _ => hHeld) ?_
   case hy3 => (intro w _; go_simp <;> rfl)
   (try simp only [PU])
   refine AnyE.takeP (i := 2) (oi := ⟨_, _, _, _, _, _⟩) (v := ?v4) rfl (by kernel_rfl) (by kernel_rfl) (by kernel_rfl) (fun _ _ _ h => h) rfl (Or.inl ⟨rfl, ?hy4⟩) (fun _ => hHeld) ?_
   case hy4 => (intro w _; go_simp <;> rfl)
   (try simp only [PU])
   refine AnyE.takeP (i := 3) (oi := ⟨_, _, _, _, _, _⟩) (v := ?v5) rfl (by kernel_rfl) (by kernel_rfl) (by kernel_rfl) (fun _ _ _ h => h) rfl (Or.inl ⟨rfl, ?hy5⟩) (fun _ => hHeld) ?_
   case hy5 => (intro w _; go_simp <;> first | with_reducible rfl | rw [if_neg (by omega)] | rw [if_pos (by omega)])
   (try simp only [PU])
   refine AnyE.takeP (i := 4) (oi := ⟨_, _, _, _, _, _⟩) (v := ?v6) rfl (by kernel_rfl) (by kernel_rfl) (by kernel_rfl) (fun _ _ _ h => h) rfl (Or.inl ⟨rfl, ?hy6⟩) (fun _ => hHeld) ?_
   case hy6 => (intro w _; go_simp <;> rfl)
   (try simp only [PU])
   refine AnyE.takeP (i := 5) (oi := ⟨_, _, _, _, _, _⟩) (v := ?v7) rfl (by kernel_rfl) (by kernel_rfl) (by kernel_rfl) (fun _ _ _ h => h) rfl (Or.inl ⟨rfl, ?hy7⟩) (fun _ => hHeld) ?_
   case hy7 => (intro w _; go_simp <;> rfl)
   (try simp only [PU])
   refine AnyE.takeP (i := 6) (oi := ⟨_, _, _, _, _, _⟩) (v := ?v8) rfl (by kernel_rfl) (by kernel_rfl) (by kernel_rfl) (fun _ _ _ h => h) rfl (Or.inl ⟨rfl, ?hy8⟩) (fun _ => hHeld) ?_
   case hy8 => (intro w _; go_simp <;> rfl)
   (try simp only [PU])
   refine AnyE.takeP (i := 7) (oi := ⟨_, _, _, _, _, _⟩) (v := ?v9) rfl (by kernel_rfl) (by kernel_rfl) (by kernel_rfl) (fun _ _ _ h => h) rfl (Or.inl ⟨rfl, ?hy9⟩) (fun _ => hHeld) ?_
   case hy9 => (intro w _; go_simp <;> first | with_reducible rfl | rw [if_neg (by omega)] | rw [if_pos (by omega)])
   (try simp only [PU])
   refine AnyE.takeP (i := 8) (oi := ⟨_, _, _, _, _, _⟩) (v := ?v10) rfl (by kernel_rfl) (by kernel_rfl) (by kernel_rfl) (fun _ _ _ h => h) rfl (Or.inl ⟨rfl, ?hy10⟩) (fun _ => hHeld) ?_
   case hy10 => (intro w _; go_simp <;> rfl)
   (try simp only [PU])
   refine AnyE.takeP (i := 9) (oi := ⟨_, _, _, _, _, _⟩) (v := ?v11) rfl (by kernel_rfl) (by kernel_rfl) (by kernel_rfl) (fun _ _ _ h => h) rfl (Or.inl ⟨rfl, ?hy11⟩) (fun _ => hHeld) ?_
   case hy11 => (intro w _; go_simp <;> rfl)
   (try simp only [PU])
   refine AnyE.takeP (i := 10) (oi := ⟨_, _, _, _, _, _⟩) (v := ?v12) rfl (by kernel_rfl) (by kernel_rfl) (by kernel_rfl) (fun _ _ _ h => h) rfl (Or.inl ⟨rfl, ?hy12⟩) (fun _ => hHeld) ?_
   case hy12 => (intro w _; go_simp <;> rfl)
   (try simp only [PU])
   refine AnyE.takeP (i := 11) (oi := ⟨_, _, _, _, _, _⟩) (v := ?v13) rfl (by kernel_rfl) (by kernel_rfl) (by kernel_rfl) (fun _ _ _ h => h) rfl (Or.inl ⟨rfl, ?hy13⟩) (fun _ => hHeld) ?_
   case hy13 => (intro w _; go_simp <;> first | with_reducible rfl | rw [if_neg (by omega)] | rw [if_pos (by omega)])
   (try simp only [PU])
   refine AnyE.takeP (i := 12) (oi := ⟨_, _, _, _, _, _⟩) (v := ?v14) rfl (by kernel_rfl) (by kernel_rfl) (by kernel_rfl) (fun _ _ _ h => h) rfl (Or.inl ⟨rfl, ?hy14⟩) (fun _ => hHeld) ?_
   case hy14 => (intro w _; go_simp <;> first | with_reducible rfl | rw [if_neg (by omega)] | rw [if_pos (by omega)])
   (try simp only [PU])
   refine AnyE.take (i := 13) (oi := ⟨_, _, _, _, _, _⟩) (v := ?v15) rfl (by kernel_rfl) (by kernel_rfl) (by kernel_rfl) (fun _ _ _ h => h) (by kernel_rfl) rfl (by kernel_rfl) (Or.inl ⟨rfl, ?hy15⟩) hHeld ?_
   case hy15 => (intro w hSw; (try dsimp only at hSw); go_simp <;> first | with_reducible rfl | rw [if_neg (by omega)] | rw [if_pos (by omega)])
   (try simp only [PU])
   refine AnyE.takeP (i := 14) (oi := ⟨_, _, _, _, _, _⟩) (v := ?v16) rfl (by kernel_rfl) (by kernel_rfl) (by kernel_rfl) (fun _ _ _ h => h) rfl (Or.inl ⟨rfl, ?hy16⟩) (fun _ => hHeld) ?_
   case hy16 => (intro w _; go_simp <;> rfl)
   (try simp only [PU])
   refine AnyE.takeP (i := 15) (oi := ⟨_, _, _, _, _, _⟩) (v := ?v17) rfl (by kernel_rfl) (by kernel_rfl) (by kernel_rfl) (fun _ _ _ h => h) rfl (Or.inl ⟨rfl, ?hy17⟩) (fun _ => hHeld) ?_
   case hy17 => (intro w _; go_simp <;> rfl)
   (try simp only [PU])
   refine AnyE.takeP (i := 16) (oi := ⟨_, _, _, _, _, _⟩) (v := ?v18) rfl (by kernel_rfl) (by kernel_rfl) (by kernel_rfl) (fun _ _ _ h => h) rfl (Or.inl ⟨rfl, ?hy18⟩) (fun _ => hHeld) ?_
   case hy18 => (intro w _; go_simp <;> rfl)
   (try simp only [PU])
   refine AnyE.takeP (i := 17) (oi := ⟨_, _, _, _, _, _⟩) (v := ?v19) rfl (by kernel_rfl) (by kernel_rfl) (by kernel_rfl) (fun _ _ _ h => h) rfl (Or.inl ⟨rfl, ?hy19⟩) (fun _ => hHeld) ?_
   case hy19 => (intro w _; go_simp <;> first | with_reducible rfl | rw [if_neg (by omega)] | rw [if_pos (by omega)])
   (try simp only [PU])
   refine AnyE.takeP (i := 18) (oi := ⟨_, _, _, _, _, _⟩) (v := ?v20) rfl (by kernel_rfl) (by kernel_rfl) (by kernel_rfl) (fun _ _ _ h => h) rfl (Or.inl ⟨rfl, ?hy20⟩) (fun _ => hHeld) ?_
   case hy20 => (intro w _; go_simp <;> first | with_reducible rfl | rw [if_neg (by omega)] | rw [if_pos (by omega)])
   (try simp only [PU])
   refine AnyE.take (i := 19) (oi := ⟨_, _, _, _, _, _⟩) (v := ?v21) rfl (by kernel_rfl) (by kernel_rfl) (by kernel_rfl) (fun _ _ _ h => h) (by kernel_rfl) rfl (by kernel_rfl) (Or.inl ⟨rfl, ?hy21⟩) hHeld ?_
   case hy21 => (intro w hSw; (try dsimp only at hSw); go_simp <;> first | with_reducible rfl | rw [if_neg (by omega)] | rw [if_pos (by omega)])
   (try simp only [PU])
   refine AnyE.takeP (i := 20) (oi := ⟨_, _, _, _, _, _⟩) (v := ?v22) rfl (by kernel_rfl) (by kernel_rfl) (by kernel_rfl) (fun _ _ _ h => h) rfl (Or.inl ⟨rfl, ?hy22⟩) (fun _ => hHeld) ?_
   case hy22 => (intro w _; go_simp <;> first | with_reducible rfl | rw [if_neg (by omega)] | rw [if_pos (by omega)])
   (try simp only [PU])
   refine AnyE.ready (rs := [21]) (by kernel_rfl) (by simp) ?_
   refine AllE.cons (o := ⟨_, _, _, _, _, _⟩) rfl (fun K hK => ?step23x0) ?more23x0
   case more23x0 => exact AllE.nil
   go_simp
   refine hK.out _ _ ?hS23x0 (fun H23 => ?_)
   case hS23x0 => first | (intro h; exact absurd h (by decide)) | (intro h; simp at h)
   clear hK K
   clear hHeld
   refine AnyE.ready (rs := [22]) (by kernel_rfl) (by simp) ?_
   refine AllE.cons (o := ⟨_, _, _, _, _, _⟩) rfl (fun K hK => ?step24x0) ?more24x0
   case more24x0 => exact AllE.nil
   go_simp
   refine hK.out _ _ ?hS24x0 (fun H24 => ?_)
   case hS24x0 => first | (intro h; exact absurd h (by decide)) | (intro h; simp at h)
   clear hK K
   clear H23
   (try simp only [PU])
   refine AnyE.ready (rs := [23]) (by kernel_rfl) (by simp) ?_
   refine AllE.cons (o := ⟨_, _, _, _, _, _⟩) rfl (fun K hK => ?step25x0) ?more25x0
   case more25x0 => exact AllE.nil
   go_simp
   refine hK.out _ _ ?hS25x0 (fun H25 => ?_)
   case hS25x0 => first | (intro h; exact absurd h (by decide)) | (intro h; simp at h)
   clear hK K
   clear H24
   refine AnyE.done (by kernel_rfl) ?_ _
   clear H25
   go_wp2_with fail
   go_roundw
   case rel => exact ⟨i + 1, swp e (a + i) (b + i), by go_num, by omega, HN, by rw [HZ.out]; exact hes, HX, HP⟩
   case measure => simp [intOf]; omega
  ·have hk : i = n := by omega
   subst hk
   go_wp2
   go_end0
   exact ⟨rfl, e, he.out, hes, hx.out, hp.out⟩
set_option maxRecDepth 100000 in
set_option maxHeartbeats 1600000 in
theorem sm_rotate (w0 : World) (B g cap : Nat) (d : Array Sh) (a m b : Nat) (fv : Value) (w : World) (hs : SortM w0 B g cap 41 d w) (ham : a < m) (hmb : m < b) (hb : b ≤ d.size) (hsz : d.size ≤ 8000000) :
  Calls Tryz.prog 108 #[.slice (some ⟨g, 0, none⟩) d.size cap, .int .i64 a, .int .i64 m, .int .i64 b, fv] w fun e w' => e = .returned (.tuple #[]) ∧ ∃ d', SortM w0 B g cap 41 d' w' ∧ d'.size = d.size ∧ (∀ x, d'[x]! = d[rotS a m b x]!) ∧ PermIn a b d d' := by
 have HS := Lib.hid hs
 clear hs
 go_enter Tryz.func108, Tryz.ntmps108
 go_wp2
 go_loopw [10, 11] (fun u v W => ∃ (i j : Nat) (e : Array Sh), u = .int .i64 i ∧ v = .int .i64 j ∧ 0 < i ∧ 0 < j ∧ a + i ≤ m ∧ m + j ≤ b ∧ Hid (SortM w0 B g cap 41 e W) ∧ e.size = d.size ∧ Hid (∀ x, e[rotS (m - i) m (m + j) x]! = d[rotS a m b x]!) ∧ Hid (PermIn a b d e)) (fun u v _ => (intOf u + intOf v).toNat)
 case atStart => exact ⟨m - a, b - m, d, by go_num, by go_num, by omega, by omega, by omega, by omega, HS, rfl, Lib.hid (fun x => by rw [show m - (m - a) = a by omega, show m + (b - m) = b by omega]), Lib.hid (permIn_refl _ _ _)⟩
 case round =>
  obtain ⟨i, j, e, rfl, rfl, hi0, hj0, hia, hjb, he, hes, hx, hp⟩ := hrel
  rcases Nat.lt_trichotomy j i with hij | hij | hij
  ·have HC := Lib.hid (sm_range w0 B g cap e (m - i) m j fv wr he.out (by omega) (by omega) (by omega) a b (by omega) (by omega) (by omega))
   rw [hes] at HC
   have HX := Lib.hid hx.out
   have im : i ≤ m := by omega
   have hmi : ((m - i : Nat) : Int) = (m : Int) - (i : Int) := by omega
   rw [hmi] at HC
   have hji : ((i - j : Nat) : Int) = (i : Int) - (j : Int) := by omega
   clear hx hmi
   go_wp2_with (go_at_call 120; refine (HC.out).mono ?_; rintro e' w' ⟨rfl, d', hs', hz', hx', hp'⟩; replace hs' := Lib.hid hs'; replace hx' := Lib.hid hx'; replace hp' := Lib.hid hp')
   go_roundw
   case rel => exact ⟨i - j, j, d', by rw [hji], rfl, by omega, hj0, by omega, hjb, hs', hz', Lib.hid (fun x => by rw [hx'.out, rotS_left im hij, HX.out]), Lib.hid (permIn_trans _ _ _ a b hp.out hp'.out)⟩
   case measure => simp [intOf]; omega
  ·subst hij
   have HC := Lib.hid (sm_range w0 B g cap e (m - j) m j fv wr he.out (by omega) (by omega) (by omega) a b (by omega) (by omega) (by omega))
   rw [hes] at HC
   have im : j ≤ m := by omega
   have hmi : ((m - j : Nat) : Int) = (m : Int) - (j : Int) := by omega
   rw [hmi] at HC
   clear hmi
   go_wp2_with (go_at_call 120; refine (HC.out).mono ?_; rintro e' w' ⟨rfl, d', hs', hz', hx', hp'⟩; replace hs' := Lib.hid hs'; replace hx' := Lib.hid hx'; replace hp' := Lib.hid hp')
   go_end0
   exact ⟨rfl, d', hs'.out, hz', fun x => by rw [hx'.out, rotS_end im, hx.out], permIn_trans _ _ _ a b hp.out hp'.out⟩
  ·have HC := Lib.hid (sm_range w0 B g cap e (m - i) (m + j - i) i fv wr he.out (by omega) (by omega) (by omega) a b (by omega) (by omega) (by omega))
   rw [hes] at HC
   have HX := Lib.hid hx.out
   have im : i ≤ m := by omega
   have hmi : ((m - i : Nat) : Int) = (m : Int) - (i : Int) := by omega
   have hmj : ((m + j - i : Nat) : Int) = (m : Int) + (j : Int) - (i : Int) := by omega
   rw [hmi, hmj] at HC
   have hji : ((j - i : Nat) : Int) = (j : Int) - (i : Int) := by omega
   clear hx hmi hmj
   go_wp2_with (go_at_call 120; refine (HC.out).mono ?_; rintro e' w' ⟨rfl, d', hs', hz', hx', hp'⟩; replace hs' := Lib.hid hs'; replace hx' := Lib.hid hx'; replace hp' := Lib.hid hp')
   go_roundw
   case rel => exact ⟨i, j - i, d', rfl, by rw [hji], hi0, by omega, hia, by omega, hs', hz', Lib.hid (fun x => by rw [hx'.out, rotS_right im hij, HX.out]), Lib.hid (permIn_trans _ _ _ a b hp.out hp'.out)⟩
   case measure => simp [intOf]; omega
end Go.Proofs.YtnheioehadldmaaGreat

/- THE WALK over slices.symMergeCmpFunc, at entries. -/
namespace Go.Proofs.YtnheioehadldmaaGreat
open Go.RowKit Go.Sort
set_option maxRecDepth 100000 in
set_option maxHeartbeats 6400000 in
theorem sm_symA (w0 : World) (B g cap : Nat) (cf : Sh → Sh → Int) (f : Nat) (cb : Array Value) (d : Array Sh) (a m b : Nat) (w : World)
  (eg : ∀ args w, (callFunc f args).run Tryz.prog w = .ok (.enter f args) w) (hcmp : CmpOkM Tryz.prog f cb cf w0 g) (hS : SWO (ltM cf)) (hs : SortM w0 B g cap 41 d w) (h1 : m = a + 1) (h2 : m < b) (hb : b ≤ d.size) (hsz : d.size ≤ 8000000) (hr : SortedIn (ltM cf) m b d) :
  Calls Tryz.prog 93 #[.slice (some ⟨g, 0, none⟩) d.size cap, .int .i64 a, .int .i64 m, .int .i64 b, .func (.func f) #[] cb] w fun e w' => e = .returned (.tuple #[]) ∧ ∃ d', SortM w0 B g cap 41 d' w' ∧ PermIn a b d d' ∧ SortedIn (ltM cf) a b d' := by
 have HM := Lib.hid (show SortedIn (ltM cf) (a + 1) b d ∧ m = a + 1 from ⟨by rw [← h1]; exact hr, h1⟩)
 have hm1 : a + 1 ≤ m := by omega
 have hm2 : m ≤ a + 1 := by omega
 clear h1
 have HS := Lib.hid hs
 have HC := Lib.hid hcmp
 have HW := Lib.hid hS
 have H2 := Lib.hid hr
 clear hs hcmp hS hr
 have hma : (((m : Int) - (a : Int)) == 1) = true := by rw [beq_iff_eq]; omega
 go_enter Tryz.func93, Tryz.ntmps93
 go_wp2_with fail
 clear hma
 go_loopw [10, 11] (fun u v W => ∃ (i j : Nat), u = .int .i64 i ∧ v = .int .i64 j ∧ m ≤ i ∧ i ≤ j ∧ j ≤ b ∧ Hid (SortM w0 B g cap 41 d W) ∧ Hid (∀ x, m ≤ x → x < i → ltM cf d[x]! d[a]! = true) ∧ Hid (∀ x, j ≤ x → x < b → ltM cf d[x]! d[a]! = false)) (fun u v _ => (intOf v - intOf u).toNat)
 case atStart => exact ⟨m, b, rfl, rfl, Nat.le_refl _, by omega, Nat.le_refl _, HS, Lib.hid (fun x h1 h2 => by omega), Lib.hid (fun x h1 h2 => by omega)⟩
 case round =>
  obtain ⟨i, j, rfl, rfl, hai, hij, hjb, he, hlo, hhi⟩ := hrel
  by_cases hlt : i < j
  ·have q1 : (0 : Int) ≤ ((i : Int) + (j : Int)) / 2 := by omega
   have q2 : ((i : Int) + (j : Int)) / 2 < (d.size : Int) := by omega
   have q3 : (((i : Int) + (j : Int)) / 2).toNat = (i + j) / 2 := by omega
   have q4 : (a : Int) < (d.size : Int) := by omega
   have HG := Lib.hid (fun (h : cf d[(i + j) / 2]! d[a]! < 0) => fun x (h1 : m ≤ x) (h2 : x < (i + j) / 2 + 1) => le_lt HW.out (srt_le HW.out H2.out h1 (show x ≤ (i + j) / 2 by omega) (by omega)) (ltM_t h))
   have HE := Lib.hid (fun (h : ¬ cf d[(i + j) / 2]! d[a]! < 0) => fun x (h1 : (i + j) / 2 ≤ x) (h2 : x < b) => HW.out.ntrans _ _ _ (srt_le HW.out H2.out (show m ≤ (i + j) / 2 by omega) h1 h2) (ltM_f h))
   obtain ⟨c10, c11, c12⟩ := he.out.cells (show (i + j) / 2 < d.size by omega)
   obtain ⟨c20, c21, c22⟩ := he.out.cells (show a < d.size by omega)
   have HX := Lib.hid (fun V (h : Ext wr V) => he.out.ext h)
   have HQ := Lib.hid (fun V (h : Ext wr V) => HC.out V (he.out.ext h).gr d[(i + j) / 2]! d[a]!)
   generalize cf d[(i + j) / 2]! d[a]! = z at *
   generalize d[(i + j) / 2]! = x1 at *
   generalize d[a]! = x2 at *
   have MK := Lib.hid (fun V (e : Ext wr V) => (⟨e.cell c10, e.cell c11, e.cell c12, e.cell c20, e.cell c21, e.cell c22, e⟩ : V.cell? ⟨g, ((i + j) / 2) * 3, none⟩ = some (.int .i64 x1.id) ∧ V.cell? ⟨g, ((i + j) / 2) * 3 + 1, none⟩ = some (.int .i64 x1.n) ∧ V.cell? ⟨g, ((i + j) / 2) * 3 + 2, none⟩ = some (.int .i64 x1.d) ∧ V.cell? ⟨g, a * 3, none⟩ = some (.int .i64 x2.id) ∧ V.cell? ⟨g, a * 3 + 1, none⟩ = some (.int .i64 x2.n) ∧ V.cell? ⟨g, a * 3 + 2, none⟩ = some (.int .i64 x2.d) ∧ Ext wr V))
   by_cases hz : z < 0
   ·have hg := Lib.hid (HG.out hz)
    clear HG HE
    clear c10 c11 c12 c20 c21 c22
    go_wp2_with fail
    go_region_held3 (fun V => V.cell? ⟨g, ((i + j) / 2) * 3, none⟩ = some (.int .i64 x1.id) ∧ V.cell? ⟨g, ((i + j) / 2) * 3 + 1, none⟩ = some (.int .i64 x1.n) ∧ V.cell? ⟨g, ((i + j) / 2) * 3 + 2, none⟩ = some (.int .i64 x1.d) ∧ V.cell? ⟨g, a * 3, none⟩ = some (.int .i64 x2.id) ∧ V.cell? ⟨g, a * 3 + 1, none⟩ = some (.int .i64 x2.n) ∧ V.cell? ⟨g, a * 3 + 2, none⟩ = some (.int .i64 x2.d) ∧ Ext wr V) ((exact MK.out _ (by solve_by_elim [X0, X1, X2, X3]))) ((refine (HQ.out _ (by solve_by_elim [X0, X1, X2, X3])).mono ?_; rintro e w' ⟨rfl, hb⟩; replace hb : Ext wr w' := Ext.trans (by solve_by_elim [X0, X1, X2, X3]) hb))
    have hN := Lib.hid (HX.out w' hb)
    clear HX HQ MK
    go_wp2_with fail
    go_roundw
    case rel => exact ⟨(i + j) / 2 + 1, j, congrArg (Value.int .i64) (by omega), rfl, by omega, by omega, hjb, hN, hg, hhi⟩
    case measure => simp [intOf]; omega
   ·have hg := Lib.hid (HE.out hz)
    clear HG HE
    clear c10 c11 c12 c20 c21 c22
    go_wp2_with fail
    go_region_held3 (fun V => V.cell? ⟨g, ((i + j) / 2) * 3, none⟩ = some (.int .i64 x1.id) ∧ V.cell? ⟨g, ((i + j) / 2) * 3 + 1, none⟩ = some (.int .i64 x1.n) ∧ V.cell? ⟨g, ((i + j) / 2) * 3 + 2, none⟩ = some (.int .i64 x1.d) ∧ V.cell? ⟨g, a * 3, none⟩ = some (.int .i64 x2.id) ∧ V.cell? ⟨g, a * 3 + 1, none⟩ = some (.int .i64 x2.n) ∧ V.cell? ⟨g, a * 3 + 2, none⟩ = some (.int .i64 x2.d) ∧ Ext wr V) ((exact MK.out _ (by solve_by_elim [X0, X1, X2, X3]))) ((refine (HQ.out _ (by solve_by_elim [X0, X1, X2, X3])).mono ?_; rintro e w' ⟨rfl, hb⟩; replace hb : Ext wr w' := Ext.trans (by solve_by_elim [X0, X1, X2, X3]) hb))
    have hN := Lib.hid (HX.out w' hb)
    clear HX HQ MK
    go_wp2_with fail
    go_roundw
    case rel => exact ⟨i, (i + j) / 2, rfl, congrArg (Value.int .i64) (by omega), hai, by omega, by omega, hN, hlo, hg⟩
    case measure => simp [intOf]; omega
  ·obtain rfl : i = j := by omega
   go_wp2_with fail
   go_loopw [13] (fun u W => ∃ (k : Nat) (e : Array Sh), u = .int .i64 k ∧ a ≤ k ∧ k ≤ i - 1 ∧ Hid (SortM w0 B g cap 41 e W) ∧ e.size = d.size ∧ Hid (∀ x, e[x]! = if a ≤ x ∧ x < k then d[x + 1]! else if x = k then d[a]! else d[x]!) ∧ Hid (PermIn a b d e)) (fun u _ => i - (intOf u).toNat)
   case atStart => exact ⟨a, d, rfl, Nat.le_refl _, by omega, he, rfl, Lib.hid (fun x => by rw [if_neg (by omega)]; split; (rename_i h; rw [h]); rfl), Lib.hid (permIn_refl _ _ _)⟩
   case round =>
    clear he
    obtain ⟨k, e, rfl, hak, hki, he, hes, hx, hp⟩ := hrel
    by_cases hlt : k < i - 1
    ·have q5 : (k : Int) < (i : Int) - 1 := by omega
     have q6 : (k : Int) + 1 < (d.size : Int) := by omega
     have q7 : ((k : Int) + 1).toNat = k + 1 := by omega
     have HXn := Lib.hid (shiftR_step (k := k) hes (by omega) hak hx.out)
     have HP := Lib.hid (permIn_trans _ _ _ a b hp.out (swp_permIn e a b k (k + 1) (by omega) (by omega) (by omega) (by omega) (by omega)))
     have HZ := Lib.hid (size_swp e k (k + 1))
     obtain ⟨c10, c11, c12⟩ := he.out.cells (show k < e.size by omega)
     obtain ⟨c20, c21, c22⟩ := he.out.cells (show k + 1 < e.size by omega)
     have f10 := he.out.frozen (k * 3)
     have f11 := he.out.frozen (k * 3 + 1)
     have f12 := he.out.frozen (k * 3 + 2)
     have f20 := he.out.frozen ((k + 1) * 3)
     have f21 := he.out.frozen ((k + 1) * 3 + 1)
     have f22 := he.out.frozen ((k + 1) * 3 + 2)
     have HN := Lib.hid ((he.out.swap (k) (k + 1)).drew)
     generalize e[k]! = x1 at *
     generalize e[k + 1]! = x2 at *
     have MKE := Lib.hid (fun V (e : Ext wr V) => (⟨e.cell c10, e.cell c11, e.cell c12, e.cell c20, e.cell c21, e.cell c22⟩ : V.cell? ⟨g, k * 3, none⟩ = some (.int .i64 x1.id) ∧ V.cell? ⟨g, k * 3 + 1, none⟩ = some (.int .i64 x1.n) ∧ V.cell? ⟨g, k * 3 + 2, none⟩ = some (.int .i64 x1.d) ∧ V.cell? ⟨g, (k + 1) * 3, none⟩ = some (.int .i64 x2.id) ∧ V.cell? ⟨g, (k + 1) * 3 + 1, none⟩ = some (.int .i64 x2.n) ∧ V.cell? ⟨g, (k + 1) * 3 + 2, none⟩ = some (.int .i64 x2.d)))
     have wk : IntKind.i64.wrap ((k : Int) + 1) = (k : Int) + 1 := by rw [IntKind.wrap_i64]; omega
     have zk : (0 : Int) ≤ (k : Int) + 1 := by omega
     have bk : (k : Int) < (d.size : Int) := by omega
     go_upto_region 11 with (fail)
     refine AnyE.start (S := (fun V => V.cell? ⟨g, k * 3, none⟩ = some (.int .i64 x1.id) ∧ V.cell? ⟨g, k * 3 + 1, none⟩ = some (.int .i64 x1.n) ∧ V.cell? ⟨g, k * 3 + 2, none⟩ = some (.int .i64 x1.d) ∧ V.cell? ⟨g, (k + 1) * 3, none⟩ = some (.int .i64 x2.id) ∧ V.cell? ⟨g, (k + 1) * 3 + 1, none⟩ = some (.int .i64 x2.n) ∧ V.cell? ⟨g, (k + 1) * 3 + 2, none⟩ = some (.int .i64 x2.d))) (E := 15) (by kernel_rfl) ?hs1 (fun hHeld => ?go1)
     case hs1 => (exact MKE.out _ (by solve_by_elim [X0, X1, X2, X3]))
     refine AnyE.takeP (i := 0) (oi := ⟨_, _, _, _, _, _⟩) (v := ?v2) rfl (by kernel_rfl) (by kernel_rfl) (by kernel_rfl) (fun _ _ _ h => h) rfl (Or.inl ⟨rfl, ?hy2⟩) (fun _ => hHeld) ?_
     case hy2 => (intro w _; go_simp <;> rfl)
     (try simp only [PU])
     refine AnyE.takeP (i := 1) (oi := ⟨_, _, _, _, _, _⟩) (v := ?v3) rfl (by kernel_rfl) (by kernel_rfl) (by kernel_rfl) (fun _ _ _ h => h) rfl (Or.inl ⟨rfl, ?hy3⟩) (fun _ => hHeld) ?_
     case hy3 => (intro w _; go_simp <;> rfl)
     (try simp only [PU])
     refine AnyE.takeP (i := 2) (oi := ⟨_, _, _, _, _, _⟩) (v := ?v4) rfl (by kernel_rfl) (by kernel_rfl) (by kernel_rfl) (fun _ _ _ h => h) rfl (Or.inl ⟨rfl, ?hy4⟩) (fun _ => hHeld) ?_
     case hy4 => (intro w _; go_simp <;> rfl)
     (try simp only [PU])
     refine AnyE.takeP (i := 3) (oi := ⟨_, _, _, _, _, _⟩) (v := ?v5) rfl (by kernel_rfl) (by kernel_rfl) (by kernel_rfl) (fun _ _ _ h => h) rfl (Or.inl ⟨rfl, ?hy5⟩) (fun _ => hHeld) ?_
     case hy5 => (intro w _; go_simp <;> rfl)
     (try simp only [PU])
     refine AnyE.takeP (i := 4) (oi := ⟨_, _, _, _, _, _⟩) (v := ?v6) rfl (by kernel_rfl) (by kernel_rfl) (by kernel_rfl) (fun _ _ _ h => h) rfl (Or.inl ⟨rfl, ?hy6⟩) (fun _ => hHeld) ?_
     case hy6 => (intro w _; go_simp <;> first | with_reducible rfl | rw [if_neg (by omega)] | rw [if_pos (by omega)])
     (try simp only [PU])
     refine AnyE.takeP (i := 5) (oi := ⟨_, _, _, _, _, _⟩) (v := ?v7) rfl (by kernel_rfl) (by kernel_rfl) (by kernel_rfl) (fun _ _ _ h => h) rfl (Or.inl ⟨rfl, ?hy7⟩) (fun _ => hHeld) ?_
     case hy7 => (intro w _; go_simp <;> rfl)
     (try simp only [PU])
     refine AnyE.takeP (i := 6) (oi := ⟨_, _, _, _, _, _⟩) (v := ?v8) rfl (by kernel_rfl) (by kernel_rfl) (by kernel_rfl) (fun _ _ _ h => h) rfl (Or.inl ⟨rfl, ?hy8⟩) (fun _ => hHeld) ?_
     case hy8 => (intro w _; go_simp <;> rfl)
     (try simp only [PU])
     refine AnyE.takeP (i := 7) (oi := ⟨_, _, _, _, _, _⟩) (v := ?v9) rfl (by kernel_rfl) (by kernel_rfl) (by kernel_rfl) (fun _ _ _ h => h) rfl (Or.inl ⟨rfl, ?hy9⟩) (fun _ => hHeld) ?_
     case hy9 => (intro w _; go_simp <;> first | with_reducible rfl | rw [if_neg (by omega)] | rw [if_pos (by omega)])
     (try simp only [PU])
     refine AnyE.takeP (i := 8) (oi := ⟨_, _, _, _, _, _⟩) (v := ?v10) rfl (by kernel_rfl) (by kernel_rfl) (by kernel_rfl) (fun _ _ _ h => h) rfl (Or.inl ⟨rfl, ?hy10⟩) (fun _ => hHeld) ?_
     case hy10 => (intro w _; go_simp <;> first | with_reducible rfl | rw [if_neg (by omega)] | rw [if_pos (by omega)])
     (try simp only [PU])
     refine AnyE.take (i := 9) (oi := ⟨_, _, _, _, _, _⟩) (v := ?v11) rfl (by kernel_rfl) (by kernel_rfl) (by kernel_rfl) (fun _ _ _ h => h) (by kernel_rfl) rfl (by kernel_rfl) (Or.inl ⟨rfl, ?hy11⟩) hHeld ?_
     case hy11 => (intro w hSw; (try dsimp only at hSw); go_simp <;> first | with_reducible rfl | rw [if_neg (by omega)] | rw [if_pos (by omega)])
     (try simp only [PU])
     refine AnyE.takeP (i := 10) (oi := ⟨_, _, _, _, _, _⟩) (v := ?v12) rfl (by kernel_rfl) (by kernel_rfl) (by kernel_rfl) (fun _ _ _ h => h) rfl (Or.inl ⟨rfl, ?hy12⟩) (fun _ => hHeld) ?_
     case hy12 => (intro w _; go_simp <;> rfl)
     (try simp only [PU])
     refine AnyE.takeP (i := 11) (oi := ⟨_, _, _, _, _, _⟩) (v := ?v13) rfl (by kernel_rfl) (by kernel_rfl) (by kernel_rfl) (fun _ _ _ h => h) rfl (Or.inl ⟨rfl, ?hy13⟩) (fun _ => hHeld) ?_
     case hy13 => (intro w _; go_simp <;> rfl)
     (try simp only [PU])
     refine AnyE.takeP (i := 12) (oi := ⟨_, _, _, _, _, _⟩) (v := ?v14) rfl (by kernel_rfl) (by kernel_rfl) (by kernel_rfl) (fun _ _ _ h => h) rfl (Or.inl ⟨rfl, ?hy14⟩) (fun _ => hHeld) ?_
     case hy14 => (intro w _; go_simp <;> first | with_reducible rfl | rw [if_neg (by omega)] | rw [if_pos (by omega)])
     (try simp only [PU])
     refine AnyE.take (i := 13) (oi := ⟨_, _, _, _, _, _⟩) (v := ?v15) rfl (by kernel_rfl) (by kernel_rfl) (by kernel_rfl) (fun _ _ _ h => h) (by kernel_rfl) rfl (by kernel_rfl) (Or.inl ⟨rfl, ?hy15⟩) hHeld ?_
     case hy15 => (intro w hSw; (try dsimp only at hSw); go_simp <;> first | with_reducible rfl | rw [if_neg (by omega)] | rw [if_pos (by omega)])
     (try simp only [PU])
     refine AnyE.takeP (i := 14) (oi := ⟨_, _, _, _, _, _⟩) (v := ?v16) rfl (by kernel_rfl) (by kernel_rfl) (by kernel_rfl) (fun _ _ _ h => h) rfl (Or.inl ⟨rfl, ?hy16⟩) (fun _ => hHeld) ?_
     case hy16 => (intro w _; go_simp <;> first | with_reducible rfl | rw [if_neg (by omega)] | rw [if_pos (by omega)])
     (try simp only [PU])
     refine AnyE.ready (rs := [15]) (by kernel_rfl) (by simp) ?_
     refine AllE.cons (o := ⟨_, _, _, _, _, _⟩) rfl (fun K hK => ?step17x0) ?more17x0
     case more17x0 => exact AllE.nil
     go_simp
     refine hK.out _ _ ?hS17x0 (fun H17 => ?_)
     case hS17x0 => first | (intro h; exact absurd h (by decide)) | (intro h; simp at h)
     clear hK K
     clear hHeld
     refine AnyE.ready (rs := [16]) (by kernel_rfl) (by simp) ?_
     refine AllE.cons (o := ⟨_, _, _, _, _, _⟩) rfl (fun K hK => ?step18x0) ?more18x0
     case more18x0 => exact AllE.nil
     go_simp
     refine hK.out _ _ ?hS18x0 (fun H18 => ?_)
     case hS18x0 => first | (intro h; exact absurd h (by decide)) | (intro h; simp at h)
     clear hK K
     clear H17
     (try simp only [PU])
     refine AnyE.ready (rs := [17]) (by kernel_rfl) (by simp) ?_
     refine AllE.cons (o := ⟨_, _, _, _, _, _⟩) rfl (fun K hK => ?step19x0) ?more19x0
     case more19x0 => exact AllE.nil
     go_simp
     refine hK.out _ _ ?hS19x0 (fun H19 => ?_)
     case hS19x0 => first | (intro h; exact absurd h (by decide)) | (intro h; simp at h)
     clear hK K
     clear H18
     refine AnyE.done (by kernel_rfl) ?_ _
     clear H19
     go_wp2_with fail
     go_roundw
     case rel => exact ⟨k + 1, swp e k (k + 1), by go_num, by omega, by omega, HN, by rw [HZ.out]; exact hes, HXn, HP⟩
     case measure => simp [intOf]; omega
    ·obtain rfl : k = i - 1 := by omega
     have q5 : ¬ (((i - 1 : Nat) : Int) < (i : Int) - 1) := by omega
     have HE := Lib.hid (ins_left HW.out (show a + 1 ≤ i by omega) hjb HM.out.1 (by rw [← HM.out.2]; exact hlo.out) hhi.out hx.out)
     go_wp2
     (try simp only [Exit.inBlock, Exit.then])
     refine bodyPost_ret (results_none rfl _ _ _) rfl ?_
     exact ⟨rfl, e, he.out, hp.out, HE.out⟩
set_option maxRecDepth 100000 in
set_option maxHeartbeats 6400000 in
theorem sm_symB (w0 : World) (B g cap : Nat) (cf : Sh → Sh → Int) (f : Nat) (cb : Array Value) (d : Array Sh) (a m b : Nat) (w : World)
  (eg : ∀ args w, (callFunc f args).run Tryz.prog w = .ok (.enter f args) w) (hcmp : CmpOkM Tryz.prog f cb cf w0 g) (hS : SWO (ltM cf)) (hs : SortM w0 B g cap 41 d w) (h0 : m ≠ a + 1) (h1 : a < m) (h2 : b = m + 1) (hb : b ≤ d.size) (hsz : d.size ≤ 8000000) (hl : SortedIn (ltM cf) a m d) :
  Calls Tryz.prog 93 #[.slice (some ⟨g, 0, none⟩) d.size cap, .int .i64 a, .int .i64 m, .int .i64 b, .func (.func f) #[] cb] w fun e w' => e = .returned (.tuple #[]) ∧ ∃ d', SortM w0 B g cap 41 d' w' ∧ PermIn a b d d' ∧ SortedIn (ltM cf) a b d' := by
 have HM := Lib.hid h2
 have hm1 : m + 1 ≤ b := by omega
 have hm2 : b ≤ m + 1 := by omega
 have hm3 : ¬ (m ≤ a + 1) := by omega
 clear h2 h0
 have HS := Lib.hid hs
 have HC := Lib.hid hcmp
 have HW := Lib.hid hS
 have H1 := Lib.hid hl
 clear hs hcmp hS hl
 have hma : (((m : Int) - (a : Int)) == 1) = false := by rw [beq_eq_false_iff_ne]; omega
 have hmb' : (((b : Int) - (m : Int)) == 1) = true := by rw [beq_iff_eq]; omega
 go_enter Tryz.func93, Tryz.ntmps93
 go_wp2_with fail
 clear hma hmb'
 go_loopw [14, 15] (fun u v W => ∃ (i j : Nat), u = .int .i64 i ∧ v = .int .i64 j ∧ a ≤ i ∧ i ≤ j ∧ j ≤ m ∧ Hid (SortM w0 B g cap 41 d W) ∧ Hid (∀ x, a ≤ x → x < i → ltM cf d[m]! d[x]! = false) ∧ Hid (∀ x, j ≤ x → x < m → ltM cf d[m]! d[x]! = true)) (fun u v _ => (intOf v - intOf u).toNat)
 case atStart => exact ⟨a, m, rfl, rfl, Nat.le_refl _, by omega, Nat.le_refl _, HS, Lib.hid (fun x h1 h2 => by omega), Lib.hid (fun x h1 h2 => by omega)⟩
 case round =>
  obtain ⟨i, j, rfl, rfl, hai, hij, hjb, he, hlo, hhi⟩ := hrel
  by_cases hlt : i < j
  ·have q1 : (0 : Int) ≤ ((i : Int) + (j : Int)) / 2 := by omega
   have q2 : ((i : Int) + (j : Int)) / 2 < (d.size : Int) := by omega
   have q3 : (((i : Int) + (j : Int)) / 2).toNat = (i + j) / 2 := by omega
   have q4 : (m : Int) < (d.size : Int) := by omega
   have HG := Lib.hid (fun (h : cf d[m]! d[(i + j) / 2]! < 0) => fun x (h1 : (i + j) / 2 ≤ x) (h2 : x < m) => lt_le HW.out (ltM_t h) (srt_le HW.out H1.out (show a ≤ (i + j) / 2 by omega) h1 h2))
   have HE := Lib.hid (fun (h : ¬ cf d[m]! d[(i + j) / 2]! < 0) => fun x (h1 : a ≤ x) (h2 : x < (i + j) / 2 + 1) => HW.out.ntrans _ _ _ (ltM_f h) (srt_le HW.out H1.out h1 (show x ≤ (i + j) / 2 by omega) (by omega)))
   obtain ⟨c10, c11, c12⟩ := he.out.cells (show m < d.size by omega)
   obtain ⟨c20, c21, c22⟩ := he.out.cells (show (i + j) / 2 < d.size by omega)
   have HX := Lib.hid (fun V (h : Ext wr V) => he.out.ext h)
   have HQ := Lib.hid (fun V (h : Ext wr V) => HC.out V (he.out.ext h).gr d[m]! d[(i + j) / 2]!)
   generalize cf d[m]! d[(i + j) / 2]! = z at *
   generalize d[m]! = x1 at *
   generalize d[(i + j) / 2]! = x2 at *
   have MK := Lib.hid (fun V (e : Ext wr V) => (⟨e.cell c10, e.cell c11, e.cell c12, e.cell c20, e.cell c21, e.cell c22, e⟩ : V.cell? ⟨g, m * 3, none⟩ = some (.int .i64 x1.id) ∧ V.cell? ⟨g, m * 3 + 1, none⟩ = some (.int .i64 x1.n) ∧ V.cell? ⟨g, m * 3 + 2, none⟩ = some (.int .i64 x1.d) ∧ V.cell? ⟨g, ((i + j) / 2) * 3, none⟩ = some (.int .i64 x2.id) ∧ V.cell? ⟨g, ((i + j) / 2) * 3 + 1, none⟩ = some (.int .i64 x2.n) ∧ V.cell? ⟨g, ((i + j) / 2) * 3 + 2, none⟩ = some (.int .i64 x2.d) ∧ Ext wr V))
   by_cases hz : z < 0
   ·have hg := Lib.hid (HG.out hz)
    clear HG HE
    clear c10 c11 c12 c20 c21 c22
    go_wp2_with fail
    go_region_held3 (fun V => V.cell? ⟨g, m * 3, none⟩ = some (.int .i64 x1.id) ∧ V.cell? ⟨g, m * 3 + 1, none⟩ = some (.int .i64 x1.n) ∧ V.cell? ⟨g, m * 3 + 2, none⟩ = some (.int .i64 x1.d) ∧ V.cell? ⟨g, ((i + j) / 2) * 3, none⟩ = some (.int .i64 x2.id) ∧ V.cell? ⟨g, ((i + j) / 2) * 3 + 1, none⟩ = some (.int .i64 x2.n) ∧ V.cell? ⟨g, ((i + j) / 2) * 3 + 2, none⟩ = some (.int .i64 x2.d) ∧ Ext wr V) ((exact MK.out _ (by solve_by_elim [X0, X1, X2, X3]))) ((refine (HQ.out _ (by solve_by_elim [X0, X1, X2, X3])).mono ?_; rintro e w' ⟨rfl, hb⟩; replace hb : Ext wr w' := Ext.trans (by solve_by_elim [X0, X1, X2, X3]) hb))
    have hN := Lib.hid (HX.out w' hb)
    clear HX HQ MK
    go_wp2_with fail
    go_roundw
    case rel => exact ⟨i, (i + j) / 2, rfl, congrArg (Value.int .i64) (by omega), hai, by omega, by omega, hN, hlo, hg⟩
    case measure => simp [intOf]; omega
   ·have hg := Lib.hid (HE.out hz)
    have hz' : decide (z < 0) = false := decide_eq_false hz
    clear HG HE hz
    clear c10 c11 c12 c20 c21 c22
    go_wp2_with fail
    go_region_held3 (fun V => V.cell? ⟨g, m * 3, none⟩ = some (.int .i64 x1.id) ∧ V.cell? ⟨g, m * 3 + 1, none⟩ = some (.int .i64 x1.n) ∧ V.cell? ⟨g, m * 3 + 2, none⟩ = some (.int .i64 x1.d) ∧ V.cell? ⟨g, ((i + j) / 2) * 3, none⟩ = some (.int .i64 x2.id) ∧ V.cell? ⟨g, ((i + j) / 2) * 3 + 1, none⟩ = some (.int .i64 x2.n) ∧ V.cell? ⟨g, ((i + j) / 2) * 3 + 2, none⟩ = some (.int .i64 x2.d) ∧ Ext wr V) ((exact MK.out _ (by solve_by_elim [X0, X1, X2, X3]))) ((refine (HQ.out _ (by solve_by_elim [X0, X1, X2, X3])).mono ?_; rintro e w' ⟨rfl, hb⟩; replace hb : Ext wr w' := Ext.trans (by solve_by_elim [X0, X1, X2, X3]) hb))
    have hN := Lib.hid (HX.out w' hb)
    clear HX HQ MK
    go_wp2_with fail
    go_roundw
    case rel => exact ⟨(i + j) / 2 + 1, j, congrArg (Value.int .i64) (by omega), rfl, by omega, by omega, hjb, hN, hg, hhi⟩
    case measure => simp [intOf]; omega
  ·obtain rfl : i = j := by omega
   go_wp2_with fail
   go_loopw [17] (fun u W => ∃ (k : Nat) (e : Array Sh), u = .int .i64 k ∧ i ≤ k ∧ k ≤ m ∧ Hid (SortM w0 B g cap 41 e W) ∧ e.size = d.size ∧ Hid (∀ x, e[x]! = if k < x ∧ x ≤ m then d[x - 1]! else if x = k then d[m]! else d[x]!) ∧ Hid (PermIn a b d e)) (fun u _ => (intOf u).toNat)
   case atStart => exact ⟨m, d, rfl, by omega, Nat.le_refl _, he, rfl, Lib.hid (fun x => by rw [if_neg (by omega)]; split; (rename_i h; rw [h]); rfl), Lib.hid (permIn_refl _ _ _)⟩
   case round =>
    clear he
    obtain ⟨k, e, rfl, hak, hki, he, hes, hx, hp⟩ := hrel
    by_cases hlt : i < k
    ·obtain ⟨kp, rfl⟩ : ∃ kp, k = kp + 1 := ⟨k - 1, by omega⟩
     have q5 : (i : Int) < (kp : Int) + 1 := by omega
     have q6 : (kp : Int) + 1 < (d.size : Int) := by omega
     have q7 : ((kp : Int) + 1).toNat = kp + 1 := by omega
     have q8 : (0 : Int) ≤ (kp : Int) + 1 := by omega
     have q9 : (kp : Int) < (d.size : Int) := by omega
     have hwp : IntKind.i64.wrap (kp : Int) = (kp : Int) := by rw [IntKind.wrap_i64]; omega
     have HXn := Lib.hid (shiftL_step (k := kp) hes (by omega) hki hx.out)
     have HP := Lib.hid (permIn_trans _ _ _ a b hp.out (swp_permIn e a b (kp + 1) kp (by omega) (by omega) (by omega) (by omega) (by omega)))
     have HZ := Lib.hid (size_swp e (kp + 1) kp)
     obtain ⟨c10, c11, c12⟩ := he.out.cells (show kp + 1 < e.size by omega)
     obtain ⟨c20, c21, c22⟩ := he.out.cells (show kp < e.size by omega)
     have f10 := he.out.frozen ((kp + 1) * 3)
     have f11 := he.out.frozen ((kp + 1) * 3 + 1)
     have f12 := he.out.frozen ((kp + 1) * 3 + 2)
     have f20 := he.out.frozen (kp * 3)
     have f21 := he.out.frozen (kp * 3 + 1)
     have f22 := he.out.frozen (kp * 3 + 2)
     have HN := Lib.hid ((he.out.swap (kp + 1) (kp)).drew)
     generalize e[kp + 1]! = x1 at *
     generalize e[kp]! = x2 at *
     have MKE := Lib.hid (fun V (e : Ext wr V) => (⟨e.cell c10, e.cell c11, e.cell c12, e.cell c20, e.cell c21, e.cell c22⟩ : V.cell? ⟨g, (kp + 1) * 3, none⟩ = some (.int .i64 x1.id) ∧ V.cell? ⟨g, (kp + 1) * 3 + 1, none⟩ = some (.int .i64 x1.n) ∧ V.cell? ⟨g, (kp + 1) * 3 + 2, none⟩ = some (.int .i64 x1.d) ∧ V.cell? ⟨g, kp * 3, none⟩ = some (.int .i64 x2.id) ∧ V.cell? ⟨g, kp * 3 + 1, none⟩ = some (.int .i64 x2.n) ∧ V.cell? ⟨g, kp * 3 + 2, none⟩ = some (.int .i64 x2.d)))
     go_upto_region 23 with (fail)
     refine AnyE.start (S := (fun V => V.cell? ⟨g, (kp + 1) * 3, none⟩ = some (.int .i64 x1.id) ∧ V.cell? ⟨g, (kp + 1) * 3 + 1, none⟩ = some (.int .i64 x1.n) ∧ V.cell? ⟨g, (kp + 1) * 3 + 2, none⟩ = some (.int .i64 x1.d) ∧ V.cell? ⟨g, kp * 3, none⟩ = some (.int .i64 x2.id) ∧ V.cell? ⟨g, kp * 3 + 1, none⟩ = some (.int .i64 x2.n) ∧ V.cell? ⟨g, kp * 3 + 2, none⟩ = some (.int .i64 x2.d))) (E := 15) (by kernel_rfl) ?hs20 (fun hHeld => ?go20)
     case hs20 => (exact MKE.out _ (by solve_by_elim [X0, X1, X2, X3]))
     refine AnyE.takeP (i := 0) (oi := ⟨_, _, _, _, _, _⟩) (v := ?v21) rfl (by kernel_rfl) (by kernel_rfl) (by kernel_rfl) (fun _ _ _ h => h) rfl (Or.inl ⟨rfl, ?hy21⟩) (fun _ => hHeld) ?_
     case hy21 => (intro w _; go_simp <;> rfl)
     (try simp only [PU])
     refine AnyE.takeP (i := 1) (oi := ⟨_, _, _, _, _, _⟩) (v := ?v22) rfl (by kernel_rfl) (by kernel_rfl) (by kernel_rfl) (fun _ _ _ h => h) rfl (Or.inl ⟨rfl, ?hy22⟩) (fun _ => hHeld) ?_
     case hy22 => (intro w _; go_simp <;> rfl)
     (try simp only [PU])
     refine AnyE.takeP (i := 2) (oi := ⟨_, _, _, _, _, _⟩) (v := ?v23) rfl (by kernel_rfl) (by kernel_rfl) (by kernel_rfl) (fun _ _ _ h => h) rfl (Or.inl ⟨rfl, ?hy23⟩) (fun _ => hHeld) ?_
     case hy23 => (intro w _; go_simp <;> rfl)
     (try simp only [PU])
     refine AnyE.takeP (i := 3) (oi := ⟨_, _, _, _, _, _⟩) (v := ?v24) rfl (by kernel_rfl) (by kernel_rfl) (by kernel_rfl) (fun _ _ _ h => h) rfl (Or.inl ⟨rfl, ?hy24⟩) (fun _ => hHeld) ?_
     case hy24 => (intro w _; go_simp <;> rfl)
     (try simp only [PU])
     refine AnyE.takeP (i := 4) (oi := ⟨_, _, _, _, _, _⟩) (v := ?v25) rfl (by kernel_rfl) (by kernel_rfl) (by kernel_rfl) (fun _ _ _ h => h) rfl (Or.inl ⟨rfl, ?hy25⟩) (fun _ => hHeld) ?_
     case hy25 => (intro w _; go_simp <;> first | with_reducible rfl | rw [if_neg (by omega)] | rw [if_pos (by omega)])
     (try simp only [PU])
     refine AnyE.takeP (i := 5) (oi := ⟨_, _, _, _, _, _⟩) (v := ?v26) rfl (by kernel_rfl) (by kernel_rfl) (by kernel_rfl) (fun _ _ _ h => h) rfl (Or.inl ⟨rfl, ?hy26⟩) (fun _ => hHeld) ?_
     case hy26 => (intro w _; go_simp <;> rfl)
     (try simp only [PU])
     refine AnyE.takeP (i := 6) (oi := ⟨_, _, _, _, _, _⟩) (v := ?v27) rfl (by kernel_rfl) (by kernel_rfl) (by kernel_rfl) (fun _ _ _ h => h) rfl (Or.inl ⟨rfl, ?hy27⟩) (fun _ => hHeld) ?_
     case hy27 => (intro w _; go_simp <;> rfl)
     (try simp only [PU])
     refine AnyE.takeP (i := 7) (oi := ⟨_, _, _, _, _, _⟩) (v := ?v28) rfl (by kernel_rfl) (by kernel_rfl) (by kernel_rfl) (fun _ _ _ h => h) rfl (Or.inl ⟨rfl, ?hy28⟩) (fun _ => hHeld) ?_
     case hy28 => (intro w _; go_simp <;> first | with_reducible rfl | rw [if_neg (by omega)] | rw [if_pos (by omega)])
     (try simp only [PU])
     refine AnyE.takeP (i := 8) (oi := ⟨_, _, _, _, _, _⟩) (v := ?v29) rfl (by kernel_rfl) (by kernel_rfl) (by kernel_rfl) (fun _ _ _ h => h) rfl (Or.inl ⟨rfl, ?hy29⟩) (fun _ => hHeld) ?_
     case hy29 => (intro w _; go_simp <;> first | with_reducible rfl | rw [if_neg (by omega)] | rw [if_pos (by omega)])
     (try simp only [PU])
     refine AnyE.take (i := 9) (oi := ⟨_, _, _, _, _, _⟩) (v := ?v30) rfl (by kernel_rfl) (by kernel_rfl) (by kernel_rfl) (fun _ _ _ h => h) (by kernel_rfl) rfl (by kernel_rfl) (Or.inl ⟨rfl, ?hy30⟩) hHeld ?_
     case hy30 => (intro w hSw; (try dsimp only at hSw); go_simp <;> first | with_reducible rfl | rw [if_neg (by omega)] | rw [if_pos (by omega)])
     (try simp only [PU])
     refine AnyE.takeP (i := 10) (oi := ⟨_, _, _, _, _, _⟩) (v := ?v31) rfl (by kernel_rfl) (by kernel_rfl) (by kernel_rfl) (fun _ _ _ h => h) rfl (Or.inl ⟨rfl, ?hy31⟩) (fun _ => hHeld) ?_
     case hy31 => (intro w _; go_simp <;> rfl)
     (try simp only [PU])
     refine AnyE.takeP (i := 11) (oi := ⟨_, _, _, _, _, _⟩) (v := ?v32) rfl (by kernel_rfl) (by kernel_rfl) (by kernel_rfl) (fun _ _ _ h => h) rfl (Or.inl ⟨rfl, ?hy32⟩) (fun _ => hHeld) ?_
     case hy32 => (intro w _; go_simp <;> rfl)
     (try simp only [PU])
     refine AnyE.takeP (i := 12) (oi := ⟨_, _, _, _, _, _⟩) (v := ?v33) rfl (by kernel_rfl) (by kernel_rfl) (by kernel_rfl) (fun _ _ _ h => h) rfl (Or.inl ⟨rfl, ?hy33⟩) (fun _ => hHeld) ?_
     case hy33 => (intro w _; go_simp <;> first | with_reducible rfl | rw [if_neg (by omega)] | rw [if_pos (by omega)])
     (try simp only [PU])
     refine AnyE.take (i := 13) (oi := ⟨_, _, _, _, _, _⟩) (v := ?v34) rfl (by kernel_rfl) (by kernel_rfl) (by kernel_rfl) (fun _ _ _ h => h) (by kernel_rfl) rfl (by kernel_rfl) (Or.inl ⟨rfl, ?hy34⟩) hHeld ?_
     case hy34 => (intro w hSw; (try dsimp only at hSw); go_simp <;> first | with_reducible rfl | rw [if_neg (by omega)] | rw [if_pos (by omega)])
     (try simp only [PU])
     refine AnyE.takeP (i := 14) (oi := ⟨_, _, _, _, _, _⟩) (v := ?v35) rfl (by kernel_rfl) (by kernel_rfl) (by kernel_rfl) (fun _ _ _ h => h) rfl (Or.inl ⟨rfl, ?hy35⟩) (fun _ => hHeld) ?_
     case hy35 => (intro w _; go_simp <;> first | with_reducible rfl | rw [if_neg (by omega)] | rw [if_pos (by omega)])
     (try simp only [PU])
     refine AnyE.ready (rs := [15]) (by kernel_rfl) (by simp) ?_
     refine AllE.cons (o := ⟨_, _, _, _, _, _⟩) rfl (fun K hK => ?step36x0) ?more36x0
     case more36x0 => exact AllE.nil
     go_simp
     refine hK.out _ _ ?hS36x0 (fun H36 => ?_)
     case hS36x0 => first | (intro h; exact absurd h (by decide)) | (intro h; simp at h)
     clear hK K
     clear hHeld
     refine AnyE.ready (rs := [16]) (by kernel_rfl) (by simp) ?_
     refine AllE.cons (o := ⟨_, _, _, _, _, _⟩) rfl (fun K hK => ?step37x0) ?more37x0
     case more37x0 => exact AllE.nil
     go_simp
     refine hK.out _ _ ?hS37x0 (fun H37 => ?_)
     case hS37x0 => first | (intro h; exact absurd h (by decide)) | (intro h; simp at h)
     clear hK K
     clear H36
     (try simp only [PU])
     refine AnyE.ready (rs := [17]) (by kernel_rfl) (by simp) ?_
     refine AllE.cons (o := ⟨_, _, _, _, _, _⟩) rfl (fun K hK => ?step38x0) ?more38x0
     case more38x0 => exact AllE.nil
     go_simp
     refine hK.out _ _ ?hS38x0 (fun H38 => ?_)
     case hS38x0 => first | (intro h; exact absurd h (by decide)) | (intro h; simp at h)
     clear hK K
     clear H37
     refine AnyE.done (by kernel_rfl) ?_ _
     clear H38
     go_wp2_with fail
     go_roundw
     case rel => exact ⟨kp, swp e (kp + 1) kp, by first | rfl | go_num, by omega, by omega, HN, by rw [HZ.out]; exact hes, HXn, HP⟩
     case measure => simp [intOf]
    ·obtain rfl : k = i := by omega
     have HE := Lib.hid (show SortedIn (ltM cf) a b e by rw [HM.out]; exact ins_right HW.out hai hjb H1.out hlo.out hhi.out hx.out)
     go_wp2
     (try simp only [Exit.inBlock, Exit.then])
     refine bodyPost_ret (results_none rfl _ _ _) rfl ?_
     exact ⟨rfl, e, he.out, hp.out, HE.out⟩
end Go.Proofs.YtnheioehadldmaaGreat

/- THE WALK over slices.symMergeCmpFunc, at entries: the general case; the recursion. -/
namespace Go.Proofs.YtnheioehadldmaaGreat
open Go.RowKit Go.Sort
theorem perm_size {a b n : Nat} {d e : Array Sh} (h : PermIn a b d e) (hz : d.size = n) : e.size = n := h.1.trans hz
theorem permR {a b : Nat} {d : Array Sh} : PermIn a b d d := permIn_refl d a b
/-- SymCut, in letters -/
structure SymL (lt : Sh → Sh → Bool) (a mid E b s : Nat) (e : Array Sh) : Prop where
 r1 : SortedIn lt a s e
 r2 : SortedIn lt s mid e
 r3 : SortedIn lt mid E e
 r4 : SortedIn lt E b e
 cross : Cross lt a mid b e
theorem sym_cutL {lt : Sh → Sh → Bool} (hS : SWO lt) {a m b s mid E : Nat} {d e : Array Sh} (h1 : a < m) (h2 : m < b) (hl : SortedIn lt a m d) (hr : SortedIn lt m b d) (hmid : mid = (a + b) / 2) (hE : E = mid + m - s)
  (hlo : symLo a m b ≤ s) (hhi : s ≤ symHi a m b) (hup : symLo a m b < s → lt d[mid + m - s]! d[s - 1]! = false) (hdn : s < symHi a m b → lt d[mid + m - s - 1]! d[s]! = true) (he : ∀ x, e[x]! = d[rotS s m E x]!) : SymL lt a mid E b s e := by
 subst hE
 subst hmid
 have h := sym_cut hS h1 h2 hl hr ⟨hlo, hhi, hup, hdn⟩ he
 exact ⟨h.r1, h.r2, h.r3, h.r4, h.cross⟩
theorem sym_doneL {lt : Sh → Sh → Bool} {a mid E b s : Nat} {e e1 e2 : Array Sh} (ham : a ≤ mid) (hmb : mid ≤ b) (hb : b ≤ e.size) (h : SymL lt a mid E b s e) (hp1 : PermIn a mid e e1) (hs1 : SortedIn lt a mid e1) (hp2 : PermIn mid b e1 e2) (hs2 : SortedIn lt mid b e2) :
  PermIn a b e e2 ∧ SortedIn lt a b e2 := by
 have z1 := hp1.1
 refine ⟨permIn_trans _ _ _ a b (permIn_mono _ _ _ _ _ _ (Nat.le_refl _) (by omega) hb hp1) (permIn_mono _ _ _ _ _ _ (by omega) (Nat.le_refl _) (by omega) hp2), ?_⟩
 exact srt_glue (srt_kept hs1 hp2 (.inl (Nat.le_refl _))) hs2 ((h.cross.left (by omega) hp1).right (by omega) hp2)
set_option maxRecDepth 100000 in
set_option maxHeartbeats 12800000 in
theorem sm_symC (w0 : World) (B g cap : Nat) (cf : Sh → Sh → Int) (f : Nat) (cb : Array Value) (d : Array Sh) (a m b : Nat) (w : World)
  (eg : ∀ args w, (callFunc f args).run Tryz.prog w = .ok (.enter f args) w) (hcmp : CmpOkM Tryz.prog f cb cf w0 g) (hS : SWO (ltM cf)) (hs : SortM w0 B g cap 41 d w) (h0 : a + 1 < m) (h2 : m + 1 < b) (hb : b ≤ d.size) (hsz : d.size ≤ 8000000) (hl : SortedIn (ltM cf) a m d) (hr : SortedIn (ltM cf) m b d)
  (ih : ∀ (a' m' b' : Nat) (e : Array Sh) (W : World), b' - a' < b - a → SortM w0 B g cap 41 e W → e.size = d.size → a' < m' → m' < b' → b' ≤ d.size → SortedIn (ltM cf) a' m' e → SortedIn (ltM cf) m' b' e → Calls Tryz.prog 93 #[.slice (some ⟨g, 0, none⟩) d.size cap, .int .i64 a', .int .i64 m', .int .i64 b', .func (.func f) #[] cb] W fun e' w' => e' = .returned (.tuple #[]) ∧ ∃ d', SortM w0 B g cap 41 d' w' ∧ PermIn a' b' e d' ∧ SortedIn (ltM cf) a' b' d') :
  Calls Tryz.prog 93 #[.slice (some ⟨g, 0, none⟩) d.size cap, .int .i64 a, .int .i64 m, .int .i64 b, .func (.func f) #[] cb] w fun e w' => e = .returned (.tuple #[]) ∧ ∃ d', SortM w0 B g cap 41 d' w' ∧ PermIn a b d d' ∧ SortedIn (ltM cf) a b d' := by
 have HS := Lib.hid hs
 have HC := Lib.hid hcmp
 have HW := Lib.hid hS
 have H1 := Lib.hid hl
 have H2 := Lib.hid hr
 have IH := Lib.hid ih
 clear hs hcmp hS hl hr ih
 have hma : (((m : Int) - (a : Int)) == 1) = false := by rw [beq_eq_false_iff_ne]; omega
 have hmb' : (((b : Int) - (m : Int)) == 1) = false := by rw [beq_eq_false_iff_ne]; omega
 obtain ⟨mid, hmid⟩ : ∃ mid, mid = (a + b) / 2 := ⟨_, rfl⟩
 have HMID := Lib.hid hmid
 have qm : ((a : Int) + (b : Int)) / 2 = (mid : Int) := by omega
 have m1 : 2 * mid ≤ a + b := by omega
 have m2 : a + b ≤ 2 * mid + 1 := by omega
 have hrng := sym_rng (show a < m by omega) (show m < b by omega)
 rw [← hmid] at hrng
 clear hmid
 obtain ⟨lo, HLO⟩ : ∃ lo, Hid (lo = symLo a m b) := ⟨_, rfl⟩
 obtain ⟨hi, HHI⟩ : ∃ hi, Hid (hi = symHi a m b) := ⟨_, rfl⟩
 rw [← HLO.out, ← HHI.out] at hrng
 obtain ⟨r1, r2, r3, r4, r5, -⟩ := hrng
 by_cases hm : m > mid
 ·go_enter Tryz.func93, Tryz.ntmps93
  have ql : (mid : Int) + (m : Int) - (b : Int) = (lo : Int) := by have := HLO.out; unfold symLo at this; rw [← HMID.out, if_pos hm] at this; omega
  have qh : hi ≤ mid ∧ mid ≤ hi := by have := HHI.out; unfold symHi at this; rw [← HMID.out, if_pos hm] at this; omega
  go_wp2_with fail
  clear hma hmb' qm
  go_loopw [20, 21] (fun u v W => ∃ (s r : Nat), u = .int .i64 s ∧ v = .int .i64 r ∧ lo ≤ s ∧ s ≤ r ∧ r ≤ hi ∧ Hid (SortM w0 B g cap 41 d W) ∧ Hid (lo < s → ltM cf d[mid + m - s]! d[s - 1]! = false) ∧ Hid (r < hi → ltM cf d[mid + m - r - 1]! d[r]! = true)) (fun u v _ => (intOf v - intOf u).toNat)
  case atStart => exact ⟨lo, hi, by first | rfl | exact congrArg (Value.int .i64) ql, by first | rfl | exact congrArg (Value.int .i64) (by omega), Nat.le_refl _, by omega, Nat.le_refl _, HS, Lib.hid (fun h => absurd h (by omega)), Lib.hid (fun h => absurd h (by omega))⟩
  case round =>
   obtain ⟨s, r, rfl, rfl, hls, hsr, hrh, he, hup, hdn⟩ := hrel
   by_cases hlt : s < r
   ·obtain ⟨C, hC⟩ : ∃ C, C = (s + r) / 2 := ⟨_, rfl⟩
    obtain ⟨I, hI⟩ : ∃ I, I = mid + m - 1 - C := ⟨_, rfl⟩
    have qC : ((s : Int) + (r : Int)) / 2 = (C : Int) := by omega
    have qI : (mid : Int) + (m : Int) - 1 - (C : Int) = (I : Int) := by omega
    have wI : IntKind.i64.wrap (I : Int) = (I : Int) := by rw [IntKind.wrap_i64]; omega
    have b1 : (I : Int) < (d.size : Int) := by omega
    have b2 : (C : Int) < (d.size : Int) := by omega
    have c3 : s ≤ C := by omega
    have c4 : C < r := by omega
    have c5 : C < d.size := by omega
    have c6 : I < d.size := by omega
    have HG := Lib.hid (fun (h : cf d[I]! d[C]! < 0) => fun (_ : C < hi) => (by rw [show mid + m - C - 1 = I by omega]; exact ltM_t h : ltM cf d[mid + m - C - 1]! d[C]! = true))
    have HE := Lib.hid (fun (h : ¬ cf d[I]! d[C]! < 0) => fun (_ : lo < C + 1) => (by rw [show mid + m - (C + 1) = I by omega, Nat.add_sub_cancel]; exact ltM_f h : ltM cf d[mid + m - (C + 1)]! d[C + 1 - 1]! = false))
    have hC2 : 2 * C ≤ s + r := by omega
    clear hC hI
    obtain ⟨c10, c11, c12⟩ := he.out.cells (show I < d.size by omega)
    obtain ⟨c20, c21, c22⟩ := he.out.cells (show C < d.size by omega)
    have HX := Lib.hid (fun V (h : Ext wr V) => he.out.ext h)
    have HQ := Lib.hid (fun V (h : Ext wr V) => HC.out V (he.out.ext h).gr d[I]! d[C]!)
    generalize cf d[I]! d[C]! = z at *
    generalize d[I]! = x1 at c10 c11 c12 HQ
    generalize d[C]! = x2 at c20 c21 c22 HQ
    have MK := Lib.hid (fun V (e : Ext wr V) => (⟨e.cell c10, e.cell c11, e.cell c12, e.cell c20, e.cell c21, e.cell c22, e⟩ : V.cell? ⟨g, I * 3, none⟩ = some (.int .i64 x1.id) ∧ V.cell? ⟨g, I * 3 + 1, none⟩ = some (.int .i64 x1.n) ∧ V.cell? ⟨g, I * 3 + 2, none⟩ = some (.int .i64 x1.d) ∧ V.cell? ⟨g, C * 3, none⟩ = some (.int .i64 x2.id) ∧ V.cell? ⟨g, C * 3 + 1, none⟩ = some (.int .i64 x2.n) ∧ V.cell? ⟨g, C * 3 + 2, none⟩ = some (.int .i64 x2.d) ∧ Ext wr V))
    by_cases hz : z < 0
    ·have hg := Lib.hid (HG.out hz)
     clear HG HE
     clear c10 c11 c12 c20 c21 c22
     go_wp2_with fail
     go_region_held3 (fun V => V.cell? ⟨g, I * 3, none⟩ = some (.int .i64 x1.id) ∧ V.cell? ⟨g, I * 3 + 1, none⟩ = some (.int .i64 x1.n) ∧ V.cell? ⟨g, I * 3 + 2, none⟩ = some (.int .i64 x1.d) ∧ V.cell? ⟨g, C * 3, none⟩ = some (.int .i64 x2.id) ∧ V.cell? ⟨g, C * 3 + 1, none⟩ = some (.int .i64 x2.n) ∧ V.cell? ⟨g, C * 3 + 2, none⟩ = some (.int .i64 x2.d) ∧ Ext wr V) ((exact MK.out _ (by solve_by_elim [X0, X1, X2, X3]))) ((refine (HQ.out _ (by solve_by_elim [X0, X1, X2, X3])).mono ?_; rintro e w' ⟨rfl, hb⟩; replace hb : Ext wr w' := Ext.trans (by solve_by_elim [X0, X1, X2, X3]) hb))
     have hN := Lib.hid (HX.out w' hb)
     clear HX HQ MK
     go_wp2_with fail
     go_roundw
     case rel => exact ⟨s, C, rfl, rfl, hls, c3, by omega, hN, hup, hg⟩
     case measure => simp [intOf]; omega
    ·have hg := Lib.hid (HE.out hz)
     have hz' : decide (z < 0) = false := decide_eq_false hz
     clear HG HE hz
     clear c10 c11 c12 c20 c21 c22
     go_wp2_with fail
     go_region_held3 (fun V => V.cell? ⟨g, I * 3, none⟩ = some (.int .i64 x1.id) ∧ V.cell? ⟨g, I * 3 + 1, none⟩ = some (.int .i64 x1.n) ∧ V.cell? ⟨g, I * 3 + 2, none⟩ = some (.int .i64 x1.d) ∧ V.cell? ⟨g, C * 3, none⟩ = some (.int .i64 x2.id) ∧ V.cell? ⟨g, C * 3 + 1, none⟩ = some (.int .i64 x2.n) ∧ V.cell? ⟨g, C * 3 + 2, none⟩ = some (.int .i64 x2.d) ∧ Ext wr V) ((exact MK.out _ (by solve_by_elim [X0, X1, X2, X3]))) ((refine (HQ.out _ (by solve_by_elim [X0, X1, X2, X3])).mono ?_; rintro e w' ⟨rfl, hb⟩; replace hb : Ext wr w' := Ext.trans (by solve_by_elim [X0, X1, X2, X3]) hb))
     have hN := Lib.hid (HX.out w' hb)
     clear HX HQ MK
     go_wp2_with fail
     go_roundw
     case rel => exact ⟨C + 1, r, congrArg (Value.int .i64) (by omega), rfl, by omega, by omega, hrh, hN, hg, hdn⟩
     case measure => simp [intOf]; omega
   ·obtain rfl : s = r := by omega
    obtain ⟨E, hE⟩ : ∃ E, E = mid + m - s := ⟨_, rfl⟩
    have HEQ := Lib.hid hE
    have qE : (mid : Int) + (m : Int) - (s : Int) = (E : Int) := by omega
    have e1 : E + s ≤ mid + m := by omega
    have e2 : mid + m ≤ E + s := by omega
    have HCUT := Lib.hid (fun (e : Array Sh) (hx : ∀ x, e[x]! = d[rotS s m E x]!) => sym_cutL (lt := ltM cf) HW.out (Nat.lt_of_succ_lt h0) (Nat.lt_of_succ_lt h2) H1.out H2.out HMID.out hE (HLO.out ▸ hls) (HHI.out ▸ hrh) (by rw [← HLO.out]; exact hup.out) (by rw [← HHI.out]; exact hdn.out) hx)
    have IL := Lib.hid (fun (W : World) (e : Array Sh) (h : SortM w0 B g cap 41 e W) (hz : e.size = d.size) (hc : SymL (ltM cf) a mid E b s e) => fun (h1 : a < s) (h2 : s < mid) => IH.out a s mid e W (by omega) h hz h1 h2 (by omega) hc.r1 hc.r2)
    have IR := Lib.hid (fun (W : World) (e' : Array Sh) (h : SortM w0 B g cap 41 e' W) (hz' : e'.size = d.size) (e : Array Sh) (_ : e.size = d.size) (hc : SymL (ltM cf) a mid E b s e) (hp : PermIn a mid e e') => fun (h1 : mid < E) (h2 : E < b) => IH.out mid E b e' W (by omega) h hz' h1 h2 hb (srt_kept hc.r3 hp (.inr (Nat.le_refl _))) (srt_kept hc.r4 hp (.inr (by omega))))
    have HDONE := Lib.hid (fun (e e1 e2 : Array Sh) (hz : e.size = d.size) (hc : SymL (ltM cf) a mid E b s e) (hp1 : PermIn a mid e e1) (hs1 : SortedIn (ltM cf) a mid e1) (hp2 : PermIn mid b e1 e2) (hs2 : SortedIn (ltM cf) mid b e2) => sym_doneL (by omega) (by omega) (by omega) hc hp1 hs1 hp2 hs2)
    clear hE hup hdn
    have h4 : s < m := by omega
    have h8 : mid < E := by omega
    have h3 : a < mid := by omega
    by_cases h7 : s < mid
    ·have h5 : m < E := by omega
     have HR := Lib.hid (sm_rotate w0 B g cap d s m E (.func (.func f) #[] cb) wr he.out h4 h5 (by omega) hsz)
     have HPM := Lib.hid (fun (e : Array Sh) (hp : PermIn s E d e) => permIn_mono _ _ _ _ a b (by omega) (by omega) hb hp)
     by_cases h6 : a < s
     ·replace IL := Lib.hid (fun W e h hz hc => IL.out W e h hz hc h6 h7)
      by_cases h9 : E < b
      ·replace IR := Lib.hid (fun W e1 h hz e hz2 hc hp => IR.out W e1 h hz e hz2 hc hp h8 h9)
       go_wp2_with (first | (go_at_call 108; with_reducible refine (HR.out).mono ?_; rintro e' w1 ⟨rfl, d1, hs1, hz1, hx1, hp1⟩; replace hs1 := Lib.hid hs1; replace hx1 := Lib.hid (HCUT.out d1 hx1); replace hp1 := Lib.hid (HPM.out d1 hp1)) | (go_at_call 93; with_reducible refine (IL.out w1 d1 hs1.out hz1 hx1.out).mono ?_; rintro e' w2 ⟨rfl, d2, hs2, hp2, hso2⟩; have hz2 := perm_size hp2 hz1; replace hs2 := Lib.hid hs2; replace hp2 := Lib.hid hp2; replace hso2 := Lib.hid hso2) | (go_at_call 93; with_reducible refine (IR.out w2 d2 hs2.out hz2 d1 hz1 hx1.out hp2.out).mono ?_; rintro e' w3 ⟨rfl, d3, hs3, hp3, hso3⟩; replace hs3 := Lib.hid hs3; replace hp3 := Lib.hid hp3; replace hso3 := Lib.hid hso3))
       go_end0
       have HF := HDONE.out d1 d2 d3 hz1 hx1.out hp2.out hso2.out hp3.out hso3.out
       exact ⟨rfl, d3, hs3.out, permIn_trans _ _ _ a b hp1.out HF.1, HF.2⟩
      ·have IRN := Lib.hid (fun (e e1 : Array Sh) (hc : SymL (ltM cf) a mid E b s e) (hp : PermIn a mid e e1) => (by have := srt_kept hc.r3 hp (.inr (Nat.le_refl _)); rwa [show E = b by omega] at this : SortedIn (ltM cf) mid b e1))
       go_wp2_with (first | (go_at_call 108; with_reducible refine (HR.out).mono ?_; rintro e' w1 ⟨rfl, d1, hs1, hz1, hx1, hp1⟩; replace hs1 := Lib.hid hs1; replace hx1 := Lib.hid (HCUT.out d1 hx1); replace hp1 := Lib.hid (HPM.out d1 hp1)) | (go_at_call 93; with_reducible refine (IL.out w1 d1 hs1.out hz1 hx1.out).mono ?_; rintro e' w2 ⟨rfl, d2, hs2, hp2, hso2⟩; have hz2 := perm_size hp2 hz1; replace hs2 := Lib.hid hs2; replace hp2 := Lib.hid hp2; replace hso2 := Lib.hid hso2))
       go_end0
       have HF := HDONE.out d1 d2 d2 hz1 hx1.out hp2.out hso2.out permR (IRN.out _ _ hx1.out hp2.out)
       exact ⟨rfl, d2, hs2.out, permIn_trans _ _ _ a b hp1.out HF.1, HF.2⟩
     ·have ILN := Lib.hid (fun (e : Array Sh) (hc : SymL (ltM cf) a mid E b s e) => (by have := hc.r2; rwa [show s = a by omega] at this : SortedIn (ltM cf) a mid e))
      by_cases h9 : E < b
      ·replace IR := Lib.hid (fun W e1 h hz e hz2 hc hp => IR.out W e1 h hz e hz2 hc hp h8 h9)
       go_wp2_with (first | (go_at_call 108; with_reducible refine (HR.out).mono ?_; rintro e' w1 ⟨rfl, d1, hs1, hz1, hx1, hp1⟩; replace hs1 := Lib.hid hs1; replace hx1 := Lib.hid (HCUT.out d1 hx1); replace hp1 := Lib.hid (HPM.out d1 hp1)) | (go_at_call 93; with_reducible refine (IR.out w1 d1 hs1.out hz1 d1 hz1 hx1.out permR).mono ?_; rintro e' w3 ⟨rfl, d3, hs3, hp3, hso3⟩; replace hs3 := Lib.hid hs3; replace hp3 := Lib.hid hp3; replace hso3 := Lib.hid hso3))
       go_end0
       have HF := HDONE.out d1 d1 d3 hz1 hx1.out permR (ILN.out _ hx1.out) hp3.out hso3.out
       exact ⟨rfl, d3, hs3.out, permIn_trans _ _ _ a b hp1.out HF.1, HF.2⟩
      ·have IRN := Lib.hid (fun (e e1 : Array Sh) (hc : SymL (ltM cf) a mid E b s e) (hp : PermIn a mid e e1) => (by have := srt_kept hc.r3 hp (.inr (Nat.le_refl _)); rwa [show E = b by omega] at this : SortedIn (ltM cf) mid b e1))
       go_wp2_with (go_at_call 108; with_reducible refine (HR.out).mono ?_; rintro e' w1 ⟨rfl, d1, hs1, hz1, hx1, hp1⟩; replace hs1 := Lib.hid hs1; replace hx1 := Lib.hid (HCUT.out d1 hx1); replace hp1 := Lib.hid (HPM.out d1 hp1))
       go_end0
       have HF := HDONE.out d1 d1 d1 hz1 hx1.out permR (ILN.out _ hx1.out) permR (IRN.out _ _ hx1.out permR)
       exact ⟨rfl, d1, hs1.out, permIn_trans _ _ _ a b hp1.out HF.1, HF.2⟩
    ·have h5 : ¬ m < E := by omega
     have h6 : a < s := by omega
     have h9 : E < b := by omega
     have HID := Lib.hid (fun x => (by rw [show E = m by omega, rotS_idr] : d[rotS s m E x]! = d[x]!))
     have ILN := Lib.hid (fun (e : Array Sh) (hc : SymL (ltM cf) a mid E b s e) => (by have := hc.r1; rwa [show s = mid by omega] at this : SortedIn (ltM cf) a mid e))
     replace IR := Lib.hid (fun W e1 h hz e hz2 hc hp => IR.out W e1 h hz e hz2 hc hp h8 h9)
     have hx1 := Lib.hid (HCUT.out d (fun x => (HID.out x).symm ▸ rfl))
     have hp1 := Lib.hid (permIn_refl d a b)
     go_wp2_with (go_at_call 93; with_reducible refine (IR.out wr d he.out rfl d rfl hx1.out permR).mono ?_; rintro e' w3 ⟨rfl, d3, hs3, hp3, hso3⟩; replace hs3 := Lib.hid hs3; replace hp3 := Lib.hid hp3; replace hso3 := Lib.hid hso3)
     go_end0
     have HF := HDONE.out d d d3 rfl hx1.out permR (ILN.out _ hx1.out) hp3.out hso3.out
     exact ⟨rfl, d3, hs3.out, permIn_trans _ _ _ a b hp1.out HF.1, HF.2⟩
 ·go_enter Tryz.func93, Tryz.ntmps93
  have ql : lo ≤ a ∧ a ≤ lo := by have := HLO.out; unfold symLo at this; rw [← HMID.out, if_neg hm] at this; omega
  have qh : hi ≤ m ∧ m ≤ hi := by have := HHI.out; unfold symHi at this; rw [← HMID.out, if_neg hm] at this; omega
  go_wp2_with fail
  clear hma hmb' qm
  go_loopw [20, 21] (fun u v W => ∃ (s r : Nat), u = .int .i64 s ∧ v = .int .i64 r ∧ lo ≤ s ∧ s ≤ r ∧ r ≤ hi ∧ Hid (SortM w0 B g cap 41 d W) ∧ Hid (lo < s → ltM cf d[mid + m - s]! d[s - 1]! = false) ∧ Hid (r < hi → ltM cf d[mid + m - r - 1]! d[r]! = true)) (fun u v _ => (intOf v - intOf u).toNat)
  case atStart => exact ⟨lo, hi, by first | rfl | exact congrArg (Value.int .i64) (by omega), by first | rfl | exact congrArg (Value.int .i64) (by omega), Nat.le_refl _, by omega, Nat.le_refl _, HS, Lib.hid (fun h => absurd h (by omega)), Lib.hid (fun h => absurd h (by omega))⟩
  case round =>
   obtain ⟨s, r, rfl, rfl, hls, hsr, hrh, he, hup, hdn⟩ := hrel
   by_cases hlt : s < r
   ·obtain ⟨C, hC⟩ : ∃ C, C = (s + r) / 2 := ⟨_, rfl⟩
    obtain ⟨I, hI⟩ : ∃ I, I = mid + m - 1 - C := ⟨_, rfl⟩
    have qC : ((s : Int) + (r : Int)) / 2 = (C : Int) := by omega
    have qI : (mid : Int) + (m : Int) - 1 - (C : Int) = (I : Int) := by omega
    have wI : IntKind.i64.wrap (I : Int) = (I : Int) := by rw [IntKind.wrap_i64]; omega
    have b1 : (I : Int) < (d.size : Int) := by omega
    have b2 : (C : Int) < (d.size : Int) := by omega
    have c3 : s ≤ C := by omega
    have c4 : C < r := by omega
    have c5 : C < d.size := by omega
    have c6 : I < d.size := by omega
    have HG := Lib.hid (fun (h : cf d[I]! d[C]! < 0) => fun (_ : C < hi) => (by rw [show mid + m - C - 1 = I by omega]; exact ltM_t h : ltM cf d[mid + m - C - 1]! d[C]! = true))
    have HE := Lib.hid (fun (h : ¬ cf d[I]! d[C]! < 0) => fun (_ : lo < C + 1) => (by rw [show mid + m - (C + 1) = I by omega, Nat.add_sub_cancel]; exact ltM_f h : ltM cf d[mid + m - (C + 1)]! d[C + 1 - 1]! = false))
    have hC2 : 2 * C ≤ s + r := by omega
    clear hC hI
    obtain ⟨c10, c11, c12⟩ := he.out.cells (show I < d.size by omega)
    obtain ⟨c20, c21, c22⟩ := he.out.cells (show C < d.size by omega)
    have HX := Lib.hid (fun V (h : Ext wr V) => he.out.ext h)
    have HQ := Lib.hid (fun V (h : Ext wr V) => HC.out V (he.out.ext h).gr d[I]! d[C]!)
    generalize cf d[I]! d[C]! = z at *
    generalize d[I]! = x1 at c10 c11 c12 HQ
    generalize d[C]! = x2 at c20 c21 c22 HQ
    have MK := Lib.hid (fun V (e : Ext wr V) => (⟨e.cell c10, e.cell c11, e.cell c12, e.cell c20, e.cell c21, e.cell c22, e⟩ : V.cell? ⟨g, I * 3, none⟩ = some (.int .i64 x1.id) ∧ V.cell? ⟨g, I * 3 + 1, none⟩ = some (.int .i64 x1.n) ∧ V.cell? ⟨g, I * 3 + 2, none⟩ = some (.int .i64 x1.d) ∧ V.cell? ⟨g, C * 3, none⟩ = some (.int .i64 x2.id) ∧ V.cell? ⟨g, C * 3 + 1, none⟩ = some (.int .i64 x2.n) ∧ V.cell? ⟨g, C * 3 + 2, none⟩ = some (.int .i64 x2.d) ∧ Ext wr V))
    by_cases hz : z < 0
    ·have hg := Lib.hid (HG.out hz)
     clear HG HE
     clear c10 c11 c12 c20 c21 c22
     go_wp2_with fail
     go_region_held3 (fun V => V.cell? ⟨g, I * 3, none⟩ = some (.int .i64 x1.id) ∧ V.cell? ⟨g, I * 3 + 1, none⟩ = some (.int .i64 x1.n) ∧ V.cell? ⟨g, I * 3 + 2, none⟩ = some (.int .i64 x1.d) ∧ V.cell? ⟨g, C * 3, none⟩ = some (.int .i64 x2.id) ∧ V.cell? ⟨g, C * 3 + 1, none⟩ = some (.int .i64 x2.n) ∧ V.cell? ⟨g, C * 3 + 2, none⟩ = some (.int .i64 x2.d) ∧ Ext wr V) ((exact MK.out _ (by solve_by_elim [X0, X1, X2, X3]))) ((refine (HQ.out _ (by solve_by_elim [X0, X1, X2, X3])).mono ?_; rintro e w' ⟨rfl, hb⟩; replace hb : Ext wr w' := Ext.trans (by solve_by_elim [X0, X1, X2, X3]) hb))
     have hN := Lib.hid (HX.out w' hb)
     clear HX HQ MK
     go_wp2_with fail
     go_roundw
     case rel => exact ⟨s, C, rfl, rfl, hls, c3, by omega, hN, hup, hg⟩
     case measure => simp [intOf]; omega
    ·have hg := Lib.hid (HE.out hz)
     have hz' : decide (z < 0) = false := decide_eq_false hz
     clear HG HE hz
     clear c10 c11 c12 c20 c21 c22
     go_wp2_with fail
     go_region_held3 (fun V => V.cell? ⟨g, I * 3, none⟩ = some (.int .i64 x1.id) ∧ V.cell? ⟨g, I * 3 + 1, none⟩ = some (.int .i64 x1.n) ∧ V.cell? ⟨g, I * 3 + 2, none⟩ = some (.int .i64 x1.d) ∧ V.cell? ⟨g, C * 3, none⟩ = some (.int .i64 x2.id) ∧ V.cell? ⟨g, C * 3 + 1, none⟩ = some (.int .i64 x2.n) ∧ V.cell? ⟨g, C * 3 + 2, none⟩ = some (.int .i64 x2.d) ∧ Ext wr V) ((exact MK.out _ (by solve_by_elim [X0, X1, X2, X3]))) ((refine (HQ.out _ (by solve_by_elim [X0, X1, X2, X3])).mono ?_; rintro e w' ⟨rfl, hb⟩; replace hb : Ext wr w' := Ext.trans (by solve_by_elim [X0, X1, X2, X3]) hb))
     have hN := Lib.hid (HX.out w' hb)
     clear HX HQ MK
     go_wp2_with fail
     go_roundw
     case rel => exact ⟨C + 1, r, congrArg (Value.int .i64) (by omega), rfl, by omega, by omega, hrh, hN, hg, hdn⟩
     case measure => simp [intOf]; omega
   ·obtain rfl : s = r := by omega
    obtain ⟨E, hE⟩ : ∃ E, E = mid + m - s := ⟨_, rfl⟩
    have HEQ := Lib.hid hE
    have qE : (mid : Int) + (m : Int) - (s : Int) = (E : Int) := by omega
    have e1 : E + s ≤ mid + m := by omega
    have e2 : mid + m ≤ E + s := by omega
    have HCUT := Lib.hid (fun (e : Array Sh) (hx : ∀ x, e[x]! = d[rotS s m E x]!) => sym_cutL (lt := ltM cf) HW.out (Nat.lt_of_succ_lt h0) (Nat.lt_of_succ_lt h2) H1.out H2.out HMID.out hE (HLO.out ▸ hls) (HHI.out ▸ hrh) (by rw [← HLO.out]; exact hup.out) (by rw [← HHI.out]; exact hdn.out) hx)
    have IL := Lib.hid (fun (W : World) (e : Array Sh) (h : SortM w0 B g cap 41 e W) (hz : e.size = d.size) (hc : SymL (ltM cf) a mid E b s e) => fun (h1 : a < s) (h2 : s < mid) => IH.out a s mid e W (by omega) h hz h1 h2 (by omega) hc.r1 hc.r2)
    have IR := Lib.hid (fun (W : World) (e' : Array Sh) (h : SortM w0 B g cap 41 e' W) (hz' : e'.size = d.size) (e : Array Sh) (_ : e.size = d.size) (hc : SymL (ltM cf) a mid E b s e) (hp : PermIn a mid e e') => fun (h1 : mid < E) (h2 : E < b) => IH.out mid E b e' W (by omega) h hz' h1 h2 hb (srt_kept hc.r3 hp (.inr (Nat.le_refl _))) (srt_kept hc.r4 hp (.inr (by omega))))
    have HDONE := Lib.hid (fun (e e1 e2 : Array Sh) (hz : e.size = d.size) (hc : SymL (ltM cf) a mid E b s e) (hp1 : PermIn a mid e e1) (hs1 : SortedIn (ltM cf) a mid e1) (hp2 : PermIn mid b e1 e2) (hs2 : SortedIn (ltM cf) mid b e2) => sym_doneL (by omega) (by omega) (by omega) hc hp1 hs1 hp2 hs2)
    clear hE hup hdn
    by_cases h4 : s < m
    ·have h5 : m < E := by omega
     have h7 : s < mid := by omega
     have h8 : mid < E := by omega
     have HR := Lib.hid (sm_rotate w0 B g cap d s m E (.func (.func f) #[] cb) wr he.out h4 h5 (by omega) hsz)
     have HPM := Lib.hid (fun (e : Array Sh) (hp : PermIn s E d e) => permIn_mono _ _ _ _ a b (by omega) (by omega) hb hp)
     by_cases h6 : a < s
     ·replace IL := Lib.hid (fun W e h hz hc => IL.out W e h hz hc h6 h7)
      by_cases h9 : E < b
      ·replace IR := Lib.hid (fun W e1 h hz e hz2 hc hp => IR.out W e1 h hz e hz2 hc hp h8 h9)
       go_wp2_with (first | (go_at_call 108; with_reducible refine (HR.out).mono ?_; rintro e' w1 ⟨rfl, d1, hs1, hz1, hx1, hp1⟩; replace hs1 := Lib.hid hs1; replace hx1 := Lib.hid (HCUT.out d1 hx1); replace hp1 := Lib.hid (HPM.out d1 hp1)) | (go_at_call 93; with_reducible refine (IL.out w1 d1 hs1.out hz1 hx1.out).mono ?_; rintro e' w2 ⟨rfl, d2, hs2, hp2, hso2⟩; have hz2 := perm_size hp2 hz1; replace hs2 := Lib.hid hs2; replace hp2 := Lib.hid hp2; replace hso2 := Lib.hid hso2) | (go_at_call 93; with_reducible refine (IR.out w2 d2 hs2.out hz2 d1 hz1 hx1.out hp2.out).mono ?_; rintro e' w3 ⟨rfl, d3, hs3, hp3, hso3⟩; replace hs3 := Lib.hid hs3; replace hp3 := Lib.hid hp3; replace hso3 := Lib.hid hso3))
       go_end0
       have HF := HDONE.out d1 d2 d3 hz1 hx1.out hp2.out hso2.out hp3.out hso3.out
       exact ⟨rfl, d3, hs3.out, permIn_trans _ _ _ a b hp1.out HF.1, HF.2⟩
      ·have IRN := Lib.hid (fun (e e1 : Array Sh) (hc : SymL (ltM cf) a mid E b s e) (hp : PermIn a mid e e1) => (by have := srt_kept hc.r3 hp (.inr (Nat.le_refl _)); rwa [show E = b by omega] at this : SortedIn (ltM cf) mid b e1))
       go_wp2_with (first | (go_at_call 108; with_reducible refine (HR.out).mono ?_; rintro e' w1 ⟨rfl, d1, hs1, hz1, hx1, hp1⟩; replace hs1 := Lib.hid hs1; replace hx1 := Lib.hid (HCUT.out d1 hx1); replace hp1 := Lib.hid (HPM.out d1 hp1)) | (go_at_call 93; with_reducible refine (IL.out w1 d1 hs1.out hz1 hx1.out).mono ?_; rintro e' w2 ⟨rfl, d2, hs2, hp2, hso2⟩; have hz2 := perm_size hp2 hz1; replace hs2 := Lib.hid hs2; replace hp2 := Lib.hid hp2; replace hso2 := Lib.hid hso2))
       go_end0
       have HF := HDONE.out d1 d2 d2 hz1 hx1.out hp2.out hso2.out permR (IRN.out _ _ hx1.out hp2.out)
       exact ⟨rfl, d2, hs2.out, permIn_trans _ _ _ a b hp1.out HF.1, HF.2⟩
     ·have ILN := Lib.hid (fun (e : Array Sh) (hc : SymL (ltM cf) a mid E b s e) => (by have := hc.r2; rwa [show s = a by omega] at this : SortedIn (ltM cf) a mid e))
      by_cases h9 : E < b
      ·replace IR := Lib.hid (fun W e1 h hz e hz2 hc hp => IR.out W e1 h hz e hz2 hc hp h8 h9)
       go_wp2_with (first | (go_at_call 108; with_reducible refine (HR.out).mono ?_; rintro e' w1 ⟨rfl, d1, hs1, hz1, hx1, hp1⟩; replace hs1 := Lib.hid hs1; replace hx1 := Lib.hid (HCUT.out d1 hx1); replace hp1 := Lib.hid (HPM.out d1 hp1)) | (go_at_call 93; with_reducible refine (IR.out w1 d1 hs1.out hz1 d1 hz1 hx1.out permR).mono ?_; rintro e' w3 ⟨rfl, d3, hs3, hp3, hso3⟩; replace hs3 := Lib.hid hs3; replace hp3 := Lib.hid hp3; replace hso3 := Lib.hid hso3))
       go_end0
       have HF := HDONE.out d1 d1 d3 hz1 hx1.out permR (ILN.out _ hx1.out) hp3.out hso3.out
       exact ⟨rfl, d3, hs3.out, permIn_trans _ _ _ a b hp1.out HF.1, HF.2⟩
      ·have IRN := Lib.hid (fun (e e1 : Array Sh) (hc : SymL (ltM cf) a mid E b s e) (hp : PermIn a mid e e1) => (by have := srt_kept hc.r3 hp (.inr (Nat.le_refl _)); rwa [show E = b by omega] at this : SortedIn (ltM cf) mid b e1))
       go_wp2_with (go_at_call 108; with_reducible refine (HR.out).mono ?_; rintro e' w1 ⟨rfl, d1, hs1, hz1, hx1, hp1⟩; replace hs1 := Lib.hid hs1; replace hx1 := Lib.hid (HCUT.out d1 hx1); replace hp1 := Lib.hid (HPM.out d1 hp1))
       go_end0
       have HF := HDONE.out d1 d1 d1 hz1 hx1.out permR (ILN.out _ hx1.out) permR (IRN.out _ _ hx1.out permR)
       exact ⟨rfl, d1, hs1.out, permIn_trans _ _ _ a b hp1.out HF.1, HF.2⟩
    ·have h6 : a < s := by omega
     have h8 : ¬ mid < E := by omega
     have HID := Lib.hid (fun x => (by rw [show s = m by omega, rotS_idl] : d[rotS s m E x]! = d[x]!))
     have IRN := Lib.hid (fun (e e1 : Array Sh) (hc : SymL (ltM cf) a mid E b s e) (hp : PermIn a mid e e1) => (by have := srt_kept hc.r4 hp (.inr (by omega)); rwa [show E = mid by omega] at this : SortedIn (ltM cf) mid b e1))
     by_cases h7 : s < mid
     ·replace IL := Lib.hid (fun W e h hz hc => IL.out W e h hz hc h6 h7)
      have hx1 := Lib.hid (HCUT.out d (fun x => (HID.out x).symm ▸ rfl))
      have hp1 := Lib.hid (permIn_refl d a b)
      go_wp2_with (go_at_call 93; with_reducible refine (IL.out wr d he.out rfl hx1.out).mono ?_; rintro e' w2 ⟨rfl, d2, hs2, hp2, hso2⟩; have hz2 := perm_size hp2 rfl; replace hs2 := Lib.hid hs2; replace hp2 := Lib.hid hp2; replace hso2 := Lib.hid hso2)
      go_end0
      have HF := HDONE.out d d2 d2 rfl hx1.out hp2.out hso2.out permR (IRN.out _ _ hx1.out hp2.out)
      exact ⟨rfl, d2, hs2.out, permIn_trans _ _ _ a b hp1.out HF.1, HF.2⟩
     ·have ILN := Lib.hid (fun (e : Array Sh) (hc : SymL (ltM cf) a mid E b s e) => (by have := hc.r1; rwa [show s = mid by omega] at this : SortedIn (ltM cf) a mid e))
      have hx1 := Lib.hid (HCUT.out d (fun x => (HID.out x).symm ▸ rfl))
      have hp1 := Lib.hid (permIn_refl d a b)
      go_wp2_with fail
      go_end0
      have HF := HDONE.out d d d rfl hx1.out permR (ILN.out _ hx1.out) permR (IRN.out _ _ hx1.out permR)
      exact ⟨rfl, d, he.out, permIn_trans _ _ _ a b hp1.out HF.1, HF.2⟩
set_option maxRecDepth 100000 in
theorem sm_symN : ∀ (N : Nat) (w0 : World) (B g cap : Nat) (cf : Sh → Sh → Int) (f : Nat) (cb : Array Value) (d : Array Sh) (a m b : Nat) (w : World)
  (_ : ∀ args w, (callFunc f args).run Tryz.prog w = .ok (.enter f args) w) (_ : CmpOkM Tryz.prog f cb cf w0 g) (_ : SWO (ltM cf)) (_ : SortM w0 B g cap 41 d w) (_ : b - a ≤ N) (_ : a < m) (_ : m < b) (_ : b ≤ d.size) (_ : d.size ≤ 8000000) (_ : SortedIn (ltM cf) a m d) (_ : SortedIn (ltM cf) m b d),
  Calls Tryz.prog 93 #[.slice (some ⟨g, 0, none⟩) d.size cap, .int .i64 a, .int .i64 m, .int .i64 b, .func (.func f) #[] cb] w fun e w' => e = .returned (.tuple #[]) ∧ ∃ d', SortM w0 B g cap 41 d' w' ∧ PermIn a b d d' ∧ SortedIn (ltM cf) a b d'
 | 0, w0, B, g, cap, cf, f, cb, d, a, m, b, w, eg, hcmp, hS, hs, hN, h1, h2, hb, hsz, hl, hr => by omega
 | N + 1, w0, B, g, cap, cf, f, cb, d, a, m, b, w, eg, hcmp, hS, hs, hN, h1, h2, hb, hsz, hl, hr => by
  by_cases e1 : m = a + 1
  ·exact sm_symA w0 B g cap cf f cb d a m b w eg hcmp hS hs e1 h2 hb hsz hr
  ·by_cases e2 : b = m + 1
   ·exact sm_symB w0 B g cap cf f cb d a m b w eg hcmp hS hs e1 h1 e2 hb hsz hl
   ·refine sm_symC w0 B g cap cf f cb d a m b w eg hcmp hS hs (by omega) (by omega) hb hsz hl hr (fun a' m' b' e W hlt hs' hz g1 g2 g3 g4 g5 => ?_)
    rw [← hz]
    exact sm_symN N w0 B g cap cf f cb e a' m' b' W eg hcmp hS hs' (by omega) g1 g2 (by omega) (by omega) g4 g5
theorem sm_sym (w0 : World) (B g cap : Nat) (cf : Sh → Sh → Int) (f : Nat) (cb : Array Value) (d : Array Sh) (a m b : Nat) (w : World)
  (eg : ∀ args w, (callFunc f args).run Tryz.prog w = .ok (.enter f args) w) (hcmp : CmpOkM Tryz.prog f cb cf w0 g) (hS : SWO (ltM cf)) (hs : SortM w0 B g cap 41 d w) (h1 : a < m) (h2 : m < b) (hb : b ≤ d.size) (hsz : d.size ≤ 8000000) (hl : SortedIn (ltM cf) a m d) (hr : SortedIn (ltM cf) m b d) :
  Calls Tryz.prog 93 #[.slice (some ⟨g, 0, none⟩) d.size cap, .int .i64 a, .int .i64 m, .int .i64 b, .func (.func f) #[] cb] w fun e w' => e = .returned (.tuple #[]) ∧ ∃ d', SortM w0 B g cap 41 d' w' ∧ PermIn a b d d' ∧ SortedIn (ltM cf) a b d' :=
 sm_symN (b - a) w0 B g cap cf f cb d a m b w eg hcmp hS hs (Nat.le_refl _) h1 h2 hb hsz hl hr
end Go.Proofs.YtnheioehadldmaaGreat
