/- PARTS OF THE WALKS, joined: SortB, SortC, SortD. -/
import Derived.Test.YtbjddimafilflaaGreatDoorP01
import Derived.Deep.RegionHeld3
import Derived.WalkSpells
import Derived.Deep.Cut
import Derived.Laws.BitsAllLaws
/- THE WALK over slices.insertionSortCmpFunc, at rows of values. -/
namespace Go.Proofs.YtbjddimafilflaaGreatDoor
open Go.RowKit Go.Sort
variable {α : Type} [Inhabited α]
set_option maxRecDepth 100000 in
set_option maxHeartbeats 1600000 in
theorem sw_insert (w0 : World) (B g cap : Nat) (hd : α → HeadS) (cf : α → α → Int) (f : Nat) (cb : Array Value) (d : Array α) (a b : Nat) (w : World)
    (eg : ∀ args w, (callFunc f args).run Tryz.prog w = .ok (.enter f args) w) (hcmp : CmpOk Tryz.prog f cb (encS hd) cf w0 g) (hS : SWO (ltC cf)) (hs : SortW w0 B g cap 37 (encS hd) d w) (hab : a ≤ b) (hb : b ≤ d.size) (hsz : d.size ≤ 8000000) :
    Calls Tryz.prog 95 #[.slice (some ⟨g, 0, none⟩) d.size cap, .int .i64 a, .int .i64 b, .func (.func f) #[] cb] w fun e w' => e = .returned (.tuple #[]) ∧ ∃ d', SortW w0 B g cap 37 (encS hd) d' w' ∧ PermIn a b d d' ∧ SortedIn (ltC cf) a b d' := by
  have HS := Lib.hid hs
  have HC := Lib.hid hcmp
  have HW := Lib.hid hS
  clear hs hcmp hS
  go_enter Tryz.func95, Tryz.ntmps95
  go_wp2
  go_loopw [8] (fun u W => ∃ (i : Nat) (e : Array α), u = .int .i64 i ∧ a < i ∧ Hid (i ≤ b ∨ i = a + 1) ∧ Hid (SortW w0 B g cap 37 (encS hd) e W) ∧ Hid (SortedIn (ltC cf) a i e) ∧ Hid (PermIn a b d e)) (fun u _ => b + 1 - (intOf u).toNat)
  case atStart => exact ⟨a + 1, d, by go_num, by omega, Lib.hid (.inr rfl), HS, Lib.hid (fun p q h1 h2 h3 => by omega), Lib.hid (permIn_refl _ _ _)⟩
  case round =>
    obtain ⟨i, e, rfl, hai, hib, he, hso, hp⟩ := hrel
    by_cases hlt : i < b
    · go_wp2_with fail
      go_loopw [9] (fun u W => ∃ (j : Nat) (e : Array α), u = .int .i64 j ∧ a ≤ j ∧ j ≤ i ∧ Hid (SortW w0 B g cap 37 (encS hd) e W) ∧ Hid (Ins (ltC cf) a j i e) ∧ Hid (PermIn a b d e)) (fun u _ => (intOf u).toNat)
      case atStart => exact ⟨i, e, rfl, by omega, Nat.le_refl _, he, Lib.hid ⟨fun p q hap hpq hqi _ hq => hso.out p q hap hpq (by omega), fun q h1 h2 => by omega⟩, hp⟩
      case round =>
        clear he hso hp hib
        obtain ⟨j, e, rfl, haj, hji, he, hin, hp⟩ := hrel
        have hes := hp.out.1
        by_cases hja : a < j
        · obtain ⟨jp, rfl⟩ : ∃ jp, j = jp + 1 := ⟨j - 1, by omega⟩
          have c1 := he.out.cell (show jp + 1 < e.size by omega)
          have c2 := he.out.cell (show jp < e.size by omega)
          have f1 := he.out.frozen (jp + 1)
          have f2 := he.out.frozen jp
          have HN := Lib.hid (fun V (h : Ext wr V) => ((he.out.ext h).drew.swap (jp + 1) jp))
          have HX := Lib.hid (fun V (h : Ext wr V) => he.out.ext h)
          have HQ := Lib.hid (fun V (h : Ext wr V) => HC.out V (he.out.ext h).gr e[jp + 1]! e[jp]!)
          have HG := Lib.hid (fun (h : cf e[jp + 1]! e[jp]! < 0) => hin.out.step (ltC_t h) (by omega) (by omega))
          have HE := Lib.hid (fun (h : ¬ cf e[jp + 1]! e[jp]! < 0) => hin.out.stop HW.out (.inr (ltC_f h)))
          have HP := Lib.hid (permIn_trans _ _ _ a b hp.out (swp_permIn e a b (jp + 1) jp (by omega) (by omega) (by omega) (by omega) (by omega)))
          unfold encS at c1 c2 HN HQ
          generalize hd e[jp + 1]! = x1 at *
          generalize hd e[jp]! = x2 at *
          generalize cf e[jp + 1]! e[jp]! = z at *
          have MK := Lib.hid (fun V (e : Ext wr V) => (⟨e.cell c1, e.cell c2, e⟩ : V.cell? ⟨g, jp + 1, none⟩ = some (Value.slice x1.A x1.n x1.c) ∧ V.cell? ⟨g, jp, none⟩ = some (Value.slice x2.A x2.n x2.c) ∧ Ext wr V))
          have hwp : IntKind.i64.wrap (jp : Int) = (jp : Int) := by rw [IntKind.wrap_i64]; omega
          have b1 : (jp : Int) + 1 < (d.size : Int) := by omega
          have b2 : (jp : Int) < (d.size : Int) := by omega
          have b3 : (0 : Int) ≤ (jp : Int) + 1 := by omega
          have b4 : ((jp : Int) + 1).toNat = jp + 1 := by omega
          have hjaz' : (a : Int) < (jp : Int) + 1 := by omega
          by_cases hz : z < 0
          · have hg := Lib.hid (HG.out hz)
            clear HG HE c1 c2 f1 f2
            go_wp2_with fail
            go_region_held3 (fun V => V.cell? ⟨g, jp + 1, none⟩ = some (Value.slice x1.A x1.n x1.c) ∧ V.cell? ⟨g, jp, none⟩ = some (Value.slice x2.A x2.n x2.c) ∧ Ext wr V) ((exact MK.out _ (by repeat (first | with_reducible exact Ext.refl _ | with_reducible assumption | with_reducible refine Ext.drew ?_ | with_reducible refine Ext.drewN ?_ _ | with_reducible refine Ext.alloc ?_ _)))) ((refine (HQ.out _ (by repeat (first | with_reducible exact Ext.refl _ | with_reducible assumption | with_reducible refine Ext.drew ?_ | with_reducible refine Ext.drewN ?_ _ | with_reducible refine Ext.alloc ?_ _))).mono ?_; rintro e w' ⟨rfl, hb⟩; replace hb : Ext wr w' := Ext.trans (by repeat (first | with_reducible exact Ext.refl _ | with_reducible assumption | with_reducible refine Ext.drew ?_ | with_reducible refine Ext.drewN ?_ _ | with_reducible refine Ext.alloc ?_ _)) hb))
            rename_i hHeld
            have hN := Lib.hid (HN.out w' hb)
            have g1 := hHeld.1
            have g2 := hHeld.2.1
            have f1 := (HX.out w' hb).frozen (jp + 1)
            have f2 := (HX.out w' hb).frozen jp
            clear hHeld HN HX HQ MK
            go_wp2_with fail
            go_big_region
            all_goals go_wp2
            all_goals go_roundw
            case rel => exact ⟨jp, swp e (jp + 1) jp, by first | rfl | go_num, by omega, by omega, (by unfold encS; exact hN), hg, HP⟩
            case measure => simp [intOf]
          · have he := Lib.hid (HE.out hz)
            clear HG HE HN c1 c2 f1 f2
            go_wp2_with fail
            go_region_held3 (fun V => V.cell? ⟨g, jp + 1, none⟩ = some (Value.slice x1.A x1.n x1.c) ∧ V.cell? ⟨g, jp, none⟩ = some (Value.slice x2.A x2.n x2.c) ∧ Ext wr V) ((exact MK.out _ (by repeat (first | with_reducible exact Ext.refl _ | with_reducible assumption | with_reducible refine Ext.drew ?_ | with_reducible refine Ext.drewN ?_ _ | with_reducible refine Ext.alloc ?_ _)))) ((refine (HQ.out _ (by repeat (first | with_reducible exact Ext.refl _ | with_reducible assumption | with_reducible refine Ext.drew ?_ | with_reducible refine Ext.drewN ?_ _ | with_reducible refine Ext.alloc ?_ _))).mono ?_; rintro e w' ⟨rfl, hb⟩; replace hb : Ext wr w' := Ext.trans (by repeat (first | with_reducible exact Ext.refl _ | with_reducible assumption | with_reducible refine Ext.drew ?_ | with_reducible refine Ext.drewN ?_ _ | with_reducible refine Ext.alloc ?_ _)) hb))
            have hN := Lib.hid (HX.out w' hb)
            clear HX HQ MK
            go_wp2
            go_roundw
            case rel => exact ⟨i + 1, e, by go_num, by omega, Lib.hid (.inl (by omega)), hN, he, hp⟩
            case measure => simp [intOf]; omega
        · have hja2 : j = a := by omega
          subst hja2
          have HE := Lib.hid (hin.out.stop HW.out (.inl (Nat.le_refl _)))
          have hjaz : decide ((j : Int) > (j : Int)) = false := decide_eq_false (by omega)
          go_wp2_with fail
          go_big_region
          all_goals go_wp2
          all_goals go_roundw
          case rel => exact ⟨i + 1, e, by go_num, by omega, Lib.hid (.inl (by omega)), Lib.hid he.out.drew, HE, hp⟩
          case measure => simp [intOf]; omega
    · have HE := Lib.hid (show SortedIn (ltC cf) a b e from by
        rcases hib.out with h | h
        · have : i = b := by omega
          subst this; exact hso.out
        · intro p q h1 h2 h3; omega)
      go_wp2
      go_end0
      exact ⟨rfl, e, he.out, hp.out, HE.out⟩
end Go.Proofs.YtbjddimafilflaaGreatDoor

/- THE WALK over slices.symMergeCmpFunc, at rows of values. -/
namespace Go.Proofs.YtbjddimafilflaaGreatDoor
open Go.RowKit Go.Sort
variable {α : Type} [Inhabited α]
set_option maxRecDepth 100000 in
set_option maxHeartbeats 6400000 in
theorem sw_symA (w0 : World) (B g cap : Nat) (hd : α → HeadS) (cf : α → α → Int) (f : Nat) (cb : Array Value) (d : Array α) (a m b : Nat) (w : World)
    (eg : ∀ args w, (callFunc f args).run Tryz.prog w = .ok (.enter f args) w) (hcmp : CmpOk Tryz.prog f cb (encS hd) cf w0 g) (hS : SWO (ltC cf)) (hs : SortW w0 B g cap 37 (encS hd) d w) (h1 : m = a + 1) (h2 : m < b) (hb : b ≤ d.size) (hsz : d.size ≤ 8000000) (hr : SortedIn (ltC cf) m b d) :
    Calls Tryz.prog 96 #[.slice (some ⟨g, 0, none⟩) d.size cap, .int .i64 a, .int .i64 m, .int .i64 b, .func (.func f) #[] cb] w fun e w' => e = .returned (.tuple #[]) ∧ ∃ d', SortW w0 B g cap 37 (encS hd) d' w' ∧ PermIn a b d d' ∧ SortedIn (ltC cf) a b d' := by
  have HM := Lib.hid (show SortedIn (ltC cf) (a + 1) b d ∧ m = a + 1 from ⟨by rw [← h1]; exact hr, h1⟩)
  have hm1 : a + 1 ≤ m := by omega
  have hm2 : m ≤ a + 1 := by omega
  clear h1
  have HS := Lib.hid hs
  have HC := Lib.hid hcmp
  have HW := Lib.hid hS
  have H2 := Lib.hid hr
  clear hs hcmp hS hr
  have hma : (((m : Int) - (a : Int)) == 1) = true := by rw [beq_iff_eq]; omega
  go_enter Tryz.func96, Tryz.ntmps96
  go_wp2_with fail
  clear hma
  go_loopw [10, 11] (fun u v W => ∃ (i j : Nat), u = .int .i64 i ∧ v = .int .i64 j ∧ m ≤ i ∧ i ≤ j ∧ j ≤ b ∧ Hid (SortW w0 B g cap 37 (encS hd) d W) ∧ Hid (∀ x, m ≤ x → x < i → ltC cf d[x]! d[a]! = true) ∧ Hid (∀ x, j ≤ x → x < b → ltC cf d[x]! d[a]! = false)) (fun u v _ => (intOf v - intOf u).toNat)
  case atStart => exact ⟨m, b, rfl, rfl, Nat.le_refl _, by omega, Nat.le_refl _, HS, Lib.hid (fun x h1 h2 => by omega), Lib.hid (fun x h1 h2 => by omega)⟩
  case round =>
    obtain ⟨i, j, rfl, rfl, hai, hij, hjb, he, hlo, hhi⟩ := hrel
    by_cases hlt : i < j
    · have q1 : (0 : Int) ≤ ((i : Int) + (j : Int)) / 2 := by omega
      have q2 : ((i : Int) + (j : Int)) / 2 < (d.size : Int) := by omega
      have q3 : (((i : Int) + (j : Int)) / 2).toNat = (i + j) / 2 := by omega
      have q4 : (a : Int) < (d.size : Int) := by omega
      have HG := Lib.hid (fun (h : cf d[(i + j) / 2]! d[a]! < 0) => fun x (h1 : m ≤ x) (h2 : x < (i + j) / 2 + 1) => le_lt HW.out (srt_le HW.out H2.out h1 (show x ≤ (i + j) / 2 by omega) (by omega)) (ltC_t h))
      have HE := Lib.hid (fun (h : ¬ cf d[(i + j) / 2]! d[a]! < 0) => fun x (h1 : (i + j) / 2 ≤ x) (h2 : x < b) => HW.out.ntrans _ _ _ (srt_le HW.out H2.out (show m ≤ (i + j) / 2 by omega) h1 h2) (ltC_f h))
      have c1 := he.out.cell (show (i + j) / 2 < d.size by omega)
      have c2 := he.out.cell (show a < d.size by omega)
      have HX := Lib.hid (fun V (h : Ext wr V) => he.out.ext h)
      have HQ := Lib.hid (fun V (h : Ext wr V) => HC.out V (he.out.ext h).gr d[(i + j) / 2]! d[a]!)
      unfold encS at c1 c2 HQ
      generalize hd d[(i + j) / 2]! = x1 at *
      generalize hd d[a]! = x2 at *
      generalize cf d[(i + j) / 2]! d[a]! = z at *
      have MK := Lib.hid (fun V (e : Ext wr V) => (⟨e.cell c1, e.cell c2, e⟩ : V.cell? ⟨g, (i + j) / 2, none⟩ = some (Value.slice x1.A x1.n x1.c) ∧ V.cell? ⟨g, a, none⟩ = some (Value.slice x2.A x2.n x2.c) ∧ Ext wr V))
      by_cases hz : z < 0
      · have hg := Lib.hid (HG.out hz)
        clear HG HE
        clear c1 c2
        go_wp2_with fail
        go_region_held3 (fun V => V.cell? ⟨g, (i + j) / 2, none⟩ = some (Value.slice x1.A x1.n x1.c) ∧ V.cell? ⟨g, a, none⟩ = some (Value.slice x2.A x2.n x2.c) ∧ Ext wr V) ((exact MK.out _ (by repeat (first | with_reducible exact Ext.refl _ | with_reducible assumption | with_reducible refine Ext.drew ?_ | with_reducible refine Ext.drewN ?_ _ | with_reducible refine Ext.alloc ?_ _)))) ((refine (HQ.out _ (by repeat (first | with_reducible exact Ext.refl _ | with_reducible assumption | with_reducible refine Ext.drew ?_ | with_reducible refine Ext.drewN ?_ _ | with_reducible refine Ext.alloc ?_ _))).mono ?_; rintro e w' ⟨rfl, hb⟩; replace hb : Ext wr w' := Ext.trans (by repeat (first | with_reducible exact Ext.refl _ | with_reducible assumption | with_reducible refine Ext.drew ?_ | with_reducible refine Ext.drewN ?_ _ | with_reducible refine Ext.alloc ?_ _)) hb))
        have hN := Lib.hid (HX.out w' hb)
        clear HX HQ MK
        go_wp2_with fail
        go_roundw
        case rel => exact ⟨(i + j) / 2 + 1, j, congrArg (Value.int .i64) (by omega), rfl, by omega, by omega, hjb, hN, hg, hhi⟩
        case measure => simp [intOf]; omega
      · have hg := Lib.hid (HE.out hz)
        clear HG HE
        clear c1 c2
        go_wp2_with fail
        go_region_held3 (fun V => V.cell? ⟨g, (i + j) / 2, none⟩ = some (Value.slice x1.A x1.n x1.c) ∧ V.cell? ⟨g, a, none⟩ = some (Value.slice x2.A x2.n x2.c) ∧ Ext wr V) ((exact MK.out _ (by repeat (first | with_reducible exact Ext.refl _ | with_reducible assumption | with_reducible refine Ext.drew ?_ | with_reducible refine Ext.drewN ?_ _ | with_reducible refine Ext.alloc ?_ _)))) ((refine (HQ.out _ (by repeat (first | with_reducible exact Ext.refl _ | with_reducible assumption | with_reducible refine Ext.drew ?_ | with_reducible refine Ext.drewN ?_ _ | with_reducible refine Ext.alloc ?_ _))).mono ?_; rintro e w' ⟨rfl, hb⟩; replace hb : Ext wr w' := Ext.trans (by repeat (first | with_reducible exact Ext.refl _ | with_reducible assumption | with_reducible refine Ext.drew ?_ | with_reducible refine Ext.drewN ?_ _ | with_reducible refine Ext.alloc ?_ _)) hb))
        have hN := Lib.hid (HX.out w' hb)
        clear HX HQ MK
        go_wp2_with fail
        go_roundw
        case rel => exact ⟨i, (i + j) / 2, rfl, congrArg (Value.int .i64) (by omega), hai, by omega, by omega, hN, hlo, hg⟩
        case measure => simp [intOf]; omega
    · obtain rfl : i = j := by omega
      go_wp2_with fail
      go_loopw [13] (fun u W => ∃ (k : Nat) (e : Array α), u = .int .i64 k ∧ a ≤ k ∧ k ≤ i - 1 ∧ Hid (SortW w0 B g cap 37 (encS hd) e W) ∧ e.size = d.size ∧ Hid (∀ x, e[x]! = if a ≤ x ∧ x < k then d[x + 1]! else if x = k then d[a]! else d[x]!) ∧ Hid (PermIn a b d e)) (fun u _ => i - (intOf u).toNat)
      case atStart => exact ⟨a, d, rfl, Nat.le_refl _, by omega, he, rfl, Lib.hid (fun x => by rw [if_neg (by omega)]; split; (rename_i h; rw [h]); rfl), Lib.hid (permIn_refl _ _ _)⟩
      case round =>
        clear he
        obtain ⟨k, e, rfl, hak, hki, he, hes, hx, hp⟩ := hrel
        by_cases hlt : k < i - 1
        · have q5 : (k : Int) < (i : Int) - 1 := by omega
          have q6 : (k : Int) + 1 < (d.size : Int) := by omega
          have q7 : ((k : Int) + 1).toNat = k + 1 := by omega
          have HXn := Lib.hid (shiftR_step (k := k) hes (by omega) hak hx.out)
          have HP := Lib.hid (permIn_trans _ _ _ a b hp.out (swp_permIn e a b k (k + 1) (by omega) (by omega) (by omega) (by omega) (by omega)))
          have HZ := Lib.hid (size_swp e k (k + 1))
          have c1 := he.out.cell (show k < e.size by omega)
          have c2 := he.out.cell (show k + 1 < e.size by omega)
          have f1 := he.out.frozen (k)
          have f2 := he.out.frozen (k + 1)
          have HN := Lib.hid (he.out.drew.swap (k) (k + 1))
          unfold encS at c1 c2 HN
          generalize hd e[k]! = x1 at *
          generalize hd e[k + 1]! = x2 at *
          go_wp2_with fail
          go_big_region
          all_goals go_wp2
          all_goals go_roundw
          case rel => exact ⟨k + 1, swp e k (k + 1), by go_num, by omega, by omega, (by unfold encS; exact HN), by rw [HZ.out]; exact hes, HXn, HP⟩
          case measure => simp [intOf]; omega
        · obtain rfl : k = i - 1 := by omega
          have q5 : ¬ (((i - 1 : Nat) : Int) < (i : Int) - 1) := by omega
          have HE := Lib.hid (ins_left HW.out (show a + 1 ≤ i by omega) hjb HM.out.1 (by rw [← HM.out.2]; exact hlo.out) hhi.out hx.out)
          go_wp2
          (try simp only [Exit.inBlock, Exit.then])
          refine bodyPost_ret (results_none rfl _ _ _) rfl ?_
          exact ⟨rfl, e, he.out, hp.out, HE.out⟩
set_option maxRecDepth 100000 in
set_option maxHeartbeats 6400000 in
theorem sw_symB (w0 : World) (B g cap : Nat) (hd : α → HeadS) (cf : α → α → Int) (f : Nat) (cb : Array Value) (d : Array α) (a m b : Nat) (w : World)
    (eg : ∀ args w, (callFunc f args).run Tryz.prog w = .ok (.enter f args) w) (hcmp : CmpOk Tryz.prog f cb (encS hd) cf w0 g) (hS : SWO (ltC cf)) (hs : SortW w0 B g cap 37 (encS hd) d w) (h0 : m ≠ a + 1) (h1 : a < m) (h2 : b = m + 1) (hb : b ≤ d.size) (hsz : d.size ≤ 8000000) (hl : SortedIn (ltC cf) a m d) :
    Calls Tryz.prog 96 #[.slice (some ⟨g, 0, none⟩) d.size cap, .int .i64 a, .int .i64 m, .int .i64 b, .func (.func f) #[] cb] w fun e w' => e = .returned (.tuple #[]) ∧ ∃ d', SortW w0 B g cap 37 (encS hd) d' w' ∧ PermIn a b d d' ∧ SortedIn (ltC cf) a b d' := by
  have HM := Lib.hid h2
  have hm1 : m + 1 ≤ b := by omega
  have hm2 : b ≤ m + 1 := by omega
  have hm3 : ¬ (m ≤ a + 1) := by omega
  clear h2 h0
  have HS := Lib.hid hs
  have HC := Lib.hid hcmp
  have HW := Lib.hid hS
  have H1 := Lib.hid hl
  clear hs hcmp hS hl
  have hma : (((m : Int) - (a : Int)) == 1) = false := by rw [beq_eq_false_iff_ne]; omega
  have hmb' : (((b : Int) - (m : Int)) == 1) = true := by rw [beq_iff_eq]; omega
  go_enter Tryz.func96, Tryz.ntmps96
  go_wp2_with fail
  clear hma hmb'
  go_loopw [14, 15] (fun u v W => ∃ (i j : Nat), u = .int .i64 i ∧ v = .int .i64 j ∧ a ≤ i ∧ i ≤ j ∧ j ≤ m ∧ Hid (SortW w0 B g cap 37 (encS hd) d W) ∧ Hid (∀ x, a ≤ x → x < i → ltC cf d[m]! d[x]! = false) ∧ Hid (∀ x, j ≤ x → x < m → ltC cf d[m]! d[x]! = true)) (fun u v _ => (intOf v - intOf u).toNat)
  case atStart => exact ⟨a, m, rfl, rfl, Nat.le_refl _, by omega, Nat.le_refl _, HS, Lib.hid (fun x h1 h2 => by omega), Lib.hid (fun x h1 h2 => by omega)⟩
  case round =>
    obtain ⟨i, j, rfl, rfl, hai, hij, hjb, he, hlo, hhi⟩ := hrel
    by_cases hlt : i < j
    · have q1 : (0 : Int) ≤ ((i : Int) + (j : Int)) / 2 := by omega
      have q2 : ((i : Int) + (j : Int)) / 2 < (d.size : Int) := by omega
      have q3 : (((i : Int) + (j : Int)) / 2).toNat = (i + j) / 2 := by omega
      have q4 : (m : Int) < (d.size : Int) := by omega
      have HG := Lib.hid (fun (h : cf d[m]! d[(i + j) / 2]! < 0) => fun x (h1 : (i + j) / 2 ≤ x) (h2 : x < m) => lt_le HW.out (ltC_t h) (srt_le HW.out H1.out (show a ≤ (i + j) / 2 by omega) h1 h2))
      have HE := Lib.hid (fun (h : ¬ cf d[m]! d[(i + j) / 2]! < 0) => fun x (h1 : a ≤ x) (h2 : x < (i + j) / 2 + 1) => HW.out.ntrans _ _ _ (ltC_f h) (srt_le HW.out H1.out h1 (show x ≤ (i + j) / 2 by omega) (by omega)))
      have c1 := he.out.cell (show m < d.size by omega)
      have c2 := he.out.cell (show (i + j) / 2 < d.size by omega)
      have HX := Lib.hid (fun V (h : Ext wr V) => he.out.ext h)
      have HQ := Lib.hid (fun V (h : Ext wr V) => HC.out V (he.out.ext h).gr d[m]! d[(i + j) / 2]!)
      unfold encS at c1 c2 HQ
      generalize hd d[m]! = x1 at *
      generalize hd d[(i + j) / 2]! = x2 at *
      generalize cf d[m]! d[(i + j) / 2]! = z at *
      have MK := Lib.hid (fun V (e : Ext wr V) => (⟨e.cell c1, e.cell c2, e⟩ : V.cell? ⟨g, m, none⟩ = some (Value.slice x1.A x1.n x1.c) ∧ V.cell? ⟨g, (i + j) / 2, none⟩ = some (Value.slice x2.A x2.n x2.c) ∧ Ext wr V))
      by_cases hz : z < 0
      · have hg := Lib.hid (HG.out hz)
        clear HG HE
        clear c1 c2
        go_wp2_with fail
        go_region_held3 (fun V => V.cell? ⟨g, m, none⟩ = some (Value.slice x1.A x1.n x1.c) ∧ V.cell? ⟨g, (i + j) / 2, none⟩ = some (Value.slice x2.A x2.n x2.c) ∧ Ext wr V) ((exact MK.out _ (by repeat (first | with_reducible exact Ext.refl _ | with_reducible assumption | with_reducible refine Ext.drew ?_ | with_reducible refine Ext.drewN ?_ _ | with_reducible refine Ext.alloc ?_ _)))) ((refine (HQ.out _ (by repeat (first | with_reducible exact Ext.refl _ | with_reducible assumption | with_reducible refine Ext.drew ?_ | with_reducible refine Ext.drewN ?_ _ | with_reducible refine Ext.alloc ?_ _))).mono ?_; rintro e w' ⟨rfl, hb⟩; replace hb : Ext wr w' := Ext.trans (by repeat (first | with_reducible exact Ext.refl _ | with_reducible assumption | with_reducible refine Ext.drew ?_ | with_reducible refine Ext.drewN ?_ _ | with_reducible refine Ext.alloc ?_ _)) hb))
        have hN := Lib.hid (HX.out w' hb)
        clear HX HQ MK
        go_wp2_with fail
        go_roundw
        case rel => exact ⟨i, (i + j) / 2, rfl, congrArg (Value.int .i64) (by omega), hai, by omega, by omega, hN, hlo, hg⟩
        case measure => simp [intOf]; omega
      · have hg := Lib.hid (HE.out hz)
        have hz' : decide (z < 0) = false := decide_eq_false hz
        clear HG HE hz
        clear c1 c2
        go_wp2_with fail
        go_region_held3 (fun V => V.cell? ⟨g, m, none⟩ = some (Value.slice x1.A x1.n x1.c) ∧ V.cell? ⟨g, (i + j) / 2, none⟩ = some (Value.slice x2.A x2.n x2.c) ∧ Ext wr V) ((exact MK.out _ (by repeat (first | with_reducible exact Ext.refl _ | with_reducible assumption | with_reducible refine Ext.drew ?_ | with_reducible refine Ext.drewN ?_ _ | with_reducible refine Ext.alloc ?_ _)))) ((refine (HQ.out _ (by repeat (first | with_reducible exact Ext.refl _ | with_reducible assumption | with_reducible refine Ext.drew ?_ | with_reducible refine Ext.drewN ?_ _ | with_reducible refine Ext.alloc ?_ _))).mono ?_; rintro e w' ⟨rfl, hb⟩; replace hb : Ext wr w' := Ext.trans (by repeat (first | with_reducible exact Ext.refl _ | with_reducible assumption | with_reducible refine Ext.drew ?_ | with_reducible refine Ext.drewN ?_ _ | with_reducible refine Ext.alloc ?_ _)) hb))
        have hN := Lib.hid (HX.out w' hb)
        clear HX HQ MK
        go_wp2_with fail
        go_roundw
        case rel => exact ⟨(i + j) / 2 + 1, j, congrArg (Value.int .i64) (by omega), rfl, by omega, by omega, hjb, hN, hg, hhi⟩
        case measure => simp [intOf]; omega
    · obtain rfl : i = j := by omega
      go_wp2_with fail
      go_loopw [17] (fun u W => ∃ (k : Nat) (e : Array α), u = .int .i64 k ∧ i ≤ k ∧ k ≤ m ∧ Hid (SortW w0 B g cap 37 (encS hd) e W) ∧ e.size = d.size ∧ Hid (∀ x, e[x]! = if k < x ∧ x ≤ m then d[x - 1]! else if x = k then d[m]! else d[x]!) ∧ Hid (PermIn a b d e)) (fun u _ => (intOf u).toNat)
      case atStart => exact ⟨m, d, rfl, by omega, Nat.le_refl _, he, rfl, Lib.hid (fun x => by rw [if_neg (by omega)]; split; (rename_i h; rw [h]); rfl), Lib.hid (permIn_refl _ _ _)⟩
      case round =>
        clear he
        obtain ⟨k, e, rfl, hak, hki, he, hes, hx, hp⟩ := hrel
        by_cases hlt : i < k
        · obtain ⟨kp, rfl⟩ : ∃ kp, k = kp + 1 := ⟨k - 1, by omega⟩
          have q5 : (i : Int) < (kp : Int) + 1 := by omega
          have q6 : (kp : Int) + 1 < (d.size : Int) := by omega
          have q7 : ((kp : Int) + 1).toNat = kp + 1 := by omega
          have q8 : (0 : Int) ≤ (kp : Int) + 1 := by omega
          have q9 : (kp : Int) < (d.size : Int) := by omega
          have hwp : IntKind.i64.wrap (kp : Int) = (kp : Int) := by rw [IntKind.wrap_i64]; omega
          have HXn := Lib.hid (shiftL_step (k := kp) hes (by omega) hki hx.out)
          have HP := Lib.hid (permIn_trans _ _ _ a b hp.out (swp_permIn e a b (kp + 1) kp (by omega) (by omega) (by omega) (by omega) (by omega)))
          have HZ := Lib.hid (size_swp e (kp + 1) kp)
          have c1 := he.out.cell (show kp + 1 < e.size by omega)
          have c2 := he.out.cell (show kp < e.size by omega)
          have f1 := he.out.frozen (kp + 1)
          have f2 := he.out.frozen (kp)
          have HN := Lib.hid (he.out.drew.swap (kp + 1) (kp))
          unfold encS at c1 c2 HN
          generalize hd e[kp + 1]! = x1 at *
          generalize hd e[kp]! = x2 at *
          go_wp2_with fail
          go_big_region
          all_goals go_wp2
          all_goals go_roundw
          case rel => exact ⟨kp, swp e (kp + 1) kp, by first | rfl | go_num, by omega, by omega, (by unfold encS; exact HN), by rw [HZ.out]; exact hes, HXn, HP⟩
          case measure => simp [intOf]
        · obtain rfl : k = i := by omega
          have HE := Lib.hid (show SortedIn (ltC cf) a b e by rw [HM.out]; exact ins_right HW.out hai hjb H1.out hlo.out hhi.out hx.out)
          go_wp2
          (try simp only [Exit.inBlock, Exit.then])
          refine bodyPost_ret (results_none rfl _ _ _) rfl ?_
          exact ⟨rfl, e, he.out, hp.out, HE.out⟩
end Go.Proofs.YtbjddimafilflaaGreatDoor

/- THE WALK over slices.symMergeCmpFunc, at rows of values: the general case; the recursion. -/
namespace Go.Proofs.YtbjddimafilflaaGreatDoor
open Go.RowKit Go.Sort
variable {α : Type} [Inhabited α]
theorem perm_size {a b n : Nat} {d e : Array α} (h : PermIn a b d e) (hz : d.size = n) : e.size = n := h.1.trans hz
theorem permR {a b : Nat} {d : Array α} : PermIn a b d d := permIn_refl d a b
/-- SymCut, in letters -/
structure SymL (lt : α → α → Bool) (a mid E b s : Nat) (e : Array α) : Prop where
  r1 : SortedIn lt a s e
  r2 : SortedIn lt s mid e
  r3 : SortedIn lt mid E e
  r4 : SortedIn lt E b e
  cross : Cross lt a mid b e
theorem sym_cutL {lt : α → α → Bool} (hS : SWO lt) {a m b s mid E : Nat} {d e : Array α} (h1 : a < m) (h2 : m < b) (hl : SortedIn lt a m d) (hr : SortedIn lt m b d) (hmid : mid = (a + b) / 2) (hE : E = mid + m - s)
    (hlo : symLo a m b ≤ s) (hhi : s ≤ symHi a m b) (hup : symLo a m b < s → lt d[mid + m - s]! d[s - 1]! = false) (hdn : s < symHi a m b → lt d[mid + m - s - 1]! d[s]! = true) (he : ∀ x, e[x]! = d[rotS s m E x]!) : SymL lt a mid E b s e := by
  subst hE
  subst hmid
  have h := sym_cut hS h1 h2 hl hr ⟨hlo, hhi, hup, hdn⟩ he
  exact ⟨h.r1, h.r2, h.r3, h.r4, h.cross⟩
theorem sym_doneL {lt : α → α → Bool} {a mid E b s : Nat} {e e1 e2 : Array α} (ham : a ≤ mid) (hmb : mid ≤ b) (hb : b ≤ e.size) (h : SymL lt a mid E b s e) (hp1 : PermIn a mid e e1) (hs1 : SortedIn lt a mid e1) (hp2 : PermIn mid b e1 e2) (hs2 : SortedIn lt mid b e2) :
    PermIn a b e e2 ∧ SortedIn lt a b e2 := by
  have z1 := hp1.1
  refine ⟨permIn_trans _ _ _ a b (permIn_mono _ _ _ _ _ _ (Nat.le_refl _) (by omega) hb hp1) (permIn_mono _ _ _ _ _ _ (by omega) (Nat.le_refl _) (by omega) hp2), ?_⟩
  exact srt_glue (srt_kept hs1 hp2 (.inl (Nat.le_refl _))) hs2 ((h.cross.left (by omega) hp1).right (by omega) hp2)
set_option maxRecDepth 100000 in
set_option maxHeartbeats 12800000 in
theorem sw_symC (w0 : World) (B g cap : Nat) (hd : α → HeadS) (cf : α → α → Int) (f : Nat) (cb : Array Value) (d : Array α) (a m b : Nat) (w : World)
    (eg : ∀ args w, (callFunc f args).run Tryz.prog w = .ok (.enter f args) w) (hcmp : CmpOk Tryz.prog f cb (encS hd) cf w0 g) (hS : SWO (ltC cf)) (hs : SortW w0 B g cap 37 (encS hd) d w) (h0 : a + 1 < m) (h2 : m + 1 < b) (hb : b ≤ d.size) (hsz : d.size ≤ 8000000) (hl : SortedIn (ltC cf) a m d) (hr : SortedIn (ltC cf) m b d)
    (ih : ∀ (a' m' b' : Nat) (e : Array α) (W : World), b' - a' < b - a → SortW w0 B g cap 37 (encS hd) e W → e.size = d.size → a' < m' → m' < b' → b' ≤ d.size → SortedIn (ltC cf) a' m' e → SortedIn (ltC cf) m' b' e → Calls Tryz.prog 96 #[.slice (some ⟨g, 0, none⟩) d.size cap, .int .i64 a', .int .i64 m', .int .i64 b', .func (.func f) #[] cb] W fun e' w' => e' = .returned (.tuple #[]) ∧ ∃ d', SortW w0 B g cap 37 (encS hd) d' w' ∧ PermIn a' b' e d' ∧ SortedIn (ltC cf) a' b' d') :
    Calls Tryz.prog 96 #[.slice (some ⟨g, 0, none⟩) d.size cap, .int .i64 a, .int .i64 m, .int .i64 b, .func (.func f) #[] cb] w fun e w' => e = .returned (.tuple #[]) ∧ ∃ d', SortW w0 B g cap 37 (encS hd) d' w' ∧ PermIn a b d d' ∧ SortedIn (ltC cf) a b d' := by
  have HS := Lib.hid hs
  have HC := Lib.hid hcmp
  have HW := Lib.hid hS
  have H1 := Lib.hid hl
  have H2 := Lib.hid hr
  have IH := Lib.hid ih
  clear hs hcmp hS hl hr ih
  have hma : (((m : Int) - (a : Int)) == 1) = false := by rw [beq_eq_false_iff_ne]; omega
  have hmb' : (((b : Int) - (m : Int)) == 1) = false := by rw [beq_eq_false_iff_ne]; omega
  obtain ⟨mid, hmid⟩ : ∃ mid, mid = (a + b) / 2 := ⟨_, rfl⟩
  have HMID := Lib.hid hmid
  have qm : ((a : Int) + (b : Int)) / 2 = (mid : Int) := by omega
  have m1 : 2 * mid ≤ a + b := by omega
  have m2 : a + b ≤ 2 * mid + 1 := by omega
  have hrng := sym_rng (show a < m by omega) (show m < b by omega)
  rw [← hmid] at hrng
  clear hmid
  obtain ⟨lo, HLO⟩ : ∃ lo, Hid (lo = symLo a m b) := ⟨_, rfl⟩
  obtain ⟨hi, HHI⟩ : ∃ hi, Hid (hi = symHi a m b) := ⟨_, rfl⟩
  rw [← HLO.out, ← HHI.out] at hrng
  obtain ⟨r1, r2, r3, r4, r5, -⟩ := hrng
  by_cases hm : m > mid
  · go_enter Tryz.func96, Tryz.ntmps96
    have ql : (mid : Int) + (m : Int) - (b : Int) = (lo : Int) := by have := HLO.out; unfold symLo at this; rw [← HMID.out, if_pos hm] at this; omega
    have qh : hi ≤ mid ∧ mid ≤ hi := by have := HHI.out; unfold symHi at this; rw [← HMID.out, if_pos hm] at this; omega
    go_wp2_with fail
    clear hma hmb' qm
    go_loopw [20, 21] (fun u v W => ∃ (s r : Nat), u = .int .i64 s ∧ v = .int .i64 r ∧ lo ≤ s ∧ s ≤ r ∧ r ≤ hi ∧ Hid (SortW w0 B g cap 37 (encS hd) d W) ∧ Hid (lo < s → ltC cf d[mid + m - s]! d[s - 1]! = false) ∧ Hid (r < hi → ltC cf d[mid + m - r - 1]! d[r]! = true)) (fun u v _ => (intOf v - intOf u).toNat)
    case atStart => exact ⟨lo, hi, by first | rfl | exact congrArg (Value.int .i64) ql, by first | rfl | exact congrArg (Value.int .i64) (by omega), Nat.le_refl _, by omega, Nat.le_refl _, HS, Lib.hid (fun h => absurd h (by omega)), Lib.hid (fun h => absurd h (by omega))⟩
    case round =>
      obtain ⟨s, r, rfl, rfl, hls, hsr, hrh, he, hup, hdn⟩ := hrel
      by_cases hlt : s < r
      · obtain ⟨C, hC⟩ : ∃ C, C = (s + r) / 2 := ⟨_, rfl⟩
        obtain ⟨I, hI⟩ : ∃ I, I = mid + m - 1 - C := ⟨_, rfl⟩
        have qC : ((s : Int) + (r : Int)) / 2 = (C : Int) := by omega
        have qI : (mid : Int) + (m : Int) - 1 - (C : Int) = (I : Int) := by omega
        have wI : IntKind.i64.wrap (I : Int) = (I : Int) := by rw [IntKind.wrap_i64]; omega
        have b1 : (I : Int) < (d.size : Int) := by omega
        have b2 : (C : Int) < (d.size : Int) := by omega
        have c3 : s ≤ C := by omega
        have c4 : C < r := by omega
        have c5 : C < d.size := by omega
        have c6 : I < d.size := by omega
        have HG := Lib.hid (fun (h : cf d[I]! d[C]! < 0) => fun (_ : C < hi) => (by rw [show mid + m - C - 1 = I by omega]; exact ltC_t h : ltC cf d[mid + m - C - 1]! d[C]! = true))
        have HE := Lib.hid (fun (h : ¬ cf d[I]! d[C]! < 0) => fun (_ : lo < C + 1) => (by rw [show mid + m - (C + 1) = I by omega, Nat.add_sub_cancel]; exact ltC_f h : ltC cf d[mid + m - (C + 1)]! d[C + 1 - 1]! = false))
        have hC2 : 2 * C ≤ s + r := by omega
        clear hC hI
        have c1 := he.out.cell (show I < d.size by omega)
        have c2 := he.out.cell (show C < d.size by omega)
        have HX := Lib.hid (fun V (h : Ext wr V) => he.out.ext h)
        have HQ := Lib.hid (fun V (h : Ext wr V) => HC.out V (he.out.ext h).gr d[I]! d[C]!)
        unfold encS at c1 c2 HQ
        generalize hd d[I]! = x1 at *
        generalize hd d[C]! = x2 at *
        generalize cf d[I]! d[C]! = z at *
        have MK := Lib.hid (fun V (e : Ext wr V) => (⟨e.cell c1, e.cell c2, e⟩ : V.cell? ⟨g, I, none⟩ = some (Value.slice x1.A x1.n x1.c) ∧ V.cell? ⟨g, C, none⟩ = some (Value.slice x2.A x2.n x2.c) ∧ Ext wr V))
        by_cases hz : z < 0
        · have hg := Lib.hid (HG.out hz)
          clear HG HE
          clear c1 c2
          go_wp2_with fail
          go_region_held3 (fun V => V.cell? ⟨g, I, none⟩ = some (Value.slice x1.A x1.n x1.c) ∧ V.cell? ⟨g, C, none⟩ = some (Value.slice x2.A x2.n x2.c) ∧ Ext wr V) ((exact MK.out _ (by repeat (first | with_reducible exact Ext.refl _ | with_reducible assumption | with_reducible refine Ext.drew ?_ | with_reducible refine Ext.drewN ?_ _ | with_reducible refine Ext.alloc ?_ _)))) ((refine (HQ.out _ (by repeat (first | with_reducible exact Ext.refl _ | with_reducible assumption | with_reducible refine Ext.drew ?_ | with_reducible refine Ext.drewN ?_ _ | with_reducible refine Ext.alloc ?_ _))).mono ?_; rintro e w' ⟨rfl, hb⟩; replace hb : Ext wr w' := Ext.trans (by repeat (first | with_reducible exact Ext.refl _ | with_reducible assumption | with_reducible refine Ext.drew ?_ | with_reducible refine Ext.drewN ?_ _ | with_reducible refine Ext.alloc ?_ _)) hb))
          have hN := Lib.hid (HX.out w' hb)
          clear HX HQ MK
          go_wp2_with fail
          go_roundw
          case rel => exact ⟨s, C, rfl, rfl, hls, c3, by omega, hN, hup, hg⟩
          case measure => simp [intOf]; omega
        · have hg := Lib.hid (HE.out hz)
          have hz' : decide (z < 0) = false := decide_eq_false hz
          clear HG HE hz
          clear c1 c2
          go_wp2_with fail
          go_region_held3 (fun V => V.cell? ⟨g, I, none⟩ = some (Value.slice x1.A x1.n x1.c) ∧ V.cell? ⟨g, C, none⟩ = some (Value.slice x2.A x2.n x2.c) ∧ Ext wr V) ((exact MK.out _ (by repeat (first | with_reducible exact Ext.refl _ | with_reducible assumption | with_reducible refine Ext.drew ?_ | with_reducible refine Ext.drewN ?_ _ | with_reducible refine Ext.alloc ?_ _)))) ((refine (HQ.out _ (by repeat (first | with_reducible exact Ext.refl _ | with_reducible assumption | with_reducible refine Ext.drew ?_ | with_reducible refine Ext.drewN ?_ _ | with_reducible refine Ext.alloc ?_ _))).mono ?_; rintro e w' ⟨rfl, hb⟩; replace hb : Ext wr w' := Ext.trans (by repeat (first | with_reducible exact Ext.refl _ | with_reducible assumption | with_reducible refine Ext.drew ?_ | with_reducible refine Ext.drewN ?_ _ | with_reducible refine Ext.alloc ?_ _)) hb))
          have hN := Lib.hid (HX.out w' hb)
          clear HX HQ MK
          go_wp2_with fail
          go_roundw
          case rel => exact ⟨C + 1, r, congrArg (Value.int .i64) (by omega), rfl, by omega, by omega, hrh, hN, hg, hdn⟩
          case measure => simp [intOf]; omega
      · obtain rfl : s = r := by omega
        obtain ⟨E, hE⟩ : ∃ E, E = mid + m - s := ⟨_, rfl⟩
        have HEQ := Lib.hid hE
        have qE : (mid : Int) + (m : Int) - (s : Int) = (E : Int) := by omega
        have e1 : E + s ≤ mid + m := by omega
        have e2 : mid + m ≤ E + s := by omega
        have HCUT := Lib.hid (fun (e : Array α) (hx : ∀ x, e[x]! = d[rotS s m E x]!) => sym_cutL (lt := ltC cf) HW.out (Nat.lt_of_succ_lt h0) (Nat.lt_of_succ_lt h2) H1.out H2.out HMID.out hE (HLO.out ▸ hls) (HHI.out ▸ hrh) (by rw [← HLO.out]; exact hup.out) (by rw [← HHI.out]; exact hdn.out) hx)
        have IL := Lib.hid (fun (W : World) (e : Array α) (h : SortW w0 B g cap 37 (encS hd) e W) (hz : e.size = d.size) (hc : SymL (ltC cf) a mid E b s e) => fun (h1 : a < s) (h2 : s < mid) => IH.out a s mid e W (by omega) h hz h1 h2 (by omega) hc.r1 hc.r2)
        have IR := Lib.hid (fun (W : World) (e' : Array α) (h : SortW w0 B g cap 37 (encS hd) e' W) (hz' : e'.size = d.size) (e : Array α) (_ : e.size = d.size) (hc : SymL (ltC cf) a mid E b s e) (hp : PermIn a mid e e') => fun (h1 : mid < E) (h2 : E < b) => IH.out mid E b e' W (by omega) h hz' h1 h2 hb (srt_kept hc.r3 hp (.inr (Nat.le_refl _))) (srt_kept hc.r4 hp (.inr (by omega))))
        have HDONE := Lib.hid (fun (e e1 e2 : Array α) (hz : e.size = d.size) (hc : SymL (ltC cf) a mid E b s e) (hp1 : PermIn a mid e e1) (hs1 : SortedIn (ltC cf) a mid e1) (hp2 : PermIn mid b e1 e2) (hs2 : SortedIn (ltC cf) mid b e2) => sym_doneL (by omega) (by omega) (by omega) hc hp1 hs1 hp2 hs2)
        clear hE hup hdn
        have h4 : s < m := by omega
        have h8 : mid < E := by omega
        have h3 : a < mid := by omega
        by_cases h7 : s < mid
        · have h5 : m < E := by omega
          have HR := Lib.hid (sw_rotate w0 B g cap hd d s m E (.func (.func f) #[] cb) wr he.out h4 h5 (by omega) hsz)
          have HPM := Lib.hid (fun (e : Array α) (hp : PermIn s E d e) => permIn_mono _ _ _ _ a b (by omega) (by omega) hb hp)
          by_cases h6 : a < s
          · replace IL := Lib.hid (fun W e h hz hc => IL.out W e h hz hc h6 h7)
            by_cases h9 : E < b
            · replace IR := Lib.hid (fun W e1 h hz e hz2 hc hp => IR.out W e1 h hz e hz2 hc hp h8 h9)
              go_wp2_with (first | (go_at_call 110; with_reducible refine (HR.out).mono ?_; rintro e' w1 ⟨rfl, d1, hs1, hz1, hx1, hp1⟩; replace hs1 := Lib.hid hs1; replace hx1 := Lib.hid (HCUT.out d1 hx1); replace hp1 := Lib.hid (HPM.out d1 hp1)) | (go_at_call 96; with_reducible refine (IL.out w1 d1 hs1.out hz1 hx1.out).mono ?_; rintro e' w2 ⟨rfl, d2, hs2, hp2, hso2⟩; have hz2 := perm_size hp2 hz1; replace hs2 := Lib.hid hs2; replace hp2 := Lib.hid hp2; replace hso2 := Lib.hid hso2) | (go_at_call 96; with_reducible refine (IR.out w2 d2 hs2.out hz2 d1 hz1 hx1.out hp2.out).mono ?_; rintro e' w3 ⟨rfl, d3, hs3, hp3, hso3⟩; replace hs3 := Lib.hid hs3; replace hp3 := Lib.hid hp3; replace hso3 := Lib.hid hso3))
              go_end0
              have HF := HDONE.out d1 d2 d3 hz1 hx1.out hp2.out hso2.out hp3.out hso3.out
              exact ⟨rfl, d3, hs3.out, permIn_trans _ _ _ a b hp1.out HF.1, HF.2⟩
            · have IRN := Lib.hid (fun (e e1 : Array α) (hc : SymL (ltC cf) a mid E b s e) (hp : PermIn a mid e e1) => (by have := srt_kept hc.r3 hp (.inr (Nat.le_refl _)); rwa [show E = b by omega] at this : SortedIn (ltC cf) mid b e1))
              go_wp2_with (first | (go_at_call 110; with_reducible refine (HR.out).mono ?_; rintro e' w1 ⟨rfl, d1, hs1, hz1, hx1, hp1⟩; replace hs1 := Lib.hid hs1; replace hx1 := Lib.hid (HCUT.out d1 hx1); replace hp1 := Lib.hid (HPM.out d1 hp1)) | (go_at_call 96; with_reducible refine (IL.out w1 d1 hs1.out hz1 hx1.out).mono ?_; rintro e' w2 ⟨rfl, d2, hs2, hp2, hso2⟩; have hz2 := perm_size hp2 hz1; replace hs2 := Lib.hid hs2; replace hp2 := Lib.hid hp2; replace hso2 := Lib.hid hso2))
              go_end0
              have HF := HDONE.out d1 d2 d2 hz1 hx1.out hp2.out hso2.out permR (IRN.out _ _ hx1.out hp2.out)
              exact ⟨rfl, d2, hs2.out, permIn_trans _ _ _ a b hp1.out HF.1, HF.2⟩
          · have ILN := Lib.hid (fun (e : Array α) (hc : SymL (ltC cf) a mid E b s e) => (by have := hc.r2; rwa [show s = a by omega] at this : SortedIn (ltC cf) a mid e))
            by_cases h9 : E < b
            · replace IR := Lib.hid (fun W e1 h hz e hz2 hc hp => IR.out W e1 h hz e hz2 hc hp h8 h9)
              go_wp2_with (first | (go_at_call 110; with_reducible refine (HR.out).mono ?_; rintro e' w1 ⟨rfl, d1, hs1, hz1, hx1, hp1⟩; replace hs1 := Lib.hid hs1; replace hx1 := Lib.hid (HCUT.out d1 hx1); replace hp1 := Lib.hid (HPM.out d1 hp1)) | (go_at_call 96; with_reducible refine (IR.out w1 d1 hs1.out hz1 d1 hz1 hx1.out permR).mono ?_; rintro e' w3 ⟨rfl, d3, hs3, hp3, hso3⟩; replace hs3 := Lib.hid hs3; replace hp3 := Lib.hid hp3; replace hso3 := Lib.hid hso3))
              go_end0
              have HF := HDONE.out d1 d1 d3 hz1 hx1.out permR (ILN.out _ hx1.out) hp3.out hso3.out
              exact ⟨rfl, d3, hs3.out, permIn_trans _ _ _ a b hp1.out HF.1, HF.2⟩
            · have IRN := Lib.hid (fun (e e1 : Array α) (hc : SymL (ltC cf) a mid E b s e) (hp : PermIn a mid e e1) => (by have := srt_kept hc.r3 hp (.inr (Nat.le_refl _)); rwa [show E = b by omega] at this : SortedIn (ltC cf) mid b e1))
              go_wp2_with (go_at_call 110; with_reducible refine (HR.out).mono ?_; rintro e' w1 ⟨rfl, d1, hs1, hz1, hx1, hp1⟩; replace hs1 := Lib.hid hs1; replace hx1 := Lib.hid (HCUT.out d1 hx1); replace hp1 := Lib.hid (HPM.out d1 hp1))
              go_end0
              have HF := HDONE.out d1 d1 d1 hz1 hx1.out permR (ILN.out _ hx1.out) permR (IRN.out _ _ hx1.out permR)
              exact ⟨rfl, d1, hs1.out, permIn_trans _ _ _ a b hp1.out HF.1, HF.2⟩
        · have h5 : ¬ m < E := by omega
          have h6 : a < s := by omega
          have h9 : E < b := by omega
          have HID := Lib.hid (fun x => (by rw [show E = m by omega, rotS_idr] : d[rotS s m E x]! = d[x]!))
          have ILN := Lib.hid (fun (e : Array α) (hc : SymL (ltC cf) a mid E b s e) => (by have := hc.r1; rwa [show s = mid by omega] at this : SortedIn (ltC cf) a mid e))
          replace IR := Lib.hid (fun W e1 h hz e hz2 hc hp => IR.out W e1 h hz e hz2 hc hp h8 h9)
          have hx1 := Lib.hid (HCUT.out d (fun x => (HID.out x).symm ▸ rfl))
          have hp1 := Lib.hid (permIn_refl d a b)
          go_wp2_with (go_at_call 96; with_reducible refine (IR.out wr d he.out rfl d rfl hx1.out permR).mono ?_; rintro e' w3 ⟨rfl, d3, hs3, hp3, hso3⟩; replace hs3 := Lib.hid hs3; replace hp3 := Lib.hid hp3; replace hso3 := Lib.hid hso3)
          go_end0
          have HF := HDONE.out d d d3 rfl hx1.out permR (ILN.out _ hx1.out) hp3.out hso3.out
          exact ⟨rfl, d3, hs3.out, permIn_trans _ _ _ a b hp1.out HF.1, HF.2⟩
  · go_enter Tryz.func96, Tryz.ntmps96
    have ql : lo ≤ a ∧ a ≤ lo := by have := HLO.out; unfold symLo at this; rw [← HMID.out, if_neg hm] at this; omega
    have qh : hi ≤ m ∧ m ≤ hi := by have := HHI.out; unfold symHi at this; rw [← HMID.out, if_neg hm] at this; omega
    go_wp2_with fail
    clear hma hmb' qm
    go_loopw [20, 21] (fun u v W => ∃ (s r : Nat), u = .int .i64 s ∧ v = .int .i64 r ∧ lo ≤ s ∧ s ≤ r ∧ r ≤ hi ∧ Hid (SortW w0 B g cap 37 (encS hd) d W) ∧ Hid (lo < s → ltC cf d[mid + m - s]! d[s - 1]! = false) ∧ Hid (r < hi → ltC cf d[mid + m - r - 1]! d[r]! = true)) (fun u v _ => (intOf v - intOf u).toNat)
    case atStart => exact ⟨lo, hi, by first | rfl | exact congrArg (Value.int .i64) (by omega), by first | rfl | exact congrArg (Value.int .i64) (by omega), Nat.le_refl _, by omega, Nat.le_refl _, HS, Lib.hid (fun h => absurd h (by omega)), Lib.hid (fun h => absurd h (by omega))⟩
    case round =>
      obtain ⟨s, r, rfl, rfl, hls, hsr, hrh, he, hup, hdn⟩ := hrel
      by_cases hlt : s < r
      · obtain ⟨C, hC⟩ : ∃ C, C = (s + r) / 2 := ⟨_, rfl⟩
        obtain ⟨I, hI⟩ : ∃ I, I = mid + m - 1 - C := ⟨_, rfl⟩
        have qC : ((s : Int) + (r : Int)) / 2 = (C : Int) := by omega
        have qI : (mid : Int) + (m : Int) - 1 - (C : Int) = (I : Int) := by omega
        have wI : IntKind.i64.wrap (I : Int) = (I : Int) := by rw [IntKind.wrap_i64]; omega
        have b1 : (I : Int) < (d.size : Int) := by omega
        have b2 : (C : Int) < (d.size : Int) := by omega
        have c3 : s ≤ C := by omega
        have c4 : C < r := by omega
        have c5 : C < d.size := by omega
        have c6 : I < d.size := by omega
        have HG := Lib.hid (fun (h : cf d[I]! d[C]! < 0) => fun (_ : C < hi) => (by rw [show mid + m - C - 1 = I by omega]; exact ltC_t h : ltC cf d[mid + m - C - 1]! d[C]! = true))
        have HE := Lib.hid (fun (h : ¬ cf d[I]! d[C]! < 0) => fun (_ : lo < C + 1) => (by rw [show mid + m - (C + 1) = I by omega, Nat.add_sub_cancel]; exact ltC_f h : ltC cf d[mid + m - (C + 1)]! d[C + 1 - 1]! = false))
        have hC2 : 2 * C ≤ s + r := by omega
        clear hC hI
        have c1 := he.out.cell (show I < d.size by omega)
        have c2 := he.out.cell (show C < d.size by omega)
        have HX := Lib.hid (fun V (h : Ext wr V) => he.out.ext h)
        have HQ := Lib.hid (fun V (h : Ext wr V) => HC.out V (he.out.ext h).gr d[I]! d[C]!)
        unfold encS at c1 c2 HQ
        generalize hd d[I]! = x1 at *
        generalize hd d[C]! = x2 at *
        generalize cf d[I]! d[C]! = z at *
        have MK := Lib.hid (fun V (e : Ext wr V) => (⟨e.cell c1, e.cell c2, e⟩ : V.cell? ⟨g, I, none⟩ = some (Value.slice x1.A x1.n x1.c) ∧ V.cell? ⟨g, C, none⟩ = some (Value.slice x2.A x2.n x2.c) ∧ Ext wr V))
        by_cases hz : z < 0
        · have hg := Lib.hid (HG.out hz)
          clear HG HE
          clear c1 c2
          go_wp2_with fail
          go_region_held3 (fun V => V.cell? ⟨g, I, none⟩ = some (Value.slice x1.A x1.n x1.c) ∧ V.cell? ⟨g, C, none⟩ = some (Value.slice x2.A x2.n x2.c) ∧ Ext wr V) ((exact MK.out _ (by repeat (first | with_reducible exact Ext.refl _ | with_reducible assumption | with_reducible refine Ext.drew ?_ | with_reducible refine Ext.drewN ?_ _ | with_reducible refine Ext.alloc ?_ _)))) ((refine (HQ.out _ (by repeat (first | with_reducible exact Ext.refl _ | with_reducible assumption | with_reducible refine Ext.drew ?_ | with_reducible refine Ext.drewN ?_ _ | with_reducible refine Ext.alloc ?_ _))).mono ?_; rintro e w' ⟨rfl, hb⟩; replace hb : Ext wr w' := Ext.trans (by repeat (first | with_reducible exact Ext.refl _ | with_reducible assumption | with_reducible refine Ext.drew ?_ | with_reducible refine Ext.drewN ?_ _ | with_reducible refine Ext.alloc ?_ _)) hb))
          have hN := Lib.hid (HX.out w' hb)
          clear HX HQ MK
          go_wp2_with fail
          go_roundw
          case rel => exact ⟨s, C, rfl, rfl, hls, c3, by omega, hN, hup, hg⟩
          case measure => simp [intOf]; omega
        · have hg := Lib.hid (HE.out hz)
          have hz' : decide (z < 0) = false := decide_eq_false hz
          clear HG HE hz
          clear c1 c2
          go_wp2_with fail
          go_region_held3 (fun V => V.cell? ⟨g, I, none⟩ = some (Value.slice x1.A x1.n x1.c) ∧ V.cell? ⟨g, C, none⟩ = some (Value.slice x2.A x2.n x2.c) ∧ Ext wr V) ((exact MK.out _ (by repeat (first | with_reducible exact Ext.refl _ | with_reducible assumption | with_reducible refine Ext.drew ?_ | with_reducible refine Ext.drewN ?_ _ | with_reducible refine Ext.alloc ?_ _)))) ((refine (HQ.out _ (by repeat (first | with_reducible exact Ext.refl _ | with_reducible assumption | with_reducible refine Ext.drew ?_ | with_reducible refine Ext.drewN ?_ _ | with_reducible refine Ext.alloc ?_ _))).mono ?_; rintro e w' ⟨rfl, hb⟩; replace hb : Ext wr w' := Ext.trans (by repeat (first | with_reducible exact Ext.refl _ | with_reducible assumption | with_reducible refine Ext.drew ?_ | with_reducible refine Ext.drewN ?_ _ | with_reducible refine Ext.alloc ?_ _)) hb))
          have hN := Lib.hid (HX.out w' hb)
          clear HX HQ MK
          go_wp2_with fail
          go_roundw
          case rel => exact ⟨C + 1, r, congrArg (Value.int .i64) (by omega), rfl, by omega, by omega, hrh, hN, hg, hdn⟩
          case measure => simp [intOf]; omega
      · obtain rfl : s = r := by omega
        obtain ⟨E, hE⟩ : ∃ E, E = mid + m - s := ⟨_, rfl⟩
        have HEQ := Lib.hid hE
        have qE : (mid : Int) + (m : Int) - (s : Int) = (E : Int) := by omega
        have e1 : E + s ≤ mid + m := by omega
        have e2 : mid + m ≤ E + s := by omega
        have HCUT := Lib.hid (fun (e : Array α) (hx : ∀ x, e[x]! = d[rotS s m E x]!) => sym_cutL (lt := ltC cf) HW.out (Nat.lt_of_succ_lt h0) (Nat.lt_of_succ_lt h2) H1.out H2.out HMID.out hE (HLO.out ▸ hls) (HHI.out ▸ hrh) (by rw [← HLO.out]; exact hup.out) (by rw [← HHI.out]; exact hdn.out) hx)
        have IL := Lib.hid (fun (W : World) (e : Array α) (h : SortW w0 B g cap 37 (encS hd) e W) (hz : e.size = d.size) (hc : SymL (ltC cf) a mid E b s e) => fun (h1 : a < s) (h2 : s < mid) => IH.out a s mid e W (by omega) h hz h1 h2 (by omega) hc.r1 hc.r2)
        have IR := Lib.hid (fun (W : World) (e' : Array α) (h : SortW w0 B g cap 37 (encS hd) e' W) (hz' : e'.size = d.size) (e : Array α) (_ : e.size = d.size) (hc : SymL (ltC cf) a mid E b s e) (hp : PermIn a mid e e') => fun (h1 : mid < E) (h2 : E < b) => IH.out mid E b e' W (by omega) h hz' h1 h2 hb (srt_kept hc.r3 hp (.inr (Nat.le_refl _))) (srt_kept hc.r4 hp (.inr (by omega))))
        have HDONE := Lib.hid (fun (e e1 e2 : Array α) (hz : e.size = d.size) (hc : SymL (ltC cf) a mid E b s e) (hp1 : PermIn a mid e e1) (hs1 : SortedIn (ltC cf) a mid e1) (hp2 : PermIn mid b e1 e2) (hs2 : SortedIn (ltC cf) mid b e2) => sym_doneL (by omega) (by omega) (by omega) hc hp1 hs1 hp2 hs2)
        clear hE hup hdn
        by_cases h4 : s < m
        · have h5 : m < E := by omega
          have h7 : s < mid := by omega
          have h8 : mid < E := by omega
          have HR := Lib.hid (sw_rotate w0 B g cap hd d s m E (.func (.func f) #[] cb) wr he.out h4 h5 (by omega) hsz)
          have HPM := Lib.hid (fun (e : Array α) (hp : PermIn s E d e) => permIn_mono _ _ _ _ a b (by omega) (by omega) hb hp)
          by_cases h6 : a < s
          · replace IL := Lib.hid (fun W e h hz hc => IL.out W e h hz hc h6 h7)
            by_cases h9 : E < b
            · replace IR := Lib.hid (fun W e1 h hz e hz2 hc hp => IR.out W e1 h hz e hz2 hc hp h8 h9)
              go_wp2_with (first | (go_at_call 110; with_reducible refine (HR.out).mono ?_; rintro e' w1 ⟨rfl, d1, hs1, hz1, hx1, hp1⟩; replace hs1 := Lib.hid hs1; replace hx1 := Lib.hid (HCUT.out d1 hx1); replace hp1 := Lib.hid (HPM.out d1 hp1)) | (go_at_call 96; with_reducible refine (IL.out w1 d1 hs1.out hz1 hx1.out).mono ?_; rintro e' w2 ⟨rfl, d2, hs2, hp2, hso2⟩; have hz2 := perm_size hp2 hz1; replace hs2 := Lib.hid hs2; replace hp2 := Lib.hid hp2; replace hso2 := Lib.hid hso2) | (go_at_call 96; with_reducible refine (IR.out w2 d2 hs2.out hz2 d1 hz1 hx1.out hp2.out).mono ?_; rintro e' w3 ⟨rfl, d3, hs3, hp3, hso3⟩; replace hs3 := Lib.hid hs3; replace hp3 := Lib.hid hp3; replace hso3 := Lib.hid hso3))
              go_end0
              have HF := HDONE.out d1 d2 d3 hz1 hx1.out hp2.out hso2.out hp3.out hso3.out
              exact ⟨rfl, d3, hs3.out, permIn_trans _ _ _ a b hp1.out HF.1, HF.2⟩
            · have IRN := Lib.hid (fun (e e1 : Array α) (hc : SymL (ltC cf) a mid E b s e) (hp : PermIn a mid e e1) => (by have := srt_kept hc.r3 hp (.inr (Nat.le_refl _)); rwa [show E = b by omega] at this : SortedIn (ltC cf) mid b e1))
              go_wp2_with (first | (go_at_call 110; with_reducible refine (HR.out).mono ?_; rintro e' w1 ⟨rfl, d1, hs1, hz1, hx1, hp1⟩; replace hs1 := Lib.hid hs1; replace hx1 := Lib.hid (HCUT.out d1 hx1); replace hp1 := Lib.hid (HPM.out d1 hp1)) | (go_at_call 96; with_reducible refine (IL.out w1 d1 hs1.out hz1 hx1.out).mono ?_; rintro e' w2 ⟨rfl, d2, hs2, hp2, hso2⟩; have hz2 := perm_size hp2 hz1; replace hs2 := Lib.hid hs2; replace hp2 := Lib.hid hp2; replace hso2 := Lib.hid hso2))
              go_end0
              have HF := HDONE.out d1 d2 d2 hz1 hx1.out hp2.out hso2.out permR (IRN.out _ _ hx1.out hp2.out)
              exact ⟨rfl, d2, hs2.out, permIn_trans _ _ _ a b hp1.out HF.1, HF.2⟩
          · have ILN := Lib.hid (fun (e : Array α) (hc : SymL (ltC cf) a mid E b s e) => (by have := hc.r2; rwa [show s = a by omega] at this : SortedIn (ltC cf) a mid e))
            by_cases h9 : E < b
            · replace IR := Lib.hid (fun W e1 h hz e hz2 hc hp => IR.out W e1 h hz e hz2 hc hp h8 h9)
              go_wp2_with (first | (go_at_call 110; with_reducible refine (HR.out).mono ?_; rintro e' w1 ⟨rfl, d1, hs1, hz1, hx1, hp1⟩; replace hs1 := Lib.hid hs1; replace hx1 := Lib.hid (HCUT.out d1 hx1); replace hp1 := Lib.hid (HPM.out d1 hp1)) | (go_at_call 96; with_reducible refine (IR.out w1 d1 hs1.out hz1 d1 hz1 hx1.out permR).mono ?_; rintro e' w3 ⟨rfl, d3, hs3, hp3, hso3⟩; replace hs3 := Lib.hid hs3; replace hp3 := Lib.hid hp3; replace hso3 := Lib.hid hso3))
              go_end0
              have HF := HDONE.out d1 d1 d3 hz1 hx1.out permR (ILN.out _ hx1.out) hp3.out hso3.out
              exact ⟨rfl, d3, hs3.out, permIn_trans _ _ _ a b hp1.out HF.1, HF.2⟩
            · have IRN := Lib.hid (fun (e e1 : Array α) (hc : SymL (ltC cf) a mid E b s e) (hp : PermIn a mid e e1) => (by have := srt_kept hc.r3 hp (.inr (Nat.le_refl _)); rwa [show E = b by omega] at this : SortedIn (ltC cf) mid b e1))
              go_wp2_with (go_at_call 110; with_reducible refine (HR.out).mono ?_; rintro e' w1 ⟨rfl, d1, hs1, hz1, hx1, hp1⟩; replace hs1 := Lib.hid hs1; replace hx1 := Lib.hid (HCUT.out d1 hx1); replace hp1 := Lib.hid (HPM.out d1 hp1))
              go_end0
              have HF := HDONE.out d1 d1 d1 hz1 hx1.out permR (ILN.out _ hx1.out) permR (IRN.out _ _ hx1.out permR)
              exact ⟨rfl, d1, hs1.out, permIn_trans _ _ _ a b hp1.out HF.1, HF.2⟩
        · have h6 : a < s := by omega
          have h8 : ¬ mid < E := by omega
          have HID := Lib.hid (fun x => (by rw [show s = m by omega, rotS_idl] : d[rotS s m E x]! = d[x]!))
          have IRN := Lib.hid (fun (e e1 : Array α) (hc : SymL (ltC cf) a mid E b s e) (hp : PermIn a mid e e1) => (by have := srt_kept hc.r4 hp (.inr (by omega)); rwa [show E = mid by omega] at this : SortedIn (ltC cf) mid b e1))
          by_cases h7 : s < mid
          · replace IL := Lib.hid (fun W e h hz hc => IL.out W e h hz hc h6 h7)
            have hx1 := Lib.hid (HCUT.out d (fun x => (HID.out x).symm ▸ rfl))
            have hp1 := Lib.hid (permIn_refl d a b)
            go_wp2_with (go_at_call 96; with_reducible refine (IL.out wr d he.out rfl hx1.out).mono ?_; rintro e' w2 ⟨rfl, d2, hs2, hp2, hso2⟩; have hz2 := perm_size hp2 rfl; replace hs2 := Lib.hid hs2; replace hp2 := Lib.hid hp2; replace hso2 := Lib.hid hso2)
            go_end0
            have HF := HDONE.out d d2 d2 rfl hx1.out hp2.out hso2.out permR (IRN.out _ _ hx1.out hp2.out)
            exact ⟨rfl, d2, hs2.out, permIn_trans _ _ _ a b hp1.out HF.1, HF.2⟩
          · have ILN := Lib.hid (fun (e : Array α) (hc : SymL (ltC cf) a mid E b s e) => (by have := hc.r1; rwa [show s = mid by omega] at this : SortedIn (ltC cf) a mid e))
            have hx1 := Lib.hid (HCUT.out d (fun x => (HID.out x).symm ▸ rfl))
            have hp1 := Lib.hid (permIn_refl d a b)
            go_wp2_with fail
            go_end0
            have HF := HDONE.out d d d rfl hx1.out permR (ILN.out _ hx1.out) permR (IRN.out _ _ hx1.out permR)
            exact ⟨rfl, d, he.out, permIn_trans _ _ _ a b hp1.out HF.1, HF.2⟩
set_option maxRecDepth 100000 in
theorem sw_symN : ∀ (N : Nat) (w0 : World) (B g cap : Nat) (hd : α → HeadS) (cf : α → α → Int) (f : Nat) (cb : Array Value) (d : Array α) (a m b : Nat) (w : World)
    (_ : ∀ args w, (callFunc f args).run Tryz.prog w = .ok (.enter f args) w) (_ : CmpOk Tryz.prog f cb (encS hd) cf w0 g) (_ : SWO (ltC cf)) (_ : SortW w0 B g cap 37 (encS hd) d w) (_ : b - a ≤ N) (_ : a < m) (_ : m < b) (_ : b ≤ d.size) (_ : d.size ≤ 8000000) (_ : SortedIn (ltC cf) a m d) (_ : SortedIn (ltC cf) m b d),
    Calls Tryz.prog 96 #[.slice (some ⟨g, 0, none⟩) d.size cap, .int .i64 a, .int .i64 m, .int .i64 b, .func (.func f) #[] cb] w fun e w' => e = .returned (.tuple #[]) ∧ ∃ d', SortW w0 B g cap 37 (encS hd) d' w' ∧ PermIn a b d d' ∧ SortedIn (ltC cf) a b d'
  | 0, w0, B, g, cap, hd, cf, f, cb, d, a, m, b, w, eg, hcmp, hS, hs, hN, h1, h2, hb, hsz, hl, hr => by omega
  | N + 1, w0, B, g, cap, hd, cf, f, cb, d, a, m, b, w, eg, hcmp, hS, hs, hN, h1, h2, hb, hsz, hl, hr => by
    by_cases e1 : m = a + 1
    · exact sw_symA w0 B g cap hd cf f cb d a m b w eg hcmp hS hs e1 h2 hb hsz hr
    · by_cases e2 : b = m + 1
      · exact sw_symB w0 B g cap hd cf f cb d a m b w eg hcmp hS hs e1 h1 e2 hb hsz hl
      · refine sw_symC w0 B g cap hd cf f cb d a m b w eg hcmp hS hs (by omega) (by omega) hb hsz hl hr (fun a' m' b' e W hlt hs' hz g1 g2 g3 g4 g5 => ?_)
        rw [← hz]
        exact sw_symN N w0 B g cap hd cf f cb e a' m' b' W eg hcmp hS hs' (by omega) g1 g2 (by omega) (by omega) g4 g5
theorem sw_sym (w0 : World) (B g cap : Nat) (hd : α → HeadS) (cf : α → α → Int) (f : Nat) (cb : Array Value) (d : Array α) (a m b : Nat) (w : World)
    (eg : ∀ args w, (callFunc f args).run Tryz.prog w = .ok (.enter f args) w) (hcmp : CmpOk Tryz.prog f cb (encS hd) cf w0 g) (hS : SWO (ltC cf)) (hs : SortW w0 B g cap 37 (encS hd) d w) (h1 : a < m) (h2 : m < b) (hb : b ≤ d.size) (hsz : d.size ≤ 8000000) (hl : SortedIn (ltC cf) a m d) (hr : SortedIn (ltC cf) m b d) :
    Calls Tryz.prog 96 #[.slice (some ⟨g, 0, none⟩) d.size cap, .int .i64 a, .int .i64 m, .int .i64 b, .func (.func f) #[] cb] w fun e w' => e = .returned (.tuple #[]) ∧ ∃ d', SortW w0 B g cap 37 (encS hd) d' w' ∧ PermIn a b d d' ∧ SortedIn (ltC cf) a b d' :=
  sw_symN (b - a) w0 B g cap hd cf f cb d a m b w eg hcmp hS hs (Nat.le_refl _) h1 h2 hb hsz hl hr
end Go.Proofs.YtbjddimafilflaaGreatDoor
