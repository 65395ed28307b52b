/- PARTS OF THE WALKS, joined: SortW, SortA, SortB, SortC. -/
import Derived.Test.YtbjddimafilflaaGreatDoorV00
import Derived.BigRegion
import Derived.WalkKit
import Derived.Deep.RegionHeld3
import Derived.WalkSpells
import Derived.Deep.Cut
import Derived.Laws.BitsAllLaws
/- A ROW OF ONE-CELL ELEMENTS THAT IS SORTED IN PLACE: the worlds that such a sort passes through. -/
namespace Go.Proofs.YtbjddimafilflaaGreatDoor
open Go.RowKit Go.Sort
theorem arr_get {α : Type} [Inhabited α] {d : Array α} {j : Nat} (h : j < d.size) : d.toList[j]? = some d[j]! := by
  rw [Array.getElem?_toList, getElem!_pos d j h, Array.getElem?_eq_getElem h]
/-- block g holds the elements of d (and spare cells behind them); all other blocks of w0 are as they were -/
structure SortW {α : Type} (w0 : World) (B g cap : Nat) (t : TypeId) (enc : α → Value) (d : Array α) (W : World) : Prop where
  gr : w0.grownBy W (some g)
  own : W.ownsRow B t 1 (.slice (some ⟨g, 0, none⟩) d.size cap) d.size (d.toList.map enc)
section
variable {α : Type} {w0 : World} {B g cap : Nat} {t : TypeId} {enc : α → Value} {d : Array α} {W : World}
theorem grown_trans {a b c : World} {row : Option Nat} (h : a.grownBy b row) (k : b.grownBy c row) : a.grownBy c row :=
  ⟨k.os.trans h.os, k.tape.trans h.tape, k.output.trans h.output, Nat.le_trans h.size k.size, fun i hi hne => (k.block i (Nat.lt_of_lt_of_le hi h.size) hne).trans (h.block i hi hne)⟩
theorem Ext.grownBy {a b : World} (h : Ext a b) (row : Option Nat) : a.grownBy b row := ⟨h.os, h.tape, h.output, h.size, fun k hk _ => h.block k hk⟩
theorem SortW.start (h : w0.ownsRow B t 1 (.slice (some ⟨g, 0, none⟩) d.size cap) d.size (d.toList.map enc)) : SortW w0 B g cap t enc d w0 := ⟨World.grownBy.refl _ _, h⟩
theorem SortW.ext {W' : World} (h : SortW w0 B g cap t enc d W) (e : Ext W W') : SortW w0 B g cap t enc d W' := ⟨grown_trans h.gr (e.grownBy _), own_ext h.own e⟩
theorem SortW.drew (h : SortW w0 B g cap t enc d W) : SortW w0 B g cap t enc d W.drew := h.ext ((Ext.refl _).drew)
theorem SortW.cell [Inhabited α] (h : SortW w0 B g cap t enc d W) {j : Nat} (hj : j < d.size) : W.cell? ⟨g, j, none⟩ = some (enc d[j]!) := by
  rw [h.own.cellAt j (by omega), List.getElem?_map, arr_get hj]; rfl
theorem SortW.frozen (h : SortW w0 B g cap t enc d W) (j : Nat) : W.frozen? ⟨g, j, none⟩ = false := h.own.frozenAt j
theorem map_set (d : Array α) (j : Nat) (x : α) : (d.toList.map enc).set j (enc x) = ((d.setIfInBounds j x).toList.map enc) := by
  rw [Array.toList_setIfInBounds, List.map_set]
theorem SortW.set (h : SortW w0 B g cap t enc d W) (j : Nat) (x : α) : SortW w0 B g cap t enc (d.setIfInBounds j x) (W.setCell ⟨g, j, none⟩ (enc x)) := by
  obtain ⟨h1, h2⟩ := h.own.stored j (enc x)
  refine ⟨grown_trans h.gr h2, ?_⟩
  rw [map_set] at h1
  rw [Array.size_setIfInBounds]; exact h1
theorem SortW.swap [Inhabited α] (h : SortW w0 B g cap t enc d W) (i j : Nat) : SortW w0 B g cap t enc (swp d i j) ((W.setCell ⟨g, i, none⟩ (enc d[j]!)).setCell ⟨g, j, none⟩ (enc d[i]!)) := (h.set i d[j]!).set j d[i]!
/-- a slice's head -/
structure HeadS where
  A : Option Addr
  n : Nat
  c : Nat
instance : Inhabited HeadS := ⟨⟨none, 0, 0⟩⟩
/-- elements that are slices -/
def encS (h : α → HeadS) (x : α) : Value := .slice (h x).A (h x).n (h x).c
/-- what is asked of the order: called with two elements it tells a number; it leaves all that lies as it lies -/
def CmpOk (P : Program) (f : Nat) (cb : Array Value) (enc : α → Value) (cf : α → α → Int) (w0 : World) (g : Nat) : Prop :=
  ∀ W, w0.grownBy W (some g) → ∀ x y : α, Calls P f (#[enc x, enc y] ++ cb) W fun e W' => e = .returned (.int .i64 (cf x y)) ∧ Ext W W'
def ltC (cf : α → α → Int) (x y : α) : Bool := decide (cf x y < 0)
theorem ltC_t {cf : α → α → Int} {x y : α} (h : cf x y < 0) : ltC cf x y = true := decide_eq_true h
theorem ltC_f {cf : α → α → Int} {x y : α} (h : ¬ cf x y < 0) : ltC cf x y = false := decide_eq_false h
end
end Go.Proofs.YtbjddimafilflaaGreatDoor

/- THE WALKS over slices.swapRangeCmpFunc, rotateCmpFunc, at rows of values. -/
namespace Go.Proofs.YtbjddimafilflaaGreatDoor
open Go.RowKit Go.Sort
variable {α : Type} [Inhabited α]
set_option maxRecDepth 100000 in
set_option maxHeartbeats 1600000 in
theorem sw_range (w0 : World) (B g cap : Nat) (hd : α → HeadS) (d : Array α) (a b n : Nat) (fv : Value) (w : World) (hs : SortW w0 B g cap 37 (encS hd) d w) (hab : a + n ≤ b) (hb : b + n ≤ d.size) (hsz : d.size ≤ 8000000) (lo hi : Nat) (hlo : lo ≤ a) (hhi : b + n ≤ hi) (hhs : hi ≤ d.size) :
    Calls Tryz.prog 128 #[.slice (some ⟨g, 0, none⟩) d.size cap, .int .i64 a, .int .i64 b, .int .i64 n, fv] w fun e w' => e = .returned (.tuple #[]) ∧ ∃ d', SortW w0 B g cap 37 (encS hd) d' w' ∧ d'.size = d.size ∧ (∀ x, d'[x]! = d[swS a b n x]!) ∧ PermIn lo hi d d' := by
  have HS := Lib.hid hs
  clear hs
  go_enter Tryz.func128, Tryz.ntmps128
  go_wp2
  go_loopw [10] (fun u W => ∃ (i : Nat) (e : Array α), u = .int .i64 i ∧ i ≤ n ∧ Hid (SortW w0 B g cap 37 (encS hd) e W) ∧ e.size = d.size ∧ Hid (∀ x, e[x]! = d[swS a b i x]!) ∧ Hid (PermIn lo hi d e)) (fun u _ => n - (intOf u).toNat)
  case atStart => exact ⟨0, d, rfl, Nat.zero_le _, HS, rfl, Lib.hid (fun x => by rw [swS_zero]), Lib.hid (permIn_refl _ _ _)⟩
  case round =>
    obtain ⟨i, e, rfl, hi', he, hes, hx, hp⟩ := hrel
    by_cases hlt : i < n
    · have c1 := he.out.cell (show a + i < e.size by omega)
      have c2 := he.out.cell (show b + i < e.size by omega)
      have f1 := he.out.frozen (a + i)
      have f2 := he.out.frozen (b + i)
      have HN := Lib.hid (he.out.drew.swap (a + i) (b + i))
      have HX := Lib.hid (swS_step d e hes hab hlt (by omega) hx.out)
      have HP := Lib.hid (permIn_trans _ _ _ lo hi hp.out (swp_permIn e lo hi (a + i) (b + i) (by omega) (by omega) (by omega) (by omega) (by omega)))
      have HZ := Lib.hid (size_swp e (a + i) (b + i))
      unfold encS at c1 c2 HN
      generalize hd e[a + i]! = x1 at *
      generalize hd e[b + i]! = x2 at *
      go_wp2_with fail
      go_big_region
      all_goals go_wp2
      all_goals go_roundw
      case rel => exact ⟨i + 1, swp e (a + i) (b + i), by go_num, by omega, (by unfold encS; exact HN), by rw [HZ.out]; exact hes, HX, HP⟩
      case measure => simp [intOf]; omega
    · have hk : i = n := by omega
      subst hk
      go_wp2
      go_end0
      exact ⟨rfl, e, he.out, hes, hx.out, hp.out⟩
set_option maxRecDepth 100000 in
set_option maxHeartbeats 1600000 in
theorem sw_rotate (w0 : World) (B g cap : Nat) (hd : α → HeadS) (d : Array α) (a m b : Nat) (fv : Value) (w : World) (hs : SortW w0 B g cap 37 (encS hd) d w) (ham : a < m) (hmb : m < b) (hb : b ≤ d.size) (hsz : d.size ≤ 8000000) :
    Calls Tryz.prog 110 #[.slice (some ⟨g, 0, none⟩) d.size cap, .int .i64 a, .int .i64 m, .int .i64 b, fv] w fun e w' => e = .returned (.tuple #[]) ∧ ∃ d', SortW w0 B g cap 37 (encS hd) d' w' ∧ d'.size = d.size ∧ (∀ x, d'[x]! = d[rotS a m b x]!) ∧ PermIn a b d d' := by
  have HS := Lib.hid hs
  clear hs
  go_enter Tryz.func110, Tryz.ntmps110
  go_wp2
  go_loopw [10, 11] (fun u v W => ∃ (i j : Nat) (e : Array α), u = .int .i64 i ∧ v = .int .i64 j ∧ 0 < i ∧ 0 < j ∧ a + i ≤ m ∧ m + j ≤ b ∧ Hid (SortW w0 B g cap 37 (encS hd) e W) ∧ e.size = d.size ∧ Hid (∀ x, e[rotS (m - i) m (m + j) x]! = d[rotS a m b x]!) ∧ Hid (PermIn a b d e)) (fun u v _ => (intOf u + intOf v).toNat)
  case atStart => exact ⟨m - a, b - m, d, by go_num, by go_num, by omega, by omega, by omega, by omega, HS, rfl, Lib.hid (fun x => by rw [show m - (m - a) = a by omega, show m + (b - m) = b by omega]), Lib.hid (permIn_refl _ _ _)⟩
  case round =>
    obtain ⟨i, j, e, rfl, rfl, hi0, hj0, hia, hjb, he, hes, hx, hp⟩ := hrel
    rcases Nat.lt_trichotomy j i with hij | hij | hij
    · have HC := Lib.hid (sw_range w0 B g cap hd e (m - i) m j fv wr he.out (by omega) (by omega) (by omega) a b (by omega) (by omega) (by omega))
      rw [hes] at HC
      have HX := Lib.hid hx.out
      have im : i ≤ m := by omega
      have hmi : ((m - i : Nat) : Int) = (m : Int) - (i : Int) := by omega
      rw [hmi] at HC
      have hji : ((i - j : Nat) : Int) = (i : Int) - (j : Int) := by omega
      clear hx hmi
      go_wp2_with (go_at_call 128; refine (HC.out).mono ?_; rintro e' w' ⟨rfl, d', hs', hz', hx', hp'⟩; replace hs' := Lib.hid hs'; replace hx' := Lib.hid hx'; replace hp' := Lib.hid hp')
      go_roundw
      case rel => exact ⟨i - j, j, d', by rw [hji], rfl, by omega, hj0, by omega, hjb, hs', hz', Lib.hid (fun x => by rw [hx'.out, rotS_left im hij, HX.out]), Lib.hid (permIn_trans _ _ _ a b hp.out hp'.out)⟩
      case measure => simp [intOf]; omega
    · subst hij
      have HC := Lib.hid (sw_range w0 B g cap hd e (m - j) m j fv wr he.out (by omega) (by omega) (by omega) a b (by omega) (by omega) (by omega))
      rw [hes] at HC
      have im : j ≤ m := by omega
      have hmi : ((m - j : Nat) : Int) = (m : Int) - (j : Int) := by omega
      rw [hmi] at HC
      clear hmi
      go_wp2_with (go_at_call 128; refine (HC.out).mono ?_; rintro e' w' ⟨rfl, d', hs', hz', hx', hp'⟩; replace hs' := Lib.hid hs'; replace hx' := Lib.hid hx'; replace hp' := Lib.hid hp')
      go_end0
      exact ⟨rfl, d', hs'.out, hz', fun x => by rw [hx'.out, rotS_end im, hx.out], permIn_trans _ _ _ a b hp.out hp'.out⟩
    · have HC := Lib.hid (sw_range w0 B g cap hd e (m - i) (m + j - i) i fv wr he.out (by omega) (by omega) (by omega) a b (by omega) (by omega) (by omega))
      rw [hes] at HC
      have HX := Lib.hid hx.out
      have im : i ≤ m := by omega
      have hmi : ((m - i : Nat) : Int) = (m : Int) - (i : Int) := by omega
      have hmj : ((m + j - i : Nat) : Int) = (m : Int) + (j : Int) - (i : Int) := by omega
      rw [hmi, hmj] at HC
      have hji : ((j - i : Nat) : Int) = (j : Int) - (i : Int) := by omega
      clear hx hmi hmj
      go_wp2_with (go_at_call 128; refine (HC.out).mono ?_; rintro e' w' ⟨rfl, d', hs', hz', hx', hp'⟩; replace hs' := Lib.hid hs'; replace hx' := Lib.hid hx'; replace hp' := Lib.hid hp')
      go_roundw
      case rel => exact ⟨i, j - i, d', rfl, by rw [hji], hi0, by omega, hia, by omega, hs', hz', Lib.hid (fun x => by rw [hx'.out, rotS_right im hij, HX.out]), Lib.hid (permIn_trans _ _ _ a b hp.out hp'.out)⟩
      case measure => simp [intOf]; omega
end Go.Proofs.YtbjddimafilflaaGreatDoor

/- THE WALK over slices.insertionSortCmpFunc, at rows of values. -/
namespace Go.Proofs.YtbjddimafilflaaGreatDoor
open Go.RowKit Go.Sort
variable {α : Type} [Inhabited α]
set_option maxRecDepth 100000 in
set_option maxHeartbeats 1600000 in
theorem sw_insert (w0 : World) (B g cap : Nat) (hd : α → HeadS) (cf : α → α → Int) (f : Nat) (cb : Array Value) (d : Array α) (a b : Nat) (w : World)
    (eg : ∀ args w, (callFunc f args).run Tryz.prog w = .ok (.enter f args) w) (hcmp : CmpOk Tryz.prog f cb (encS hd) cf w0 g) (hS : SWO (ltC cf)) (hs : SortW w0 B g cap 37 (encS hd) d w) (hab : a ≤ b) (hb : b ≤ d.size) (hsz : d.size ≤ 8000000) :
    Calls Tryz.prog 95 #[.slice (some ⟨g, 0, none⟩) d.size cap, .int .i64 a, .int .i64 b, .func (.func f) #[] cb] w fun e w' => e = .returned (.tuple #[]) ∧ ∃ d', SortW w0 B g cap 37 (encS hd) d' w' ∧ PermIn a b d d' ∧ SortedIn (ltC cf) a b d' := by
  have HS := Lib.hid hs
  have HC := Lib.hid hcmp
  have HW := Lib.hid hS
  clear hs hcmp hS
  go_enter Tryz.func95, Tryz.ntmps95
  go_wp2
  go_loopw [8] (fun u W => ∃ (i : Nat) (e : Array α), u = .int .i64 i ∧ a < i ∧ Hid (i ≤ b ∨ i = a + 1) ∧ Hid (SortW w0 B g cap 37 (encS hd) e W) ∧ Hid (SortedIn (ltC cf) a i e) ∧ Hid (PermIn a b d e)) (fun u _ => b + 1 - (intOf u).toNat)
  case atStart => exact ⟨a + 1, d, by go_num, by omega, Lib.hid (.inr rfl), HS, Lib.hid (fun p q h1 h2 h3 => by omega), Lib.hid (permIn_refl _ _ _)⟩
  case round =>
    obtain ⟨i, e, rfl, hai, hib, he, hso, hp⟩ := hrel
    by_cases hlt : i < b
    · go_wp2_with fail
      go_loopw [9] (fun u W => ∃ (j : Nat) (e : Array α), u = .int .i64 j ∧ a ≤ j ∧ j ≤ i ∧ Hid (SortW w0 B g cap 37 (encS hd) e W) ∧ Hid (Ins (ltC cf) a j i e) ∧ Hid (PermIn a b d e)) (fun u _ => (intOf u).toNat)
      case atStart => exact ⟨i, e, rfl, by omega, Nat.le_refl _, he, Lib.hid ⟨fun p q hap hpq hqi _ hq => hso.out p q hap hpq (by omega), fun q h1 h2 => by omega⟩, hp⟩
      case round =>
        clear he hso hp hib
        obtain ⟨j, e, rfl, haj, hji, he, hin, hp⟩ := hrel
        have hes := hp.out.1
        by_cases hja : a < j
        · obtain ⟨jp, rfl⟩ : ∃ jp, j = jp + 1 := ⟨j - 1, by omega⟩
          have c1 := he.out.cell (show jp + 1 < e.size by omega)
          have c2 := he.out.cell (show jp < e.size by omega)
          have f1 := he.out.frozen (jp + 1)
          have f2 := he.out.frozen jp
          have HN := Lib.hid (fun V (h : Ext wr V) => ((he.out.ext h).drew.swap (jp + 1) jp))
          have HX := Lib.hid (fun V (h : Ext wr V) => he.out.ext h)
          have HQ := Lib.hid (fun V (h : Ext wr V) => HC.out V (he.out.ext h).gr e[jp + 1]! e[jp]!)
          have HG := Lib.hid (fun (h : cf e[jp + 1]! e[jp]! < 0) => hin.out.step (ltC_t h) (by omega) (by omega))
          have HE := Lib.hid (fun (h : ¬ cf e[jp + 1]! e[jp]! < 0) => hin.out.stop HW.out (.inr (ltC_f h)))
          have HP := Lib.hid (permIn_trans _ _ _ a b hp.out (swp_permIn e a b (jp + 1) jp (by omega) (by omega) (by omega) (by omega) (by omega)))
          unfold encS at c1 c2 HN HQ
          generalize hd e[jp + 1]! = x1 at *
          generalize hd e[jp]! = x2 at *
          generalize cf e[jp + 1]! e[jp]! = z at *
          have MK := Lib.hid (fun V (e : Ext wr V) => (⟨e.cell c1, e.cell c2, e⟩ : V.cell? ⟨g, jp + 1, none⟩ = some (Value.slice x1.A x1.n x1.c) ∧ V.cell? ⟨g, jp, none⟩ = some (Value.slice x2.A x2.n x2.c) ∧ Ext wr V))
          have hwp : IntKind.i64.wrap (jp : Int) = (jp : Int) := by rw [IntKind.wrap_i64]; omega
          have b1 : (jp : Int) + 1 < (d.size : Int) := by omega
          have b2 : (jp : Int) < (d.size : Int) := by omega
          have b3 : (0 : Int) ≤ (jp : Int) + 1 := by omega
          have b4 : ((jp : Int) + 1).toNat = jp + 1 := by omega
          have hjaz' : (a : Int) < (jp : Int) + 1 := by omega
          by_cases hz : z < 0
          · have hg := Lib.hid (HG.out hz)
            clear HG HE c1 c2 f1 f2
            go_wp2_with fail
            go_region_held3 (fun V => V.cell? ⟨g, jp + 1, none⟩ = some (Value.slice x1.A x1.n x1.c) ∧ V.cell? ⟨g, jp, none⟩ = some (Value.slice x2.A x2.n x2.c) ∧ Ext wr V) ((exact MK.out _ (by repeat (first | with_reducible exact Ext.refl _ | with_reducible assumption | with_reducible refine Ext.drew ?_ | with_reducible refine Ext.drewN ?_ _ | with_reducible refine Ext.alloc ?_ _)))) ((refine (HQ.out _ (by repeat (first | with_reducible exact Ext.refl _ | with_reducible assumption | with_reducible refine Ext.drew ?_ | with_reducible refine Ext.drewN ?_ _ | with_reducible refine Ext.alloc ?_ _))).mono ?_; rintro e w' ⟨rfl, hb⟩; replace hb : Ext wr w' := Ext.trans (by repeat (first | with_reducible exact Ext.refl _ | with_reducible assumption | with_reducible refine Ext.drew ?_ | with_reducible refine Ext.drewN ?_ _ | with_reducible refine Ext.alloc ?_ _)) hb))
            rename_i hHeld
            have hN := Lib.hid (HN.out w' hb)
            have g1 := hHeld.1
            have g2 := hHeld.2.1
            have f1 := (HX.out w' hb).frozen (jp + 1)
            have f2 := (HX.out w' hb).frozen jp
            clear hHeld HN HX HQ MK
            go_wp2_with fail
            go_big_region
            all_goals go_wp2
            all_goals go_roundw
            case rel => exact ⟨jp, swp e (jp + 1) jp, by first | rfl | go_num, by omega, by omega, (by unfold encS; exact hN), hg, HP⟩
            case measure => simp [intOf]
          · have he := Lib.hid (HE.out hz)
            clear HG HE HN c1 c2 f1 f2
            go_wp2_with fail
            go_region_held3 (fun V => V.cell? ⟨g, jp + 1, none⟩ = some (Value.slice x1.A x1.n x1.c) ∧ V.cell? ⟨g, jp, none⟩ = some (Value.slice x2.A x2.n x2.c) ∧ Ext wr V) ((exact MK.out _ (by repeat (first | with_reducible exact Ext.refl _ | with_reducible assumption | with_reducible refine Ext.drew ?_ | with_reducible refine Ext.drewN ?_ _ | with_reducible refine Ext.alloc ?_ _)))) ((refine (HQ.out _ (by repeat (first | with_reducible exact Ext.refl _ | with_reducible assumption | with_reducible refine Ext.drew ?_ | with_reducible refine Ext.drewN ?_ _ | with_reducible refine Ext.alloc ?_ _))).mono ?_; rintro e w' ⟨rfl, hb⟩; replace hb : Ext wr w' := Ext.trans (by repeat (first | with_reducible exact Ext.refl _ | with_reducible assumption | with_reducible refine Ext.drew ?_ | with_reducible refine Ext.drewN ?_ _ | with_reducible refine Ext.alloc ?_ _)) hb))
            have hN := Lib.hid (HX.out w' hb)
            clear HX HQ MK
            go_wp2
            go_roundw
            case rel => exact ⟨i + 1, e, by go_num, by omega, Lib.hid (.inl (by omega)), hN, he, hp⟩
            case measure => simp [intOf]; omega
        · have hja2 : j = a := by omega
          subst hja2
          have HE := Lib.hid (hin.out.stop HW.out (.inl (Nat.le_refl _)))
          have hjaz : decide ((j : Int) > (j : Int)) = false := decide_eq_false (by omega)
          go_wp2_with fail
          go_big_region
          all_goals go_wp2
          all_goals go_roundw
          case rel => exact ⟨i + 1, e, by go_num, by omega, Lib.hid (.inl (by omega)), Lib.hid he.out.drew, HE, hp⟩
          case measure => simp [intOf]; omega
    · have HE := Lib.hid (show SortedIn (ltC cf) a b e from by
        rcases hib.out with h | h
        · have : i = b := by omega
          subst this; exact hso.out
        · intro p q h1 h2 h3; omega)
      go_wp2
      go_end0
      exact ⟨rfl, e, he.out, hp.out, HE.out⟩
end Go.Proofs.YtbjddimafilflaaGreatDoor

/- THE WALK over slices.symMergeCmpFunc, at rows of values. -/
namespace Go.Proofs.YtbjddimafilflaaGreatDoor
open Go.RowKit Go.Sort
variable {α : Type} [Inhabited α]
set_option maxRecDepth 100000 in
set_option maxHeartbeats 6400000 in
theorem sw_symA (w0 : World) (B g cap : Nat) (hd : α → HeadS) (cf : α → α → Int) (f : Nat) (cb : Array Value) (d : Array α) (a m b : Nat) (w : World)
    (eg : ∀ args w, (callFunc f args).run Tryz.prog w = .ok (.enter f args) w) (hcmp : CmpOk Tryz.prog f cb (encS hd) cf w0 g) (hS : SWO (ltC cf)) (hs : SortW w0 B g cap 37 (encS hd) d w) (h1 : m = a + 1) (h2 : m < b) (hb : b ≤ d.size) (hsz : d.size ≤ 8000000) (hr : SortedIn (ltC cf) m b d) :
    Calls Tryz.prog 96 #[.slice (some ⟨g, 0, none⟩) d.size cap, .int .i64 a, .int .i64 m, .int .i64 b, .func (.func f) #[] cb] w fun e w' => e = .returned (.tuple #[]) ∧ ∃ d', SortW w0 B g cap 37 (encS hd) d' w' ∧ PermIn a b d d' ∧ SortedIn (ltC cf) a b d' := by
  have HM := Lib.hid (show SortedIn (ltC cf) (a + 1) b d ∧ m = a + 1 from ⟨by rw [← h1]; exact hr, h1⟩)
  have hm1 : a + 1 ≤ m := by omega
  have hm2 : m ≤ a + 1 := by omega
  clear h1
  have HS := Lib.hid hs
  have HC := Lib.hid hcmp
  have HW := Lib.hid hS
  have H2 := Lib.hid hr
  clear hs hcmp hS hr
  have hma : (((m : Int) - (a : Int)) == 1) = true := by rw [beq_iff_eq]; omega
  go_enter Tryz.func96, Tryz.ntmps96
  go_wp2_with fail
  clear hma
  go_loopw [10, 11] (fun u v W => ∃ (i j : Nat), u = .int .i64 i ∧ v = .int .i64 j ∧ m ≤ i ∧ i ≤ j ∧ j ≤ b ∧ Hid (SortW w0 B g cap 37 (encS hd) d W) ∧ Hid (∀ x, m ≤ x → x < i → ltC cf d[x]! d[a]! = true) ∧ Hid (∀ x, j ≤ x → x < b → ltC cf d[x]! d[a]! = false)) (fun u v _ => (intOf v - intOf u).toNat)
  case atStart => exact ⟨m, b, rfl, rfl, Nat.le_refl _, by omega, Nat.le_refl _, HS, Lib.hid (fun x h1 h2 => by omega), Lib.hid (fun x h1 h2 => by omega)⟩
  case round =>
    obtain ⟨i, j, rfl, rfl, hai, hij, hjb, he, hlo, hhi⟩ := hrel
    by_cases hlt : i < j
    · have q1 : (0 : Int) ≤ ((i : Int) + (j : Int)) / 2 := by omega
      have q2 : ((i : Int) + (j : Int)) / 2 < (d.size : Int) := by omega
      have q3 : (((i : Int) + (j : Int)) / 2).toNat = (i + j) / 2 := by omega
      have q4 : (a : Int) < (d.size : Int) := by omega
      have HG := Lib.hid (fun (h : cf d[(i + j) / 2]! d[a]! < 0) => fun x (h1 : m ≤ x) (h2 : x < (i + j) / 2 + 1) => le_lt HW.out (srt_le HW.out H2.out h1 (show x ≤ (i + j) / 2 by omega) (by omega)) (ltC_t h))
      have HE := Lib.hid (fun (h : ¬ cf d[(i + j) / 2]! d[a]! < 0) => fun x (h1 : (i + j) / 2 ≤ x) (h2 : x < b) => HW.out.ntrans _ _ _ (srt_le HW.out H2.out (show m ≤ (i + j) / 2 by omega) h1 h2) (ltC_f h))
      have c1 := he.out.cell (show (i + j) / 2 < d.size by omega)
      have c2 := he.out.cell (show a < d.size by omega)
      have HX := Lib.hid (fun V (h : Ext wr V) => he.out.ext h)
      have HQ := Lib.hid (fun V (h : Ext wr V) => HC.out V (he.out.ext h).gr d[(i + j) / 2]! d[a]!)
      unfold encS at c1 c2 HQ
      generalize hd d[(i + j) / 2]! = x1 at *
      generalize hd d[a]! = x2 at *
      generalize cf d[(i + j) / 2]! d[a]! = z at *
      have MK := Lib.hid (fun V (e : Ext wr V) => (⟨e.cell c1, e.cell c2, e⟩ : V.cell? ⟨g, (i + j) / 2, none⟩ = some (Value.slice x1.A x1.n x1.c) ∧ V.cell? ⟨g, a, none⟩ = some (Value.slice x2.A x2.n x2.c) ∧ Ext wr V))
      by_cases hz : z < 0
      · have hg := Lib.hid (HG.out hz)
        clear HG HE
        clear c1 c2
        go_wp2_with fail
        go_region_held3 (fun V => V.cell? ⟨g, (i + j) / 2, none⟩ = some (Value.slice x1.A x1.n x1.c) ∧ V.cell? ⟨g, a, none⟩ = some (Value.slice x2.A x2.n x2.c) ∧ Ext wr V) ((exact MK.out _ (by repeat (first | with_reducible exact Ext.refl _ | with_reducible assumption | with_reducible refine Ext.drew ?_ | with_reducible refine Ext.drewN ?_ _ | with_reducible refine Ext.alloc ?_ _)))) ((refine (HQ.out _ (by repeat (first | with_reducible exact Ext.refl _ | with_reducible assumption | with_reducible refine Ext.drew ?_ | with_reducible refine Ext.drewN ?_ _ | with_reducible refine Ext.alloc ?_ _))).mono ?_; rintro e w' ⟨rfl, hb⟩; replace hb : Ext wr w' := Ext.trans (by repeat (first | with_reducible exact Ext.refl _ | with_reducible assumption | with_reducible refine Ext.drew ?_ | with_reducible refine Ext.drewN ?_ _ | with_reducible refine Ext.alloc ?_ _)) hb))
        have hN := Lib.hid (HX.out w' hb)
        clear HX HQ MK
        go_wp2_with fail
        go_roundw
        case rel => exact ⟨(i + j) / 2 + 1, j, congrArg (Value.int .i64) (by omega), rfl, by omega, by omega, hjb, hN, hg, hhi⟩
        case measure => simp [intOf]; omega
      · have hg := Lib.hid (HE.out hz)
        clear HG HE
        clear c1 c2
        go_wp2_with fail
        go_region_held3 (fun V => V.cell? ⟨g, (i + j) / 2, none⟩ = some (Value.slice x1.A x1.n x1.c) ∧ V.cell? ⟨g, a, none⟩ = some (Value.slice x2.A x2.n x2.c) ∧ Ext wr V) ((exact MK.out _ (by repeat (first | with_reducible exact Ext.refl _ | with_reducible assumption | with_reducible refine Ext.drew ?_ | with_reducible refine Ext.drewN ?_ _ | with_reducible refine Ext.alloc ?_ _)))) ((refine (HQ.out _ (by repeat (first | with_reducible exact Ext.refl _ | with_reducible assumption | with_reducible refine Ext.drew ?_ | with_reducible refine Ext.drewN ?_ _ | with_reducible refine Ext.alloc ?_ _))).mono ?_; rintro e w' ⟨rfl, hb⟩; replace hb : Ext wr w' := Ext.trans (by repeat (first | with_reducible exact Ext.refl _ | with_reducible assumption | with_reducible refine Ext.drew ?_ | with_reducible refine Ext.drewN ?_ _ | with_reducible refine Ext.alloc ?_ _)) hb))
        have hN := Lib.hid (HX.out w' hb)
        clear HX HQ MK
        go_wp2_with fail
        go_roundw
        case rel => exact ⟨i, (i + j) / 2, rfl, congrArg (Value.int .i64) (by omega), hai, by omega, by omega, hN, hlo, hg⟩
        case measure => simp [intOf]; omega
    · obtain rfl : i = j := by omega
      go_wp2_with fail
      go_loopw [13] (fun u W => ∃ (k : Nat) (e : Array α), u = .int .i64 k ∧ a ≤ k ∧ k ≤ i - 1 ∧ Hid (SortW w0 B g cap 37 (encS hd) e W) ∧ e.size = d.size ∧ Hid (∀ x, e[x]! = if a ≤ x ∧ x < k then d[x + 1]! else if x = k then d[a]! else d[x]!) ∧ Hid (PermIn a b d e)) (fun u _ => i - (intOf u).toNat)
      case atStart => exact ⟨a, d, rfl, Nat.le_refl _, by omega, he, rfl, Lib.hid (fun x => by rw [if_neg (by omega)]; split; (rename_i h; rw [h]); rfl), Lib.hid (permIn_refl _ _ _)⟩
      case round =>
        clear he
        obtain ⟨k, e, rfl, hak, hki, he, hes, hx, hp⟩ := hrel
        by_cases hlt : k < i - 1
        · have q5 : (k : Int) < (i : Int) - 1 := by omega
          have q6 : (k : Int) + 1 < (d.size : Int) := by omega
          have q7 : ((k : Int) + 1).toNat = k + 1 := by omega
          have HXn := Lib.hid (shiftR_step (k := k) hes (by omega) hak hx.out)
          have HP := Lib.hid (permIn_trans _ _ _ a b hp.out (swp_permIn e a b k (k + 1) (by omega) (by omega) (by omega) (by omega) (by omega)))
          have HZ := Lib.hid (size_swp e k (k + 1))
          have c1 := he.out.cell (show k < e.size by omega)
          have c2 := he.out.cell (show k + 1 < e.size by omega)
          have f1 := he.out.frozen (k)
          have f2 := he.out.frozen (k + 1)
          have HN := Lib.hid (he.out.drew.swap (k) (k + 1))
          unfold encS at c1 c2 HN
          generalize hd e[k]! = x1 at *
          generalize hd e[k + 1]! = x2 at *
          go_wp2_with fail
          go_big_region
          all_goals go_wp2
          all_goals go_roundw
          case rel => exact ⟨k + 1, swp e k (k + 1), by go_num, by omega, by omega, (by unfold encS; exact HN), by rw [HZ.out]; exact hes, HXn, HP⟩
          case measure => simp [intOf]; omega
        · obtain rfl : k = i - 1 := by omega
          have q5 : ¬ (((i - 1 : Nat) : Int) < (i : Int) - 1) := by omega
          have HE := Lib.hid (ins_left HW.out (show a + 1 ≤ i by omega) hjb HM.out.1 (by rw [← HM.out.2]; exact hlo.out) hhi.out hx.out)
          go_wp2
          (try simp only [Exit.inBlock, Exit.then])
          refine bodyPost_ret (results_none rfl _ _ _) rfl ?_
          exact ⟨rfl, e, he.out, hp.out, HE.out⟩
set_option maxRecDepth 100000 in
set_option maxHeartbeats 6400000 in
theorem sw_symB (w0 : World) (B g cap : Nat) (hd : α → HeadS) (cf : α → α → Int) (f : Nat) (cb : Array Value) (d : Array α) (a m b : Nat) (w : World)
    (eg : ∀ args w, (callFunc f args).run Tryz.prog w = .ok (.enter f args) w) (hcmp : CmpOk Tryz.prog f cb (encS hd) cf w0 g) (hS : SWO (ltC cf)) (hs : SortW w0 B g cap 37 (encS hd) d w) (h0 : m ≠ a + 1) (h1 : a < m) (h2 : b = m + 1) (hb : b ≤ d.size) (hsz : d.size ≤ 8000000) (hl : SortedIn (ltC cf) a m d) :
    Calls Tryz.prog 96 #[.slice (some ⟨g, 0, none⟩) d.size cap, .int .i64 a, .int .i64 m, .int .i64 b, .func (.func f) #[] cb] w fun e w' => e = .returned (.tuple #[]) ∧ ∃ d', SortW w0 B g cap 37 (encS hd) d' w' ∧ PermIn a b d d' ∧ SortedIn (ltC cf) a b d' := by
  have HM := Lib.hid h2
  have hm1 : m + 1 ≤ b := by omega
  have hm2 : b ≤ m + 1 := by omega
  have hm3 : ¬ (m ≤ a + 1) := by omega
  clear h2 h0
  have HS := Lib.hid hs
  have HC := Lib.hid hcmp
  have HW := Lib.hid hS
  have H1 := Lib.hid hl
  clear hs hcmp hS hl
  have hma : (((m : Int) - (a : Int)) == 1) = false := by rw [beq_eq_false_iff_ne]; omega
  have hmb' : (((b : Int) - (m : Int)) == 1) = true := by rw [beq_iff_eq]; omega
  go_enter Tryz.func96, Tryz.ntmps96
  go_wp2_with fail
  clear hma hmb'
  go_loopw [14, 15] (fun u v W => ∃ (i j : Nat), u = .int .i64 i ∧ v = .int .i64 j ∧ a ≤ i ∧ i ≤ j ∧ j ≤ m ∧ Hid (SortW w0 B g cap 37 (encS hd) d W) ∧ Hid (∀ x, a ≤ x → x < i → ltC cf d[m]! d[x]! = false) ∧ Hid (∀ x, j ≤ x → x < m → ltC cf d[m]! d[x]! = true)) (fun u v _ => (intOf v - intOf u).toNat)
  case atStart => exact ⟨a, m, rfl, rfl, Nat.le_refl _, by omega, Nat.le_refl _, HS, Lib.hid (fun x h1 h2 => by omega), Lib.hid (fun x h1 h2 => by omega)⟩
  case round =>
    obtain ⟨i, j, rfl, rfl, hai, hij, hjb, he, hlo, hhi⟩ := hrel
    by_cases hlt : i < j
    · have q1 : (0 : Int) ≤ ((i : Int) + (j : Int)) / 2 := by omega
      have q2 : ((i : Int) + (j : Int)) / 2 < (d.size : Int) := by omega
      have q3 : (((i : Int) + (j : Int)) / 2).toNat = (i + j) / 2 := by omega
      have q4 : (m : Int) < (d.size : Int) := by omega
      have HG := Lib.hid (fun (h : cf d[m]! d[(i + j) / 2]! < 0) => fun x (h1 : (i + j) / 2 ≤ x) (h2 : x < m) => lt_le HW.out (ltC_t h) (srt_le HW.out H1.out (show a ≤ (i + j) / 2 by omega) h1 h2))
      have HE := Lib.hid (fun (h : ¬ cf d[m]! d[(i + j) / 2]! < 0) => fun x (h1 : a ≤ x) (h2 : x < (i + j) / 2 + 1) => HW.out.ntrans _ _ _ (ltC_f h) (srt_le HW.out H1.out h1 (show x ≤ (i + j) / 2 by omega) (by omega)))
      have c1 := he.out.cell (show m < d.size by omega)
      have c2 := he.out.cell (show (i + j) / 2 < d.size by omega)
      have HX := Lib.hid (fun V (h : Ext wr V) => he.out.ext h)
      have HQ := Lib.hid (fun V (h : Ext wr V) => HC.out V (he.out.ext h).gr d[m]! d[(i + j) / 2]!)
      unfold encS at c1 c2 HQ
      generalize hd d[m]! = x1 at *
      generalize hd d[(i + j) / 2]! = x2 at *
      generalize cf d[m]! d[(i + j) / 2]! = z at *
      have MK := Lib.hid (fun V (e : Ext wr V) => (⟨e.cell c1, e.cell c2, e⟩ : V.cell? ⟨g, m, none⟩ = some (Value.slice x1.A x1.n x1.c) ∧ V.cell? ⟨g, (i + j) / 2, none⟩ = some (Value.slice x2.A x2.n x2.c) ∧ Ext wr V))
      by_cases hz : z < 0
      · have hg := Lib.hid (HG.out hz)
        clear HG HE
        clear c1 c2
        go_wp2_with fail
        go_region_held3 (fun V => V.cell? ⟨g, m, none⟩ = some (Value.slice x1.A x1.n x1.c) ∧ V.cell? ⟨g, (i + j) / 2, none⟩ = some (Value.slice x2.A x2.n x2.c) ∧ Ext wr V) ((exact MK.out _ (by repeat (first | with_reducible exact Ext.refl _ | with_reducible assumption | with_reducible refine Ext.drew ?_ | with_reducible refine Ext.drewN ?_ _ | with_reducible refine Ext.alloc ?_ _)))) ((refine (HQ.out _ (by repeat (first | with_reducible exact Ext.refl _ | with_reducible assumption | with_reducible refine Ext.drew ?_ | with_reducible refine Ext.drewN ?_ _ | with_reducible refine Ext.alloc ?_ _))).mono ?_; rintro e w' ⟨rfl, hb⟩; replace hb : Ext wr w' := Ext.trans (by repeat (first | with_reducible exact Ext.refl _ | with_reducible assumption | with_reducible refine Ext.drew ?_ | with_reducible refine Ext.drewN ?_ _ | with_reducible refine Ext.alloc ?_ _)) hb))
        have hN := Lib.hid (HX.out w' hb)
        clear HX HQ MK
        go_wp2_with fail
        go_roundw
        case rel => exact ⟨i, (i + j) / 2, rfl, congrArg (Value.int .i64) (by omega), hai, by omega, by omega, hN, hlo, hg⟩
        case measure => simp [intOf]; omega
      · have hg := Lib.hid (HE.out hz)
        have hz' : decide (z < 0) = false := decide_eq_false hz
        clear HG HE hz
        clear c1 c2
        go_wp2_with fail
        go_region_held3 (fun V => V.cell? ⟨g, m, none⟩ = some (Value.slice x1.A x1.n x1.c) ∧ V.cell? ⟨g, (i + j) / 2, none⟩ = some (Value.slice x2.A x2.n x2.c) ∧ Ext wr V) ((exact MK.out _ (by repeat (first | with_reducible exact Ext.refl _ | with_reducible assumption | with_reducible refine Ext.drew ?_ | with_reducible refine Ext.drewN ?_ _ | with_reducible refine Ext.alloc ?_ _)))) ((refine (HQ.out _ (by repeat (first | with_reducible exact Ext.refl _ | with_reducible assumption | with_reducible refine Ext.drew ?_ | with_reducible refine Ext.drewN ?_ _ | with_reducible refine Ext.alloc ?_ _))).mono ?_; rintro e w' ⟨rfl, hb⟩; replace hb : Ext wr w' := Ext.trans (by repeat (first | with_reducible exact Ext.refl _ | with_reducible assumption | with_reducible refine Ext.drew ?_ | with_reducible refine Ext.drewN ?_ _ | with_reducible refine Ext.alloc ?_ _)) hb))
        have hN := Lib.hid (HX.out w' hb)
        clear HX HQ MK
        go_wp2_with fail
        go_roundw
        case rel => exact ⟨(i + j) / 2 + 1, j, congrArg (Value.int .i64) (by omega), rfl, by omega, by omega, hjb, hN, hg, hhi⟩
        case measure => simp [intOf]; omega
    · obtain rfl : i = j := by omega
      go_wp2_with fail
      go_loopw [17] (fun u W => ∃ (k : Nat) (e : Array α), u = .int .i64 k ∧ i ≤ k ∧ k ≤ m ∧ Hid (SortW w0 B g cap 37 (encS hd) e W) ∧ e.size = d.size ∧ Hid (∀ x, e[x]! = if k < x ∧ x ≤ m then d[x - 1]! else if x = k then d[m]! else d[x]!) ∧ Hid (PermIn a b d e)) (fun u _ => (intOf u).toNat)
      case atStart => exact ⟨m, d, rfl, by omega, Nat.le_refl _, he, rfl, Lib.hid (fun x => by rw [if_neg (by omega)]; split; (rename_i h; rw [h]); rfl), Lib.hid (permIn_refl _ _ _)⟩
      case round =>
        clear he
        obtain ⟨k, e, rfl, hak, hki, he, hes, hx, hp⟩ := hrel
        by_cases hlt : i < k
        · obtain ⟨kp, rfl⟩ : ∃ kp, k = kp + 1 := ⟨k - 1, by omega⟩
          have q5 : (i : Int) < (kp : Int) + 1 := by omega
          have q6 : (kp : Int) + 1 < (d.size : Int) := by omega
          have q7 : ((kp : Int) + 1).toNat = kp + 1 := by omega
          have q8 : (0 : Int) ≤ (kp : Int) + 1 := by omega
          have q9 : (kp : Int) < (d.size : Int) := by omega
          have hwp : IntKind.i64.wrap (kp : Int) = (kp : Int) := by rw [IntKind.wrap_i64]; omega
          have HXn := Lib.hid (shiftL_step (k := kp) hes (by omega) hki hx.out)
          have HP := Lib.hid (permIn_trans _ _ _ a b hp.out (swp_permIn e a b (kp + 1) kp (by omega) (by omega) (by omega) (by omega) (by omega)))
          have HZ := Lib.hid (size_swp e (kp + 1) kp)
          have c1 := he.out.cell (show kp + 1 < e.size by omega)
          have c2 := he.out.cell (show kp < e.size by omega)
          have f1 := he.out.frozen (kp + 1)
          have f2 := he.out.frozen (kp)
          have HN := Lib.hid (he.out.drew.swap (kp + 1) (kp))
          unfold encS at c1 c2 HN
          generalize hd e[kp + 1]! = x1 at *
          generalize hd e[kp]! = x2 at *
          go_wp2_with fail
          go_big_region
          all_goals go_wp2
          all_goals go_roundw
          case rel => exact ⟨kp, swp e (kp + 1) kp, by first | rfl | go_num, by omega, by omega, (by unfold encS; exact HN), by rw [HZ.out]; exact hes, HXn, HP⟩
          case measure => simp [intOf]
        · obtain rfl : k = i := by omega
          have HE := Lib.hid (show SortedIn (ltC cf) a b e by rw [HM.out]; exact ins_right HW.out hai hjb H1.out hlo.out hhi.out hx.out)
          go_wp2
          (try simp only [Exit.inBlock, Exit.then])
          refine bodyPost_ret (results_none rfl _ _ _) rfl ?_
          exact ⟨rfl, e, he.out, hp.out, HE.out⟩
end Go.Proofs.YtbjddimafilflaaGreatDoor
