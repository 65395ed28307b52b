/- PARTS OF THE WALKS, joined: Zz, ZLaid. -/
import Derived.Test.YtgojggmjajlbpaaGreatDoorV15
import Derived.Test.YtgojggmjajlbpaaGreatDoorV04
import Derived.Lib.LaidTab
import Derived.Stop.LaidErr
/- THE WALKS over the law ZsetBack (chapter 47). -/
namespace Go.Proofs.YtgojggmjajlbpaaGreatDoor
open Go.RowKit Go.Sort
theorem norm_perm {a b : List Sg} (ha : RgZ a) (h : a.Perm b) : normP a = normP b :=
  norm_is (fun x hx => ha x (h.mem_iff.2 hx)) (norm_good ha) (fun r => by rw [norm_cnt ha, cntZ_perm r h])
theorem ones_perm {l m : List (List Val)} (h : l.Perm m) : normP (onesZ l) = normP (onesZ m) := norm_perm (ones_rg l) (h.map _)
theorem z_RowsB (l : List (List Val)) (X : Option Addr) (x : Nat) (W : World) (hw : TabW W) (hz : ZeroAt W) (h : Bag W (fun _ => True) X (normP (onesZ l))) (hk : OkZ (onesZ l)) (hl : l.length ≤ 1000) :
    Calls Tryz.prog 11 #[.slice X (normP (onesZ l)).length x] W fun e w' => ∃ A c, e = .returned (.tuple #[.slice A l.length c, .bool true]) ∧ Rows w' (fun _ => True) A (sortO ordL l) ∧ Ext W w' := by
  refine (z_Rows (normP (onesZ l)) _ X x W hw hz h (ok_norm hk) (norm_good (ones_rg l)).rg (by have := norm_len (onesZ l); rw [ones_len] at this; omega)).mono ?_
  have e1 : rowsP (normP (onesZ l)) = some (sortO ordL l) := back l (by omega)
  rw [e1]
  rintro e w' ⟨A, c, rfl, -, hr, hx⟩
  exact ⟨A, c, by rw [sortO_len TotC.row], hr, hx⟩
set_option maxRecDepth 100000 in
set_option maxHeartbeats 12800000 in
theorem l_ZsetBack (l : List (List Val)) (ok : Nat → Prop) (A : Option Addr) (ca : Nat) (w : World) (hw : TabW w) (hz : ZeroAt w) (hv : Rows w ok A l) (hk0 : OkZ (onesZ l)) :
    Calls Tryz.prog 7 #[.slice A l.length ca] w fun e w' => e = .returned (.bool true) ∧ Ext w w' := by
  have HAL := Lib.hid (fun W (e : Ext w W) => l_alive W (hw.ext e) (hz.ext e))
  have hmx := hv.len
  by_cases h60 : l.length ≤ 60
  · have hnot : ¬ (60 : Int) < (l.length : Int) := by omega
    have hd1 : decide (60 < l.length) = false := decide_eq_false (by omega)
    have hd2 : decide ((60 : Int) < (l.length : Int)) = false := decide_eq_false hnot
    have HOF := Lib.hid (fun W (e : Ext w W) => z_Of l ok A ca W (hw.ext e) (hz.ext e) (hv.ext e) hk0 (by omega))
    have HZR := Lib.hid (fun W (e : Ext w W) (X : Option Addr) (x : Nat) (h : Bag W (fun _ => True) X (normP (onesZ l))) => z_RowsB l X x W (hw.ext e) (hz.ext e) h hk0 (by omega))
    have hmem : ∀ r ∈ l, rgL r ∧ szL r ∧ bkL r ≤ 1048576 := fun r hr => hk0 (r, 1) (List.mem_map_of_mem (f := fun r => ((r, 1) : Sg)) hr)
    have HSRT := Lib.hid (fun W (e : Ext w W) => r4_SortRows l ok A ca W (by omega) (fun r hr => ⟨by have := (hmem r hr).2.2; exact Nat.le_trans (wt_bk _) (by omega), (hmem r hr).2.1⟩) (hv.ext e))
    have HVZ := Lib.hid (fun W (e : Ext w W) (X : Option Addr) (x : Nat) (h : Bag W (fun _ => True) X (normP (onesZ l))) => (by have := z_Valid (normP (onesZ l)) _ X x W (hz.ext e) h (by have := norm_len (onesZ l); rw [ones_len] at this; omega); rwa [validZ_good (norm_good (ones_rg l))] at this : Calls Tryz.prog 14 #[.slice X (normP (onesZ l)).length x] W fun e w' => e = .returned (.bool true) ∧ Ext W w'))
    have hkS : OkZ (onesZ (sortO ordL l)) := fun x hx => by
      obtain ⟨r, hr, rfl⟩ := List.mem_map.1 hx
      exact hmem r ((sortO_perm TotC.row l).mem_iff.1 hr)
    have HOF2 := Lib.hid (fun W (e : Ext w W) (X : Option Addr) (x : Nat) (h : Rows W (fun _ => True) X (sortO ordL l)) => (by have := z_Of (sortO ordL l) _ X x W (hw.ext e) (hz.ext e) h hkS (by rw [sortO_len TotC.row]; omega); rwa [sortO_len TotC.row, ones_perm (sortO_perm TotC.row l)] at this : Calls Tryz.prog 29 #[.slice X l.length x] W (Gives W (normP (onesZ l)))))
    have HSM := Lib.hid (fun (W : World) (X Y : Option Addr) (x y : Nat) (h : Bag W (fun _ => True) X (normP (onesZ l))) (k : Bag W (fun _ => True) Y (normP (onesZ l))) => r47_Same (normP (onesZ l)) _ _ X Y x y W h k (ok_norm hk0) (by have := norm_len (onesZ l); rw [ones_len] at this; omega))
    have HSZ := Lib.hid (fun x (hx : x ∈ sortO ordL l) => (hmem x ((sortO_perm TotC.row l).mem_iff.1 hx)).2.1)
    have HLN := Lib.hid (sortO_len TotC.row l)
    have HV := Lib.hid hv
    clear hw hz hv hk0 hmem hkS
    generalize sortO ordL l = S at *
    go_enter Tryz.func7, Tryz.ntmps7
    go_wp2_with fail
    clear hd1 hd2
    go_loopw [3] (fun u W => ∃ k : Nat, u = .int .i64 k ∧ k ≤ l.length ∧ Ext w W) (fun u _ => l.length - (intOf u).toNat)
    case atStart => exact ⟨0, rfl, Nat.zero_le _, (by repeat (first | with_reducible exact Ext.refl _ | with_reducible assumption | with_reducible refine Ext.drew ?_ | with_reducible refine Ext.drewN ?_ _ | with_reducible refine Ext.alloc ?_ _ | (with_reducible refine Ext.setCell ?_ (by first | omega | (simp; done) | (simp; omega)) _)))⟩
    case round =>
      obtain ⟨k, rfl, hk, hE⟩ := hrel
      by_cases hlt : k < l.length
      · obtain ⟨b1, o1, rfl, A', c', c0, hle5, hl5⟩ := rowsAt_ HV.out hlt
        replace c0 := hE.cell c0
        have hlm : l[k]!.length ≤ 140737488355328 := hl5.len
        generalize l[k]! = x at *
        have zlt : (k : Int) < (l.length : Int) := by omega
        clear hl5 hle5
        by_cases h30 : x.length ≤ 30
        · have hd3 : ¬ (30 : Int) < (x.length : Int) := by omega
          have hd4 : decide ((30 : Int) < (x.length : Int)) = false := decide_eq_false hd3
          have hd5 : decide (30 < x.length) = false := decide_eq_false (by omega)
          go_wp2_with fail
          go_roundw
          case rel => exact ⟨k + 1, by go_num, by omega, hE⟩
          case measure => simp [intOf]; omega
        · have hd3 : (30 : Int) < (x.length : Int) := by omega
          have hd4 : decide ((30 : Int) < (x.length : Int)) = true := decide_eq_true hd3
          have hd5 : decide (30 < x.length) = true := decide_eq_true (by omega)
          go_wp2_with (first | (go_at_call 10; ((with_reducible refine (HAL.out wr hE).mono ?_); rintro e w1 ⟨rfl, hx1⟩; have hE1 : Ext w w1 := hE.trans hx1)))
          go_ret
          exact ⟨rfl, hE1⟩
      · have hfl : decide ((k : Int) < (l.length : Int)) = false := decide_eq_false (by omega)
        go_upto_region 11 with (first | (go_at_call 30; ((with_reducible refine (HSRT.out w2 hE2).mono ?_); rintro e w3 ⟨A3, c3, rfl, hle3, hR3, hx3⟩; have hE3 : Ext w w3 := hE2.trans hx3)) | (go_at_call 11; ((with_reducible refine (HZR.out w1 hE1 A1 c1 hB1).mono ?_); rintro e w2 ⟨A2, c2, rfl, hR2, hx2⟩; have hE2 : Ext w w2 := hE1.trans hx2)) | (go_at_call 29; ((with_reducible refine (HOF.out wr hE).mono ?_); rintro e w1 ⟨A1, c1, rfl, hle1, hB1, hx1⟩; have hE1 : Ext w w1 := hE.trans hx1)))
        go_upto_region 13 with (first | (go_at_call 14; ((with_reducible refine (HVZ.out w3 hE3 A1 c1 (hB1.ext (hx2.trans hx3))).mono ?_); rintro e w4 ⟨rfl, hx4⟩; have hE4 : Ext w w4 := hE3.trans hx4)))
        have HP := Lib.hid (hR2.ext (hx3.trans hx4))
        have HQ := Lib.hid (hR3.ext hx4)
        have HBZ := Lib.hid (hB1.ext (hx2.trans (hx3.trans hx4)))
        have hEn := hE4
        clear hfl hlt hk hE
        go_wp2_with fail
        go_loopw [8] (fun u W => ∃ k : Nat, u = .int .i64 k ∧ k ≤ l.length ∧ Ext w4 W) (fun u _ => l.length - (intOf u).toNat)
        case atStart => exact ⟨0, rfl, Nat.zero_le _, Ext.refl _⟩
        case round =>
          obtain ⟨k, rfl, hk, hE0⟩ := hrel
          have hE := hEn.trans hE0
          by_cases hlt : k < l.length
          · have hlS : k < S.length := by rw [HLN.out]; exact hlt
            obtain ⟨b1, o1, hb1, A', c', c0, -, hl5⟩ := rowsAt_ HP.out hlS
            obtain ⟨b2, o2, hb2, B', d', d0, -, hl6⟩ := rowsAt_ HQ.out hlS
            subst hb1 hb2
            replace c0 := hE0.cell c0
            replace d0 := hE0.cell d0
            have hsx : szL S[k]! := by rw [getElem!_pos S k hlS]; exact HSZ.out _ (List.getElem_mem hlS)
            have hor := fun W (e : Ext wr W) => r4_OrderRows S[k]! S[k]! _ _ A' B' c' d' W (hl5.ext (hE0.trans e)) (hl6.ext (hE0.trans e)) hsx hsx
            rw [ordL_self] at hor
            have HOR := Lib.hid hor
            have zlt : (k : Int) < (l.length : Int) := by omega
            generalize S[k]! = x at *
            clear hl5 hl6 hsx hor hlS
            go_upto_region 16 with (fail)
            have MKR1 := Lib.hid (fun V (e : Ext wr V) => (⟨e.cell c0, e.cell d0, e⟩ : V.cell? ⟨b1, o1 + k, none⟩ = some (.slice A' x.length c') ∧ V.cell? ⟨b2, o2 + k, none⟩ = some (.slice B' x.length d') ∧ Ext wr V))
            refine wp_region_held_drew (S := (fun V => V.cell? ⟨b1, o1 + k, none⟩ = some (.slice A' x.length c') ∧ V.cell? ⟨b2, o2 + k, none⟩ = some (.slice B' x.length d') ∧ Ext wr V)) (by kernel_rfl) ?hs1 (fun hHeld => ?go1)
            case hs1 => (exact MKR1.out _ (by with_reducible repeat (first | exact Ext.refl _ | assumption | refine Ext.drew ?_ | refine Ext.drewN ?_ _ | refine Ext.alloc ?_ _)))
            refine wpAnyH_take (i := 0) (oi := ⟨(some 55), (.move (.tmp 5)), 27, "law.go:115", #[], none⟩) (v := ?v2) rfl (by kernel_rfl) (by kernel_rfl) (by kernel_rfl) (fun _ _ _ h => h) (Or.inl ⟨rfl, ?hy2⟩) hHeld ?rest2
            case hy2 => (intro w _; go_simp <;> rfl)
            (try simp only [PU])
            refine wpAnyH_take (i := 1) (oi := ⟨(some 56), (.move (.tmp 8)), 3, "law.go:115", #[], none⟩) (v := ?v3) rfl (by kernel_rfl) (by kernel_rfl) (by kernel_rfl) (fun _ _ _ h => h) (Or.inl ⟨rfl, ?hy3⟩) hHeld ?rest3
            case hy3 => (intro w _; go_simp <;> rfl)
            (try simp only [PU])
            refine wpAnyH_take (i := 2) (oi := ⟨(some 57), (.indexAddr 27 (.tmp 55) (.tmp 56)), 0, "law.go:115", #[⟨0, .data⟩, ⟨1, .data⟩], none⟩) (v := ?v4) rfl (by kernel_rfl) (by kernel_rfl) (by kernel_rfl) (fun _ _ _ h => h) (Or.inl ⟨rfl, ?hy4⟩) hHeld ?rest4
            case hy4 => (intro w _; go_simp <;> first | with_reducible rfl | rw [if_neg (by omega)] | rw [if_pos (by omega)])
            (try simp only [PU])
            refine wpAnyH_take (i := 3) (oi := ⟨(some 58), (.load 24 (.tmp 57)), 24, "law.go:115", #[⟨2, .data⟩], none⟩) (v := ?v5) rfl (by kernel_rfl) (by kernel_rfl) (by kernel_rfl) (fun _ _ _ h => h) (Or.inl ⟨rfl, ?hy5⟩) hHeld ?rest5
            case hy5 => (intro w hSw; (try dsimp only at hSw); go_simp <;> first | with_reducible rfl | rw [if_neg (by omega)] | rw [if_pos (by omega)])
            (try simp only [PU])
            refine wpAnyH_take (i := 4) (oi := ⟨(some 59), (.move (.tmp 7)), 27, "law.go:115", #[], none⟩) (v := ?v6) rfl (by kernel_rfl) (by kernel_rfl) (by kernel_rfl) (fun _ _ _ h => h) (Or.inl ⟨rfl, ?hy6⟩) hHeld ?rest6
            case hy6 => (intro w _; go_simp <;> rfl)
            (try simp only [PU])
            refine wpAnyH_take (i := 5) (oi := ⟨(some 60), (.move (.tmp 8)), 3, "law.go:115", #[], none⟩) (v := ?v7) rfl (by kernel_rfl) (by kernel_rfl) (by kernel_rfl) (fun _ _ _ h => h) (Or.inl ⟨rfl, ?hy7⟩) hHeld ?rest7
            case hy7 => (intro w _; go_simp <;> rfl)
            (try simp only [PU])
            refine wpAnyH_take (i := 6) (oi := ⟨(some 61), (.indexAddr 27 (.tmp 59) (.tmp 60)), 0, "law.go:115", #[⟨4, .data⟩, ⟨5, .data⟩], none⟩) (v := ?v8) rfl (by kernel_rfl) (by kernel_rfl) (by kernel_rfl) (fun _ _ _ h => h) (Or.inl ⟨rfl, ?hy8⟩) hHeld ?rest8
            case hy8 => (intro w _; go_simp <;> first | with_reducible rfl | rw [if_neg (by omega)] | rw [if_pos (by omega)])
            (try simp only [PU])
            refine wpAnyH_take (i := 7) (oi := ⟨(some 62), (.load 24 (.tmp 61)), 24, "law.go:115", #[⟨6, .data⟩], none⟩) (v := ?v9) rfl (by kernel_rfl) (by kernel_rfl) (by kernel_rfl) (fun _ _ _ h => h) (Or.inl ⟨rfl, ?hy9⟩) hHeld ?rest9
            case hy9 => (intro w hSw; (try dsimp only at hSw); go_simp <;> first | with_reducible rfl | rw [if_neg (by omega)] | rw [if_pos (by omega)])
            (try simp only [PU])
            refine wpAnyH_ready (rs := [8]) (by kernel_rfl) (by simp) ?_
            refine AllReadyH.cons (o := ⟨(some 63), (.call { callee := (.value (.func 13)), args := #[(.tmp 58), (.tmp 62)], argTypes := #[24, 24] }), 3, "law.go:115", #[⟨3, .data⟩, ⟨7, .data⟩], none⟩) rfl (fun K hK => ?step10x0) ?more10x0
            case more10x0 => exact AllReadyH.nil
            go_simp
            (refine (HOR.out _ (by with_reducible repeat (first | exact Ext.refl _ | assumption | refine Ext.drew ?_ | refine Ext.drewN ?_ _ | refine Ext.alloc ?_ _))).mono ?_; rintro e w99 ⟨rfl, hxw99⟩; replace hxw99 : Ext wr w99 := Ext.trans (by with_reducible repeat (first | exact Ext.refl _ | assumption | refine Ext.drew ?_ | refine Ext.drewN ?_ _ | refine Ext.alloc ?_ _)) hxw99)
            refine hK.out _ _ ?hS10x0 (fun hHeld10 => ?rest10x0)
            case hS10x0 => first | (exact MKR1.out _ (by with_reducible repeat (first | exact Ext.refl _ | assumption | refine Ext.drew ?_ | refine Ext.drewN ?_ _ | refine Ext.alloc ?_ _))) | ((try dsimp only); (exact MKR1.out _ (by with_reducible repeat (first | exact Ext.refl _ | assumption | refine Ext.drew ?_ | refine Ext.drewN ?_ _ | refine Ext.alloc ?_ _))))
            clear hK K
            clear hHeld
            (try simp only [PU])
            refine wpAnyH_take (i := 9) (oi := ⟨(some 64), (.binOp .neq 3 (.tmp 63) (.const (.int .i64 0)) 3), 4, "law.go:115", #[⟨8, .data⟩], none⟩) (v := ?v11) rfl (by kernel_rfl) (by kernel_rfl) (by kernel_rfl) (fun _ _ _ h => h) (Or.inl ⟨rfl, ?hy11⟩) hHeld10 ?rest11
            case hy11 => (intro w _; go_simp <;> first | with_reducible rfl | rw [if_neg (by omega)] | rw [if_pos (by omega)])
            (try simp only [PU])
            refine wpAnyH_done (by kernel_rfl) ?_ _
            clear hHeld10
            clear MKR1
            go_wp2_with fail
            go_roundw
            case rel => exact ⟨k + 1, by go_num, by omega, hE0.trans (by with_reducible repeat (first | exact Ext.refl _ | assumption | refine Ext.drew ?_ | refine Ext.drewN ?_ _ | refine Ext.alloc ?_ _))⟩
            case measure => simp [intOf]; omega
          · go_wp2_with (first | (go_at_call 10; ((with_reducible refine (HAL.out w12 hE12).mono ?_); rintro e w13 ⟨rfl, hx13⟩; have hE13 : Ext w w13 := hE12.trans hx13)) | (go_at_call 16; ((with_reducible refine (HSM.out w11 A11 A1 c11 c1 hB11 (HBZ.out.ext (hE0.trans hx11))).mono ?_); rintro e w12 ⟨rfl, hx12⟩; have hE12 : Ext w w12 := hE11.trans hx12)) | (go_at_call 29; ((with_reducible refine (HOF2.out wr hE A2 c2 (HP.out.ext hE0)).mono ?_); rintro e w11 ⟨A11, c11, rfl, hle11, hB11, hx11⟩; have hE11 : Ext w w11 := hE.trans hx11)))
            go_ret
            exact ⟨rfl, hE13⟩
  · have hnot : (60 : Int) < (l.length : Int) := by omega
    have hd1 : decide (60 < l.length) = true := decide_eq_true (by omega)
    have hd2 : decide ((60 : Int) < (l.length : Int)) = true := decide_eq_true hnot
    clear hw hz hv hk0
    go_enter Tryz.func7, Tryz.ntmps7
    go_wp2_with (first | (go_at_call 10; ((with_reducible refine (HAL.out w (Ext.refl _)).mono ?_); rintro e w1 ⟨rfl, hx1⟩; have hE1 : Ext w w1 := hx1)))
    go_ret
    exact ⟨rfl, hE1⟩
end Go.Proofs.YtgojggmjajlbpaaGreatDoor

/- WHAT THE ROWS OF CHAPTER 47 LIST; bags and rows that come in, with their bulk. -/
namespace Go.Proofs.YtgojggmjajlbpaaGreatDoor
open Go.ChangeShapes Go.WideShapes Go.ChangeAt Go.RowKit
open Go.ChangeMaps (open_string shut_string)
theorem gZero : Tryz.prog.globalNamed "graphdb/frac.zero" = some 0 := by kernel_rfl
theorem gZeroType : (Tryz.prog.globals[0]?).map (·.type) = some 72 := by kernel_rfl
theorem cellsFrac : Tryz.prog.cellsOf 72 = 2 := by kernel_rfl
abbrev laidList : List (String × DataW Unit) := Rows.zsetReadsUptoRow.laid
theorem zero_of {W : World} (h : laidMetH Tryz.prog laidList W) : ZeroAt W := by
  have h0 : laidMet Tryz.prog laidList W := h
  have h0 := h0.tail.tail.tail
  obtain ⟨ps, ⟨g', t', cs, fuel, p, q, hg', ht', hvar, hd, -, -⟩, -⟩ := h0
  obtain rfl := Option.some.inj (gZero.symm.trans hg')
  obtain rfl := Option.some.inj (gZeroType.symm.trans ht')
  obtain ⟨y0, y1, n, hx, hl, h0, h1⟩ := trod_struct2 Tryz.underlying72 hd
  rw [cellsFrac] at hl
  obtain ⟨c0, c1, rfl⟩ := Joins.array2 (show cs.size = 2 by simpa using hl)
  obtain ⟨a, e0, x0, -⟩ := DataW.trod_int (k := .i64) Tryz.underlying3 h0
  obtain ⟨b, e1, x1, -⟩ := DataW.trod_int (k := .i64) Tryz.underlying3 h1
  rw [x0, x1] at hx
  simp only [Rows.laid_graphdb_frac_zero, Prod.mk.injEq, DataW.agg.injEq, List.cons.injEq, DataW.lit.injEq, Lit.int.injEq] at hx
  have k0 : c0 = .int .i64 a := by simpa [show Tryz.prog.cellsOf 3 = 1 from by kernel_rfl] using e0
  have k1 : c1 = .int .i64 b := by simpa [show Tryz.prog.cellsOf 3 = 1 from by kernel_rfl] using e1
  have ha : (0 : Int) = a := hx.1.1.2
  have hb : (1 : Int) = b := hx.1.2.1.2
  subst ha hb k0 k1
  have z0 := World.var?_cell gZero hvar 0
  have z1 := World.var?_cell gZero hvar 1
  refine ⟨z0, z1, ?_⟩
  unfold World.var? at hvar
  rw [gZero] at hvar
  rcases Nat.lt_or_ge 0 W.heap.size with k | k
  · exact k
  · simp only [Option.bind_some, Array.getElem?_eq_none k] at hvar; cases hvar
theorem gPow : Tryz.prog.globalNamed "internal/strconv.uint64pow10" = some 1 := by kernel_rfl
theorem gPowType : (Tryz.prog.globals[1]?).map (·.type) = some 132 := by kernel_rfl
theorem cellsPow : Tryz.prog.cellsOf 132 = 20 := by kernel_rfl
theorem cellsU64 : Tryz.prog.cellsOf 89 = 1 := by kernel_rfl
theorem tab_of {W : World} (h : laidMetH Tryz.prog laidList W) : TabW W := by
  have h0 : laidMet Tryz.prog laidList W := h
  exact Lib.tabIs_of_head gPow gPowType Tryz.underlying132 Tryz.underlying89 cellsU64 cellsPow h0.tail.tail
/-- The laid heap meets the condition. -/
theorem door_met (os : Os) (args : Array Value) : laidMetH Tryz.prog laidList ((World.laidAll Tryz.prog os laidList).forCall (fun _ _ => 0) ⟨#[], args, []⟩).memory := by
  rw [MakeChecks.laidMetH_plain _ _ _ (by kernel_rfl)]
  exact laidMet_laidAll _ (by kernel_rfl) (by kernel_rfl)
theorem cellsSg : Tryz.prog.cellsOf 38 = 2 := by kernel_rfl
theorem bytesSg : 0 < Tryz.prog.bytesOf 38 := of_decide_eq_true (by kernel_rfl)
theorem bulk_le {H : Type} {l : List (DataW H × List MemPlace)} {α : Type} (m : List α) (μ : α → Nat) (hl : m.length = l.length) (h : ∀ i (h1 : i < m.length) (h2 : i < l.length), μ m[i] ≤ Rows.uptoBulk l[i].1) : (m.map μ).sum ≤ Rows.uptoBulkAll (l.map (·.1)) := by
  induction m generalizing l with
  | nil => simp
  | cons x m ih =>
    cases l with
    | nil => simp at hl
    | cons y l =>
      rw [List.map_cons, List.sum_cons, List.map_cons, Rows.uptoBulkAll]
      have h1 := h 0 (by simp) (by simp)
      have h2 := ih (l := l) (by simpa using hl) (fun i a b => by
        have := h (i + 1) (by simpa using a) (by simpa using b)
        simpa using this)
      simp only [List.getElem_cons_zero] at h1
      omega
section
variable {H : Type} {enc : TypeId × Value → H} {w : World} {base : Nat} {spare : Nat → Bool} {held : Bool}
/-- a slice that reads: each element by what its cells are; how much there is -/
theorem slice_genB {α : Type} {t e size fuel : Nat} {cs : List Value} {x : DataW H × List MemPlace} (ht : Tryz.prog.underlying t = some (.slice e)) (he : Tryz.prog.cellsOf e = size) (hbe : 0 < Tryz.prog.bytesOf e) (hs : 0 < size) (R : Nat → Nat → α → Prop) (Q : α → Prop) (μ : α → Nat)
    (hel : ∀ n cs' (y : DataW H × List MemPlace), fuel = n + 1 → (∀ k ∈ y.1.weights Tryz.prog e, k ≤ reachBytes) → DataW.trod enc Tryz.prog w base spare held n e cs' = some y → ∃ v : α, Q v ∧ μ v ≤ Rows.uptoBulk y.1 ∧ ∀ b o, (∀ j u, cs'[j]? = some u → w.cell? ⟨b, o + j, none⟩ = some u) → R b o v)
    (hwt : ∀ k ∈ x.1.weights Tryz.prog t, k ≤ reachBytes) (h : DataW.trod enc Tryz.prog w base spare held fuel t cs = some x) : ∃ (l : List α) (A : Option Addr) (c : Nat), cs = [.slice A l.length c] ∧ l.length ≤ c ∧ SliceR R size A l ∧ (∀ v ∈ l, Q v) ∧ (l.map μ).sum + 1 ≤ Rows.uptoBulk x.1 := by
  rcases DataW.trod_slice ht h with ⟨rfl, hx0⟩ | ⟨a, len, cap, elems, rest, n, hfu, rfl, hxx, -, hl, hm, hlen, hel2, -, -⟩
  · exact ⟨[], none, 0, rfl, Nat.le_refl _, SliceR.nil _ _ _, fun v hv => absurd hv (by simp), by
      have e : x.1 = .nil := congrArg Prod.fst hx0
      rw [e]; simp [Rows.uptoBulk]⟩
  · have hwt0 := hwt
    rw [hxx] at hwt
    simp only [DataW.weights, ht, List.mem_cons, List.mem_append, List.length_map] at hwt
    have hlen2 : len ≤ 140737488355328 := by
      have h1 := hwt _ (.inl rfl)
      have h2 : (elems.length + rest.length) * 1 ≤ (elems.length + rest.length) * Tryz.prog.bytesOf e := Nat.mul_le_mul_left _ hbe
      have h3 := reachBytes_lt
      omega
    have H : ∀ i, i < len → ∃ v : α, (Q v ∧ ∀ (h : i < elems.length), μ v ≤ Rows.uptoBulk elems[i].1) ∧ R a.block (a.off + i * size) v ∧ a = ⟨a.block, a.off, none⟩ := fun i hi => by
      have h1 := hel2 i hi
      rw [he, List.getElem?_eq_getElem (by omega)] at h1
      obtain ⟨cs', hc, ht'⟩ := Option.bind_eq_some_iff.1 h1
      obtain ⟨v, hq, hmu, hr⟩ := hel n cs' _ hfu (fun k hk => hwt k (.inr (.inl (weightsAll_mem (List.mem_map_of_mem (List.getElem_mem _)) k hk)))) ht'
      obtain ⟨-, hlen', hat⟩ := World.cells?_some hc
      have hspot : a = ⟨a.block, a.off, none⟩ := by
        have h1' := hel2 0 (by omega)
        rw [he, List.getElem?_eq_getElem (by omega)] at h1'
        obtain ⟨cs0, hc0, -⟩ := Option.bind_eq_some_iff.1 h1'
        obtain ⟨-, hl0, hat0⟩ := World.cells?_some hc0
        have h2 := hat0 0 hs
        rw [Nat.zero_mul] at h2
        obtain ⟨u, hu⟩ : ∃ u, cs0[0]? = some u := ⟨cs0[0]'(by omega), List.getElem?_eq_getElem (by omega)⟩
        rw [hu] at h2
        exact spot_of_cell (v := u) (by simpa [Addr.add] using h2)
      refine ⟨v, ⟨hq, fun _ => hmu⟩, hr _ _ (fun j u hu => ?_), hspot⟩
      have hj : j < size := by have := (List.getElem?_eq_some_iff.1 hu).1; omega
      have h2 := hat j hj
      rw [hspot, add_none, hu] at h2
      exact h2
    obtain ⟨l, hll, hp⟩ := list_of (fun i v => (Q v ∧ ∀ (h : i < elems.length), μ v ≤ Rows.uptoBulk elems[i].1) ∧ R a.block (a.off + i * size) v ∧ a = ⟨a.block, a.off, none⟩) len H
    refine ⟨l, some a, cap, by rw [hll], by omega, ⟨by omega, fun hpos => ⟨a.block, a.off, congrArg some (hp 0 hpos).2.2, fun k hk => (hp k hk).2.1⟩⟩, fun v hv => ?_, ?_⟩
    · obtain ⟨i, hi, rfl⟩ := List.getElem_of_mem hv
      exact (hp i hi).1.1
    · have h1 := bulk_le (l := elems) l μ (by omega) (fun i a b => (hp i a).1.2 b)
      have e : x.1 = .slice (elems.map (·.1)) (rest.map (·.1)) := congrArg Prod.fst hxx
      rw [e, Rows.uptoBulk]; omega
theorem in_wf {n : Int} (h : (Lit.int .i64 n).wf = true) : inW n := by
  simp [Lit.wf, IntKind.min, IntKind.max, IntKind.signed, IntKind.bits] at h
  unfold inW; omega
theorem rgL_of : ∀ {l : List Val}, (∀ v ∈ l, rgV v) → rgL l
  | [], _ => by rw [rgL]; trivial
  | v :: l, h => rgL_cons.2 ⟨h v (by simp), rgL_of (fun x hx => h x (by simp [hx]))⟩
theorem bkL_sum : ∀ l : List Val, bkL l = (l.map bkV).sum
  | [] => by rw [bkL]; rfl
  | v :: l => by rw [bkL_cons, bkL_sum l, List.map_cons, List.sum_cons]
set_option maxRecDepth 100000 in
/-- values that read, and lists of values -/
theorem open_bothB : ∀ fuel : Nat,
    (∀ (cs : List Value) (x : DataW H × List MemPlace), (∀ k ∈ x.1.weights Tryz.prog 56, k ≤ reachBytes) → DataW.trod enc Tryz.prog w base spare held fuel 56 cs = some x → ∃ v : Val, (szV v ∧ rgV v) ∧ bkV v ≤ Rows.uptoBulk x.1 ∧ ∀ b o, (∀ j u, cs[j]? = some u → w.cell? ⟨b, o + j, none⟩ = some u) → VCells w (fun _ => True) b o v) ∧
    (∀ (t : TypeId) (cs : List Value) (x : DataW H × List MemPlace), Tryz.prog.underlying t = some (.slice 56) → (∀ k ∈ x.1.weights Tryz.prog t, k ≤ reachBytes) → DataW.trod enc Tryz.prog w base spare held fuel t cs = some x → ∃ (l : List Val) (A : Option Addr) (c : Nat), cs = [.slice A l.length c] ∧ l.length ≤ c ∧ Vals w (fun _ => True) A l ∧ szL l ∧ rgL l ∧ bkL l + 1 ≤ Rows.uptoBulk x.1)
  | 0 => ⟨fun cs x _ h => by simp [DataW.trod] at h, fun t cs x _ _ h => by simp [DataW.trod] at h⟩
  | n + 1 => by
    obtain ⟨ih1, ih2⟩ := open_bothB n
    refine ⟨fun cs x hwt h => ?_, fun t cs x ht hwt h => ?_⟩
    · obtain ⟨xs, m, hm, rfl, hl, hlen, hg⟩ := DataW.trod_struct Tryz.underlying56 h
      obtain rfl : m = n := by omega
      rw [cellsVal] at hl
      obtain ⟨c0, c1, c2, c3, c4, rfl⟩ := five hl
      obtain ⟨y0, y1, y2, y3, y4, rfl⟩ := five (show xs.length = 5 from hlen)
      have g0 : DataW.trod enc Tryz.prog w base spare held m 3 (([c0, c1, c2, c3, c4].drop 0).take (Tryz.prog.cellsOf 3)) = some y0 := hg 0 _ rfl
      rw [cellsInt] at g0
      have g1 : DataW.trod enc Tryz.prog w base spare held m 3 (([c0, c1, c2, c3, c4].drop 1).take (Tryz.prog.cellsOf 3)) = some y1 := hg 1 _ rfl
      rw [cellsInt] at g1
      have g2 : DataW.trod enc Tryz.prog w base spare held m 3 (([c0, c1, c2, c3, c4].drop 2).take (Tryz.prog.cellsOf 3)) = some y2 := hg 2 _ rfl
      rw [cellsInt] at g2
      have g3 : DataW.trod enc Tryz.prog w base spare held m 9 (([c0, c1, c2, c3, c4].drop 3).take (Tryz.prog.cellsOf 9)) = some y3 := hg 3 _ rfl
      rw [cellsStr] at g3
      have g4 : DataW.trod enc Tryz.prog w base spare held m 23 (([c0, c1, c2, c3, c4].drop 4).take (Tryz.prog.cellsOf 23)) = some y4 := hg 4 _ rfl
      rw [cellsVals] at g4
      have hwe : ∀ k ∈ DataW.weightsEach Tryz.prog [3, 3, 3, 9, 23] [y0.1, y1.1, y2.1, y3.1, y4.1], k ≤ reachBytes := fun k hk => hwt k (by
        simp only [DataW.weights, Tryz.underlying56]
        exact hk)
      obtain ⟨k0, e0, d0, f0⟩ := DataW.trod_int (k := .i64) Tryz.underlying3 g0
      obtain ⟨k1, e1, d1, f1⟩ := DataW.trod_int (k := .i64) Tryz.underlying3 g1
      obtain ⟨k2, e2, d2, f2⟩ := DataW.trod_int (k := .i64) Tryz.underlying3 g2
      obtain ⟨s, e3, x3, -⟩ := DataW.trod_string Tryz.underlying9 g3
      have hsz := str_small x3 (fun k hk => hwe k (DataW.weights_mem_each (j := 3) rfl rfl k hk))
      obtain ⟨l, A, c, e4, hlc, hv, hszl, hrgl, hbk⟩ := ih2 _ _ _ Tryz.underlying23 (fun k hk => hwe k (DataW.weights_mem_each (j := 4) rfl rfl k hk)) g4
      cases e0; cases e1; cases e2; cases e3; cases e4
      refine ⟨.mk k0 k1 k2 s l, ⟨szV_iff.2 ⟨hsz, hszl⟩, ⟨in_wf f0, in_wf f1, in_wf f2, hrgl⟩⟩, ?_, fun b o hc => VCells.iff.2 ⟨trivial, A, c, ⟨hc 0 _ rfl, hc 1 _ rfl, hc 2 _ rfl, hc 3 _ rfl, hc 4 _ rfl⟩, hlc, hv⟩⟩
      show 6 + s.size + bkL l ≤ Rows.uptoBulk (.agg [y0.1, y1.1, y2.1, y3.1, y4.1])
      rw [d0, d1, d2, x3]
      simp only [Rows.uptoBulk, Rows.uptoBulkAll, Array.length_toList]
      have e : s.data.size = s.size := rfl
      omega
    · obtain ⟨l, A, c, e, hlc, hv, hq, hb⟩ := slice_genB (α := Val) ht cellsVal bytesVal (by decide) (VCells w (fun _ => True)) (fun v => szV v ∧ rgV v) bkV (fun m cs' y hm hk hy => by
        obtain rfl : m = n := by omega
        exact ih1 cs' y hk hy) hwt h
      exact ⟨l, A, c, e, hlc, hv, szL_ofV (fun v hv => (hq v hv).1), rgL_of (fun v hv => (hq v hv).2), by rw [bkL_sum]; exact hb⟩
set_option maxRecDepth 100000 in
theorem top_row {r : Reach} {b0 : Nat} {v : Value} {dd : DataW H} {p : List MemPlace} (hw : Value.okWide Tryz.prog w r b0 24 v) (hwt : ∀ k ∈ dd.weights Tryz.prog 24, k ≤ reachBytes) (h : DataW.Trod enc Tryz.prog w base spare held 24 v dd p) : ∃ (l : List Val) (A : Option Addr) (c : Nat), v = .slice A l.length c ∧ Vals w (fun _ => True) A l ∧ szL l := by
  obtain ⟨fuel, hf⟩ := h
  obtain ⟨A', n', c', rfl⟩ := okWide_slice Tryz.underlying24 hw
  obtain ⟨l, A, c, e, -, h2, h3, -⟩ := (open_bothB fuel).2 _ _ _ Tryz.underlying24 hwt hf
  exact ⟨l, A, c, by simpa [Value.cells] using e, h2, h3⟩
set_option maxRecDepth 100000 in
theorem open_sg {fuel : Nat} {cs : List Value} {x : DataW H × List MemPlace} (hwt : ∀ k ∈ x.1.weights Tryz.prog 38, k ≤ reachBytes) (h : DataW.trod enc Tryz.prog w base spare held fuel 38 cs = some x) : ∃ v : Sg, (rgL v.1 ∧ szL v.1 ∧ inW v.2) ∧ bkL v.1 ≤ Rows.uptoBulk x.1 ∧ ∀ b o, (∀ j u, cs[j]? = some u → w.cell? ⟨b, o + j, none⟩ = some u) → SgC w (fun _ => True) b o v := by
  obtain ⟨xs, m, hm, rfl, hl, hlen, hg⟩ := DataW.trod_struct Tryz.underlying38 h
  rw [cellsSg] at hl
  obtain ⟨c0, c1, rfl⟩ := two hl
  obtain ⟨y0, y1, rfl⟩ := two (show xs.length = 2 from hlen)
  have g0 : DataW.trod enc Tryz.prog w base spare held m 24 (([c0, c1].drop 0).take (Tryz.prog.cellsOf 24)) = some y0 := hg 0 _ rfl
  rw [cellsRow] at g0
  have g1 : DataW.trod enc Tryz.prog w base spare held m 3 (([c0, c1].drop 1).take (Tryz.prog.cellsOf 3)) = some y1 := hg 1 _ rfl
  rw [cellsInt] at g1
  have hwe : ∀ k ∈ DataW.weightsEach Tryz.prog [24, 3] [y0.1, y1.1], k ≤ reachBytes := fun k hk => hwt k (by
    simp only [DataW.weights, Tryz.underlying38]
    exact hk)
  obtain ⟨l, A, c, e0, hlc, hv, hsz, hrg, hbk⟩ := (open_bothB m).2 _ _ _ Tryz.underlying24 (fun k hk => hwe k (DataW.weights_mem_each (j := 0) rfl rfl k hk)) g0
  obtain ⟨k1, e1, d1, f1⟩ := DataW.trod_int (k := .i64) Tryz.underlying3 g1
  cases e0; cases e1
  refine ⟨(l, k1), ⟨hrg, hsz, in_wf f1⟩, ?_, fun b o hc => ⟨trivial, ⟨A, c, hc 0 _ rfl, hlc, hv⟩, hc 1 _ rfl⟩⟩
  show bkL l ≤ Rows.uptoBulk (.agg [y0.1, y1.1])
  simp only [Rows.uptoBulk, Rows.uptoBulkAll]
  omega
theorem sum_mem {α : Type} (μ : α → Nat) {l : List α} {x : α} (h : x ∈ l) : μ x ≤ (l.map μ).sum := by
  induction l with
  | nil => cases h
  | cons y l ih =>
    rw [List.map_cons, List.sum_cons]
    rcases List.mem_cons.1 h with e | e
    · rw [e]; omega
    · have := ih e; omega
set_option maxRecDepth 100000 in
theorem top_bag {r : Reach} {b0 : Nat} {v : Value} {dd : DataW H} {p : List MemPlace} (hw : Value.okWide Tryz.prog w r b0 22 v) (hwt : ∀ k ∈ dd.weights Tryz.prog 22, k ≤ reachBytes) (h : DataW.Trod enc Tryz.prog w base spare held 22 v dd p) (hb : Rows.uptoBulk dd ≤ 1048576) : ∃ (z : List Sg) (A : Option Addr) (c : Nat), v = .slice A z.length c ∧ Bag w (fun _ => True) A z ∧ OkZ z ∧ RgZ z := by
  obtain ⟨fuel, hf⟩ := h
  obtain ⟨A', n', c', rfl⟩ := okWide_slice Tryz.underlying22 hw
  obtain ⟨l, A, c, e, h1, h2, h3, h4⟩ := slice_genB (α := Sg) Tryz.underlying22 cellsSg bytesSg (by decide) (SgC w (fun _ => True)) (fun v => rgL v.1 ∧ szL v.1 ∧ inW v.2) (fun v => bkL v.1) (fun _ _ _ _ hk hy => open_sg hk hy) hwt hf
  refine ⟨l, A, c, by simpa [Value.cells] using e, h2, fun x hx => ⟨(h3 x hx).1, (h3 x hx).2.1, ?_⟩, fun x hx => (h3 x hx).2.2⟩
  have h5 := sum_mem (fun v : Sg => bkL v.1) hx
  have h6 : (l.map (fun v : Sg => bkL v.1)).sum + 1 ≤ Rows.uptoBulk dd := h4
  omega
set_option maxRecDepth 100000 in
theorem top_rows {r : Reach} {b0 : Nat} {v : Value} {dd : DataW H} {p : List MemPlace} (hw : Value.okWide Tryz.prog w r b0 27 v) (hwt : ∀ k ∈ dd.weights Tryz.prog 27, k ≤ reachBytes) (h : DataW.Trod enc Tryz.prog w base spare held 27 v dd p) (hb : Rows.uptoBulk dd ≤ 1048576) : ∃ (l : List (List Val)) (A : Option Addr) (c : Nat), v = .slice A l.length c ∧ Rows w (fun _ => True) A l ∧ OkZ (onesZ l) := by
  obtain ⟨fuel, hf⟩ := h
  obtain ⟨A', n', c', rfl⟩ := okWide_slice Tryz.underlying27 hw
  obtain ⟨l, A, c, e, h1, h2, h3, h4⟩ := slice_genB (α := List Val) Tryz.underlying27 cellsRow bytesRow (by decide) (RowC w (fun _ => True)) (fun v => rgL v ∧ szL v) bkL (fun n cs' y _ hk hy => by
    obtain ⟨l, A, c, e, a1, a2, a3, a4, a5⟩ := (open_bothB n).2 _ _ _ Tryz.underlying24 hk hy
    subst e
    exact ⟨l, ⟨a4, a3⟩, by omega, fun b o hc => ⟨trivial, A, c, hc 0 _ rfl, a1, a2⟩⟩) hwt hf
  refine ⟨l, A, c, by simpa [Value.cells] using e, h2, fun x hx => ?_⟩
  obtain ⟨r, hr, rfl⟩ := List.mem_map.1 hx
  have h5 := sum_mem bkL hr
  have h6 : (l.map bkL).sum + 1 ≤ Rows.uptoBulk dd := h4
  exact ⟨(h3 r hr).1, (h3 r hr).2, by show bkL r ≤ 1048576; omega⟩
end
end Go.Proofs.YtgojggmjajlbpaaGreatDoor
