/- PARTS OF THE WALKS, joined: Kc, Kd, Ke. -/
import Derived.Test.YtbjddimafilflaaGreatDoorP22
import Derived.Test.YtbjddimafilflaaGreatDoorP19
import Derived.Test.YtbjddimafilflaaGreatDoorP20
/- THE WALKS over the reference's rest, cols, glued and has. -/
namespace Go.Proofs.YtbjddimafilflaaGreatDoor
open Go.RowKit Go.Sort
set_option maxRecDepth 100000 in
set_option maxHeartbeats 1600000 in
theorem r_rest (la lb : List ByteArray) (y : List Val) (ok ok' oky : Nat → Prop) (A A' B B' Y : Option Addr) (c c' m d m' d' cy : Nat) (w : World) (ha : Strs w ok A la) (hb : Strs w ok' A' lb) (hy : Vals w oky Y y) (hly : y.length = lb.length) (hl : y.length ≤ 8000000) :
    Calls Tryz.prog 58 #[.agg #[.slice A la.length c, .slice B m d], .agg #[.slice A' lb.length c', .slice B' m' d'], .slice Y y.length cy] w fun e w' => ∃ A2 c2, e = .returned (.slice A2 (restJ la lb y).length c2) ∧ (restJ la lb y).length ≤ c2 ∧ Vals w' (fun b => oky b ∨ w.heap.size ≤ b) A2 (restJ la lb y) ∧ Ext w w' := by
  obtain ⟨q, w2, hq, hw2, q0, q1, p0, p1, hxw⟩ := box_tab2 w A B A' B' la.length c m d lb.length c' m' d' 25 25
  have hm := hb.len
  have HA := Lib.hid (ha.ext hxw)
  have HB := Lib.hid (hb.ext hxw)
  have HY := Lib.hid (hy.ext hxw)
  have HLY := Lib.hid hly
  have hyl : ¬ y.length < lb.length := by omega
  have HR := Lib.hid (show restJ la lb y = partJ y (othersK la lb lb.length) from rfl)
  have HW2 := Lib.hid hw2
  have HG := Lib.hid hq
  clear ha hb hy hly hw2 hq
  go_enter Tryz.func58, Tryz.ntmps58
  go_upto_region 1 with (fail)
  rw [← HW2.out, ← HG.out]
  clear HW2
  go_wp2_with fail
  go_loopw [7, 8] (fun v u W => ∃ (k : Nat) (cs : List (List Value)), u = .int .i64 k ∧ k ≤ lb.length ∧ Hid (W.ownsRow w2.heap.size 40 5 v (partJ y (othersK la lb k)).length cs.flatten) ∧ Hid (cs.length = (partJ y (othersK la lb k)).length) ∧ Hid (CopyTo w2 oky (partJ y (othersK la lb k)) cs) ∧ Hid (Ext w2 W)) (fun _ u _ => lb.length - (intOf u).toNat)
  case atStart => exact ⟨0, [], rfl, Nat.zero_le _, Lib.hid (World.ownsRow_nil _ _ _ _), Lib.hid rfl, Lib.hid (CopyTo.nil _ _ _), Lib.hid (Ext.refl _)⟩
  case round =>
    obtain ⟨k, cs, rfl, hk, hown, hcl, hct, hE⟩ := hrel
    have s0 := hE.out.cell q0
    have t0 := hE.out.cell p0
    by_cases hlt : k < lb.length
    · obtain ⟨ba, oa, rfl, hca⟩ := HB.out.2 (by omega)
      have h5 := (hca k hlt).2
      rw [Nat.mul_one] at h5
      have d0 := hE.out.cell h5
      have HC := Lib.hid (fun W (e : Ext wr W) => r_column la lb[k] ok A c W (HA.out.ext (hE.out.trans e)))
      have HP := Lib.hid (show lb[k]! = lb[k] from getElem!_pos lb k hlt)
      have HZ := Lib.hid (idxF_pos la lb[k])
      have hky : k < y.length := by omega
      obtain ⟨by_, oy, rfl, hcy⟩ := HY.out.2 (by omega)
      obtain ⟨-, Ay, ey, h5y, hley, hvy⟩ := VCells.iff.1 (hcy k hky)
      have HYK := Lib.hid (show y[k]! = y[k] from getElem!_pos y k hky)
      have HVY := Lib.hid hvy
      have H5Y := Lib.hid h5y
      clear hca h5 hcy h5y hvy
      generalize lb[k] = s at *
      generalize y[k] = yk at *
      generalize idxF (fun t => decide (s = t)) la = z at *
      go_upto_region 5 with (fail)
      (have MKR1 := Lib.hid (fun V (e : Ext wr V) => (⟨e.cell s0, e.cell t0, e.cell d0, e⟩ : V.cell? ⟨q, 0, none⟩ = some (.slice A la.length c) ∧ V.cell? ⟨q + 1, 0, none⟩ = some (.slice (some ⟨ba, oa, none⟩) lb.length c') ∧ V.cell? ⟨ba, oa + k, none⟩ = some (.string s) ∧ Ext wr V)); go_region_held3 (fun V => V.cell? ⟨q, 0, none⟩ = some (.slice A la.length c) ∧ V.cell? ⟨q + 1, 0, none⟩ = some (.slice (some ⟨ba, oa, none⟩) lb.length c') ∧ V.cell? ⟨ba, oa + k, none⟩ = some (.string s) ∧ Ext wr V) ((exact MKR1.out _ (by repeat (first | with_reducible exact Ext.refl _ | with_reducible assumption | with_reducible refine Ext.drew ?_ | with_reducible refine Ext.drewN ?_ _ | with_reducible refine Ext.alloc ?_ _)))) ((with_reducible refine (HC.out _ (by repeat (first | with_reducible exact Ext.refl _ | with_reducible assumption | with_reducible refine Ext.drew ?_ | with_reducible refine Ext.drewN ?_ _ | with_reducible refine Ext.alloc ?_ _))).mono ?_; rintro e w3 ⟨rfl, hx3⟩; replace hx3 : Ext wr w3 := Ext.trans (by repeat (first | with_reducible exact Ext.refl _ | with_reducible assumption | with_reducible refine Ext.drew ?_ | with_reducible refine Ext.drewN ?_ _ | with_reducible refine Ext.alloc ?_ _)) hx3)); clear MKR1)
      clear ‹_ ∧ _› HC s0 t0 d0
      have hE3 := Lib.hid (hE.out.trans hx3)
      have hown3 := Lib.hid (own_ext hown.out hx3)
      clear hx3 hown hE
      cases hpos : posJ la s with
      | some j =>
        have hz := HZ.out
        rw [hpos] at hz
        have hz2 : z = (j : Int) := hz
        subst hz2
        have HO := Lib.hid (othersK_some (a := la) (b := lb) (k := k) (i := j) (by rw [HP.out]; exact hpos))
        clear hpos HZ hz H5Y HVY HP HYK
        go_wp2_with fail
        go_roundw
        case rel => exact ⟨k + 1, cs, by go_num, by omega, by rw [HO.out]; exact hown3, by rw [HO.out]; exact hcl, by rw [HO.out]; exact hct, hE3⟩
        case measure => simp [intOf]; omega
      | none =>
        have hz := HZ.out
        rw [hpos] at hz
        subst hz
        have HO := Lib.hid (show partJ y (othersK la lb (k + 1)) = partJ y (othersK la lb k) ++ [yk] by rw [othersK_none (a := la) (b := lb) (k := k) (by rw [HP.out]; exact hpos)]; unfold partJ; rw [List.map_append, List.map_cons, List.map_nil, HYK.out])
        obtain ⟨e0, e1, e2, e3, e4⟩ := H5Y.out.ext hE3.out
        have HCT := Lib.hid (hct.out.snoc hcl.out yk hley HVY.out)
        have hkb : (partJ y (othersK la lb k)).length + 1 ≤ 8388608 := by
          have := othersK_len (a := la) (b := lb) (k := k)
          unfold partJ
          rw [List.length_map]
          omega
        have hown' := hown3.out
        have hE' := hE3.out
        clear hpos HZ HP HYK HVY H5Y hct hown3 hE3
        generalize partJ y (othersK la lb k) = pk at *
        go_wp2_with (at_builtin; refine own_pushF T_rowV rfl (.tmp 25) (.tmp 30) rfl w2 w3 _ pk.length _ (yk.cells Ay ey) rfl hown' hE' rfl rfl rfl (Val.cells_one _ _ _) hkb (by decide) ?_; intro v2 w9 hown2 hE9 hF9)
        clear hF9
        have HO2 := Lib.hid (show w9.ownsRow w2.heap.size 40 5 v2 (partJ y (othersK la lb (k + 1))).length (cs ++ [yk.cells Ay ey]).flatten by rw [HO.out, List.flatten_append, List.length_append]; simpa using hown2)
        have HE9 := Lib.hid hE9
        go_roundw
        case rel => exact ⟨k + 1, cs ++ [yk.cells Ay ey], by go_num, by omega, HO2, Lib.hid (by rw [HO.out, List.length_append, List.length_append, hcl.out]; rfl), Lib.hid (by rw [HO.out]; exact HCT.out), HE9⟩
        case measure => simp [intOf]; omega
    · have hkl : k = lb.length := by omega
      have HX := Lib.hid ((hct.out.ext hE.out).fin (ok' := fun b => oky b ∨ w.heap.size ≤ b) hown.out hcl.out (by
        have := othersK_len (a := la) (b := lb) (k := k)
        unfold partJ
        rw [List.length_map]
        omega) (fun _ h => .inl h) (fun b h => .inr (Nat.le_trans hxw.le h)))
      rw [hkl, ← HR.out] at HX
      have HE := Lib.hid hE.out
      clear hown hct hcl hE hkl
      go_wp2_with fail
      obtain ⟨A9, c9, e9, h9, hV9⟩ := HX.out
      subst e9
      go_ret
      exact ⟨A9, c9, rfl, h9, hV9, hxw.trans HE.out⟩
set_option maxRecDepth 100000 in
set_option maxHeartbeats 1600000 in
theorem r_cols (la lb : List ByteArray) (ok ok' : Nat → Prop) (A A' B B' : Option Addr) (c c' m d m' d' : Nat) (w : World) (ha : Strs w ok A la) (hb : Strs w ok' A' lb) (hla : la.length ≤ 4000000) (hlb : lb.length ≤ 4000000) :
    Calls Tryz.prog 38 #[.agg #[.slice A la.length c, .slice B m d], .agg #[.slice A' lb.length c', .slice B' m' d']] w fun e w' => ∃ A2 c2, e = .returned (.slice A2 (colsJ la lb).length c2) ∧ (colsJ la lb).length ≤ c2 ∧ Strs w' (fun b => w.heap.size ≤ b) A2 (colsJ la lb) ∧ Ext w w' := by
  obtain ⟨q, w2, hq, hw2, q0, q1, p0, p1, hxw⟩ := box_tab2 w A B A' B' la.length c m d lb.length c' m' d' 25 25
  have hm := hb.len
  have HA := Lib.hid (ha.ext hxw)
  have HB := Lib.hid (hb.ext hxw)
  have hNW := (ha.ext hxw).news
  have hA0 := Lib.hid (fun e => ha.none_ e)
  have HR := Lib.hid (show colsJ la lb = la ++ (othersK la lb lb.length).map (lb[·]!) from rfl)
  have HW2 := Lib.hid hw2
  have HG := Lib.hid hq
  have HNW := Lib.hid hNW
  have HS0 := Lib.hid (show ∀ u ∈ la.map Value.string, u.oneCell' = true from fun u hu => by obtain ⟨s, -, rfl⟩ := List.mem_map.1 hu; rfl)
  have HL0 := Lib.hid (show (la.map Value.string).length = la.length * 1 by simp)
  clear ha hb hw2 hq hNW
  go_enter Tryz.func38, Tryz.ntmps38
  go_upto_region 1 with (fail)
  rw [← HW2.out, ← HG.out]
  clear HW2
  have hzl : 0 + la.length ≤ 8388608 := by omega
  go_wp2_with (at_builtin; refine own_appendA T_str rfl (.tmp 7) (.tmp 9) rfl w2 _ 0 [] rfl (World.ownsRow_nil _ _ _ _) (Ext.refl _) A la.length c (la.map Value.string) rfl hA0.out HL0.out HNW.out HS0.out hzl (by decide) ?_; intro v2 w9 hown2 hE9)
  have hown3 := Lib.hid (show w9.ownsRow w2.heap.size 9 1 v2 (la ++ (othersK la lb 0).map (lb[·]!)).length ((la ++ (othersK la lb 0).map (lb[·]!)).map Value.string) by simpa [othersK] using hown2)
  have HE9 := Lib.hid hE9
  clear hown2 hE9
  go_loopw [5, 6] (fun v u W => ∃ (k : Nat), u = .int .i64 k ∧ k ≤ lb.length ∧ Hid (W.ownsRow w2.heap.size 9 1 v (la ++ (othersK la lb k).map (lb[·]!)).length ((la ++ (othersK la lb k).map (lb[·]!)).map Value.string)) ∧ Hid (Ext w2 W)) (fun _ u _ => lb.length - (intOf u).toNat)
  case atStart => exact ⟨0, rfl, Nat.zero_le _, hown3, HE9⟩
  case round =>
    clear hown3 HE9
    obtain ⟨k, rfl, hk, hown, hE⟩ := hrel
    have s0 := hE.out.cell q0
    have t0 := hE.out.cell p0
    by_cases hlt : k < lb.length
    · obtain ⟨ba, oa, rfl, hca⟩ := HB.out.2 (by omega)
      have h5 := (hca k hlt).2
      rw [Nat.mul_one] at h5
      have D0 := Lib.hid h5
      have d0 := hE.out.cell h5
      have HC := Lib.hid (fun W (e : Ext wr W) => r_column la lb[k] ok A c W (HA.out.ext (hE.out.trans e)))
      have HP := Lib.hid (show lb[k]! = lb[k] from getElem!_pos lb k hlt)
      have HZ := Lib.hid (idxF_pos la lb[k])
      clear hca h5
      generalize lb[k] = s at *
      generalize idxF (fun t => decide (s = t)) la = z at *
      go_upto_region 6 with (fail)
      (have MKR2 := Lib.hid (fun V (e : Ext wr V) => (⟨e.cell s0, e.cell t0, e.cell d0, e⟩ : V.cell? ⟨q, 0, none⟩ = some (.slice A la.length c) ∧ V.cell? ⟨q + 1, 0, none⟩ = some (.slice (some ⟨ba, oa, none⟩) lb.length c') ∧ V.cell? ⟨ba, oa + k, none⟩ = some (.string s) ∧ Ext wr V)); go_region_held3 (fun V => V.cell? ⟨q, 0, none⟩ = some (.slice A la.length c) ∧ V.cell? ⟨q + 1, 0, none⟩ = some (.slice (some ⟨ba, oa, none⟩) lb.length c') ∧ V.cell? ⟨ba, oa + k, none⟩ = some (.string s) ∧ Ext wr V) ((exact MKR2.out _ (by repeat (first | with_reducible exact Ext.refl _ | with_reducible assumption | with_reducible refine Ext.drew ?_ | with_reducible refine Ext.drewN ?_ _ | with_reducible refine Ext.alloc ?_ _)))) ((with_reducible refine (HC.out _ (by repeat (first | with_reducible exact Ext.refl _ | with_reducible assumption | with_reducible refine Ext.drew ?_ | with_reducible refine Ext.drewN ?_ _ | with_reducible refine Ext.alloc ?_ _))).mono ?_; rintro e w3 ⟨rfl, hx3⟩; replace hx3 : Ext wr w3 := Ext.trans (by repeat (first | with_reducible exact Ext.refl _ | with_reducible assumption | with_reducible refine Ext.drew ?_ | with_reducible refine Ext.drewN ?_ _ | with_reducible refine Ext.alloc ?_ _)) hx3)); clear MKR2)
      clear ‹_ ∧ _› HC s0 t0 d0
      have hE3 := Lib.hid (hE.out.trans hx3)
      have hown3 := Lib.hid (own_ext hown.out hx3)
      clear hx3 hown hE
      cases hpos : posJ la s with
      | some j =>
        have hz := HZ.out
        rw [hpos] at hz
        have hz2 : z = (j : Int) := hz
        subst hz2
        have HO := Lib.hid (othersK_some (a := la) (b := lb) (k := k) (i := j) (by rw [HP.out]; exact hpos))
        clear hpos HZ hz HP D0
        go_wp2_with fail
        go_roundw
        case rel => exact ⟨k + 1, by go_num, by omega, by rw [HO.out]; exact hown3, hE3⟩
        case measure => simp [intOf]; omega
      | none =>
        have hz := HZ.out
        rw [hpos] at hz
        subst hz
        have HO := Lib.hid (show la ++ (othersK la lb (k + 1)).map (lb[·]!) = (la ++ (othersK la lb k).map (lb[·]!)) ++ [s] by rw [othersK_none (a := la) (b := lb) (k := k) (by rw [HP.out]; exact hpos), List.map_append, List.map_cons, List.map_nil, HP.out, List.append_assoc])
        have hkb : (la ++ (othersK la lb k).map (lb[·]!)).length + 1 ≤ 8388608 := by
          have := othersK_len (a := la) (b := lb) (k := k)
          rw [List.length_append, List.length_map]
          omega
        have hown' := hown3.out
        have hE' := hE3.out
        have s0 := hE'.cell q0
        have t0 := hE'.cell p0
        have d0 := hE'.cell D0.out
        clear hpos HZ HP hown3 hE3
        generalize la ++ (othersK la lb k).map (lb[·]!) = pk at *
        go_wp2_with (at_builtin; refine own_pushF T_str rfl (.tmp 27) (.tmp 33) rfl w2 w3 _ pk.length _ [.string s] rfl hown' hE' rfl rfl rfl (by simp [Value.oneCell']) hkb (by decide) ?_; intro v2 w9 hown2 hE9 hF9)
        clear hF9
        have HO2 := Lib.hid (show w9.ownsRow w2.heap.size 9 1 v2 (la ++ (othersK la lb (k + 1)).map (lb[·]!)).length ((la ++ (othersK la lb (k + 1)).map (lb[·]!)).map Value.string) by rw [HO.out, List.map_append, List.length_append]; exact hown2)
        have HE9 := Lib.hid hE9
        go_roundw
        case rel => exact ⟨k + 1, by go_num, by omega, HO2, HE9⟩
        case measure => simp [intOf]; omega
    · have hkl : k = lb.length := by omega
      have HX := Lib.hid (own_strs hown.out (by
        have := othersK_len (a := la) (b := lb) (k := k)
        rw [List.length_append, List.length_map]
        omega))
      rw [hkl, ← HR.out] at HX
      have HE := Lib.hid hE.out
      clear hown hE hkl
      go_wp2_with fail
      obtain ⟨A9, c9, e9, h9, hV9⟩ := HX.out
      subst e9
      go_ret
      exact ⟨A9, c9, rfl, h9, SliceR.mono hV9 (fun _ _ _ _ hx => ⟨Nat.le_trans hxw.le hx.1, hx.2⟩), hxw.trans HE.out⟩
set_option maxRecDepth 100000 in
set_option maxHeartbeats 1600000 in
theorem r_glued (r s : List Val) (ok ok' : Nat → Prop) (A B : Option Addr) (c d : Nat) (w : World) (hr : Vals w ok A r) (hs : Vals w ok' B s) (hlr : r.length ≤ 4000000) (hls : s.length ≤ 4000000) :
    Calls Tryz.prog 44 #[.slice A r.length c, .slice B s.length d] w fun e w' => ∃ A2 c2, e = .returned (.slice A2 (r ++ s).length c2) ∧ (r ++ s).length ≤ c2 ∧ Vals w' (fun b => (ok b ∨ ok' b) ∨ w.heap.size ≤ b) A2 (r ++ s) ∧ Ext w w' := by
  obtain ⟨cs, hcl, hct, hcc⟩ := hr.flat
  obtain ⟨ds, hdl, hdt, hdc⟩ := hs.flat
  have HC := Lib.hid hcc
  have HD := Lib.hid hdc
  have HT := Lib.hid (hct.app (ok := fun b => ok b ∨ ok' b) hdt hcl (fun _ h => .inl h) (fun _ h => .inr h))
  have HCL := Lib.hid (show cs.flatten.length = r.length * 5 by rw [flatten_len hct.size, hcl])
  have HDL := Lib.hid (show ds.flatten.length = s.length * 5 by rw [flatten_len hdt.size, hdl])
  have HC1 := Lib.hid hct.one
  have HD1 := Lib.hid hdt.one
  have HLL := Lib.hid (show (cs ++ ds).length = (r ++ s).length by rw [List.length_append, List.length_append, hcl, hdl])
  have hA0 := Lib.hid (fun e => hr.none_ e)
  have hB0 := Lib.hid (fun e => hs.none_ e)
  have HRS := Lib.hid (show (r ++ s).length = r.length + s.length by rw [List.length_append])
  obtain ⟨n, hn⟩ : ∃ n, n = r.length := ⟨_, rfl⟩
  obtain ⟨m, hm⟩ : ∃ m, m = s.length := ⟨_, rfl⟩
  rw [← hn] at HCL hlr HRS hA0 ⊢
  rw [← hm] at HDL hls HRS hB0 ⊢
  clear hct hdt hcc hdc hr hs hcl hdl hn hm
  generalize r ++ s = rs at *
  have h1 : 0 + n ≤ 8388608 := by omega
  have h2 : n + m ≤ 8388608 := by omega
  go_enter Tryz.func44, Tryz.ntmps44
  go_upto_region 3 with (at_builtin; refine own_appendA T_rowV rfl (.tmp 6) (.tmp 7) rfl w _ 0 [] rfl (World.ownsRow_nil _ _ _ _) (Ext.refl _) A n c cs.flatten rfl hA0.out HCL.out HC.out HC1.out h1 (by decide) ?_; intro v2 w9 hown2 hE9)
  rw [Nat.zero_add, List.nil_append] at hown2
  go_wp2_with (at_builtin; refine own_appendA T_rowV rfl (.tmp 9) (.tmp 10) rfl w _ n cs.flatten rfl hown2 hE9 B m d ds.flatten rfl hB0.out HDL.out (fun ad e j u hu => hE9.cell (HD.out ad e j u hu)) HD1.out h2 (by decide) ?_; intro v3 w8 hown3 hE8)
  have HX := Lib.hid ((HT.out.ext hE8).fin (ok' := fun b => (ok b ∨ ok' b) ∨ w.heap.size ≤ b) (by rw [HRS.out, List.flatten_append]; exact hown3) HLL.out (by rw [HRS.out]; omega) (fun _ h => .inl h) (fun _ h => .inr h))
  obtain ⟨A9, c9, e9, h9, hV9⟩ := HX.out
  subst e9
  go_ret
  exact ⟨A9, c9, rfl, h9, hV9, hE8⟩
set_option maxRecDepth 100000 in
set_option maxHeartbeats 1600000 in
theorem r_has (a b : Tab) (x : List Val) (ok ok' okx : Nat → Prop) (A A' B B' X : Option Addr) (c c' d d' cx : Nat) (w : World) (ha : TabAt w ok A B a) (hb : TabAt w ok' A' B' b) (hx : Vals w okx X x) (hlx : x.length = a.cols.length) (hsx : szL x) (hrb : ∀ r ∈ b.rows, r.length = b.cols.length ∧ szL r) :
    Calls Tryz.prog 42 #[.agg #[.slice A a.cols.length c, .slice B a.rows.length d], .agg #[.slice A' b.cols.length c', .slice B' b.rows.length d'], .slice X x.length cx] w fun e w' => e = .returned (.bool (b.rows.any (agreeJ a.cols b.cols x))) ∧ Ext w w' := by
  obtain ⟨q, w2, hq, hw2, q0, q1, p0, p1, hxw⟩ := box_tab2 w A B A' B' a.cols.length c a.rows.length d b.cols.length c' b.rows.length d' 25 25
  have hm := hb.rows.len
  have HA := Lib.hid (ha.ext hxw)
  have HB := Lib.hid (hb.ext hxw)
  have HX := Lib.hid (hx.ext hxw)
  have HRB := Lib.hid hrb
  have HLX := Lib.hid hlx
  have HSX := Lib.hid hsx
  have HW2 := Lib.hid hw2
  have HG := Lib.hid hq
  have HY := Lib.hid (fun k (hk : k < b.rows.length) (h : agreeJ a.cols b.cols x b.rows[k] = true) => (List.any_eq_true.2 ⟨_, List.getElem_mem hk, h⟩ : b.rows.any (agreeJ a.cols b.cols x) = true))
  have HN := Lib.hid (fun (h : ∀ k (hk : k < b.rows.length), agreeJ a.cols b.cols x b.rows[k] = false) => (by
    rw [List.any_eq_false]
    intro r hr
    obtain ⟨k, hk, rfl⟩ := List.getElem_of_mem hr
    rw [h k hk]; exact Bool.false_ne_true : b.rows.any (agreeJ a.cols b.cols x) = false))
  generalize b.rows.any (agreeJ a.cols b.cols x) = R at *
  clear ha hb hx hlx hsx hrb hw2 hq
  go_enter Tryz.func42, Tryz.ntmps42
  go_upto_region 1 with (fail)
  rw [← HW2.out, ← HG.out]
  clear HW2 HG
  go_wp2_with fail
  go_loopw [7] (fun u W => ∃ k : Nat, u = .int .i64 k ∧ k ≤ b.rows.length ∧ Hid (∀ i (hi : i < b.rows.length), i < k → agreeJ a.cols b.cols x b.rows[i] = false) ∧ Ext w2 W) (fun u _ => b.rows.length - (intOf u).toNat)
  case atStart => exact ⟨0, rfl, Nat.zero_le _, Lib.hid (fun i _ hi => absurd hi (Nat.not_lt_zero _)), Ext.refl _⟩
  case round =>
    obtain ⟨k, rfl, hk, hgd, hE⟩ := hrel
    have s0 := hE.cell q0
    have s1 := hE.cell q1
    have t0 := hE.cell p0
    have t1 := hE.cell p1
    by_cases hlt : k < b.rows.length
    · obtain ⟨bb, ob, rfl, hc⟩ := HB.out.rows.2 (by omega)
      obtain ⟨-, A2, c2, h5, hle2, hv2⟩ := hc k hlt
      rw [Nat.mul_one] at h5
      have d0 := hE.cell h5
      have hr := HRB.out _ (List.getElem_mem hlt)
      have HC := Lib.hid (fun W (e : Ext wr W) => r_agree a.cols b.cols x b.rows[k] ok ok' okx ok' A A' B (some ⟨bb, ob, none⟩) X A2 c c' a.rows.length d b.rows.length d' cx c2 W (HA.out.cols.ext (hE.trans e)) (HB.out.cols.ext (hE.trans e)) (HX.out.ext (hE.trans e)) (hv2.ext (hE.trans e)) HLX.out hr.1 HSX.out hr.2)
      have HY2 := Lib.hid (HY.out k hlt)
      have HST := Lib.hid (fun (h : agreeJ a.cols b.cols x b.rows[k] = false) i hi (hi2 : i < k + 1) => (if e : i = k then (by subst e; exact h) else hgd.out i hi (by omega) : agreeJ a.cols b.cols x b.rows[i] = false))
      clear hc h5 hv2 hr hgd HY HN
      generalize agreeJ a.cols b.cols x b.rows[k] = z at *
      generalize b.rows[k] = r at *
      go_upto_region 4 with (fail)
      (have MKR3 := Lib.hid (fun V (e : Ext wr V) => (⟨e.cell s0, e.cell s1, e.cell t0, e.cell t1, e.cell d0, e⟩ : V.cell? ⟨q, 0, none⟩ = some (.slice A a.cols.length c) ∧ V.cell? ⟨q, 1, none⟩ = some (.slice B a.rows.length d) ∧ V.cell? ⟨q + 1, 0, none⟩ = some (.slice A' b.cols.length c') ∧ V.cell? ⟨q + 1, 1, none⟩ = some (.slice (some ⟨bb, ob, none⟩) b.rows.length d') ∧ V.cell? ⟨bb, ob + k, none⟩ = some (.slice A2 r.length c2) ∧ Ext wr V)); go_region_held3 (fun V => V.cell? ⟨q, 0, none⟩ = some (.slice A a.cols.length c) ∧ V.cell? ⟨q, 1, none⟩ = some (.slice B a.rows.length d) ∧ V.cell? ⟨q + 1, 0, none⟩ = some (.slice A' b.cols.length c') ∧ V.cell? ⟨q + 1, 1, none⟩ = some (.slice (some ⟨bb, ob, none⟩) b.rows.length d') ∧ V.cell? ⟨bb, ob + k, none⟩ = some (.slice A2 r.length c2) ∧ Ext wr V) ((exact MKR3.out _ (by repeat (first | with_reducible exact Ext.refl _ | with_reducible assumption | with_reducible refine Ext.drew ?_ | with_reducible refine Ext.drewN ?_ _ | with_reducible refine Ext.alloc ?_ _)))) ((with_reducible refine (HC.out _ (by repeat (first | with_reducible exact Ext.refl _ | with_reducible assumption | with_reducible refine Ext.drew ?_ | with_reducible refine Ext.drewN ?_ _ | with_reducible refine Ext.alloc ?_ _))).mono ?_; rintro e w3 ⟨rfl, hx3⟩; replace hx3 : Ext wr w3 := Ext.trans (by repeat (first | with_reducible exact Ext.refl _ | with_reducible assumption | with_reducible refine Ext.drew ?_ | with_reducible refine Ext.drewN ?_ _ | with_reducible refine Ext.alloc ?_ _)) hx3)); clear MKR3)
      clear ‹_ ∧ _› HC
      cases z
      · have HS := Lib.hid (HST.out rfl)
        go_wp2_with fail
        go_roundw
        case rel => exact ⟨k + 1, by go_num, by omega, HS, hE.trans hx3⟩
        case measure => simp [intOf]; omega
      · have HS := Lib.hid (HY2.out rfl)
        go_wp2_with fail
        go_ret
        exact ⟨ret_bool HS.out.symm, hxw.trans (hE.trans hx3)⟩
    · have HS := Lib.hid (HN.out (fun i hi => hgd.out i hi (by omega)))
      go_wp2_with fail
      go_ret
      exact ⟨ret_bool HS.out.symm, hxw.trans hE⟩
end Go.Proofs.YtbjddimafilflaaGreatDoor

/- THE WALKS over the reference's pairs and Natural. -/
namespace Go.Proofs.YtbjddimafilflaaGreatDoor
open Go.RowKit Go.Sort
/-- the rows found so far -/
def accR (a b : Tab) (k j : Nat) : List (List Val) := ((a.rows.take k).flatMap fun x => (b.rows.filter (agreeJ a.cols b.cols x)).map fun y => x ++ restJ a.cols b.cols y) ++ (((b.rows.take j).filter (agreeJ a.cols b.cols a.rows[k]!)).map fun y => a.rows[k]! ++ restJ a.cols b.cols y)
theorem accR_zero (a b : Tab) : accR a b 0 0 = [] := by unfold accR; simp
theorem accR_yes {a b : Tab} {k j : Nat} (hj : j < b.rows.length) (h : agreeJ a.cols b.cols a.rows[k]! b.rows[j] = true) : accR a b k (j + 1) = accR a b k j ++ [a.rows[k]! ++ restJ a.cols b.cols b.rows[j]] := by
  unfold accR
  rw [List.take_succ_eq_append_getElem hj, List.filter_append, List.map_append, List.append_assoc]
  congr 2
  simp only [List.filter_cons, h, if_true, List.filter_nil, List.map_cons, List.map_nil]
theorem accR_no {a b : Tab} {k j : Nat} (hj : j < b.rows.length) (h : agreeJ a.cols b.cols a.rows[k]! b.rows[j] = false) : accR a b k (j + 1) = accR a b k j := by
  unfold accR
  rw [List.take_succ_eq_append_getElem hj, List.filter_append]
  simp only [List.filter_cons, h, List.filter_nil, Bool.false_eq_true, if_false, List.append_nil]
theorem accR_next {a b : Tab} {k : Nat} (hk : k < a.rows.length) : accR a b k b.rows.length = accR a b (k + 1) 0 := by
  unfold accR
  rw [List.take_succ_eq_append_getElem hk, List.flatMap_append, List.take_length, getElem!_pos a.rows k hk]
  simp
theorem accR_end (a b : Tab) : accR a b a.rows.length 0 = natR a b := by
  unfold accR natR
  rw [List.take_length]
  simp
theorem flatMap_len {α β : Type} (f : α → List β) (m : Nat) : ∀ l : List α, (∀ x ∈ l, (f x).length ≤ m) → (l.flatMap f).length ≤ l.length * m
  | [], _ => by simp
  | x :: l, h => by
    rw [List.flatMap_cons, List.length_append, List.length_cons, Nat.succ_mul]
    have h1 := h x (by simp)
    have h2 := flatMap_len f m l (fun y hy => h y (by simp [hy]))
    omega
theorem accR_len (a b : Tab) (k j : Nat) : (accR a b k j).length ≤ k * b.rows.length + j := by
  unfold accR
  rw [List.length_append, List.length_map]
  have h1 := flatMap_len (fun x => (b.rows.filter (agreeJ a.cols b.cols x)).map fun y => x ++ restJ a.cols b.cols y) b.rows.length (a.rows.take k) (fun x _ => by rw [List.length_map]; exact List.length_filter_le _ _)
  have h2 := List.length_filter_le (agreeJ a.cols b.cols a.rows[k]!) (b.rows.take j)
  rw [List.length_take] at h1 h2
  have h3 : min k a.rows.length * b.rows.length ≤ k * b.rows.length := Nat.mul_le_mul_right _ (Nat.min_le_left _ _)
  have h4 : min j b.rows.length ≤ j := Nat.min_le_left _ _
  omega
theorem accR_small {a b : Tab} {k j : Nat} (hk : k ≤ 2000) (hb : b.rows.length ≤ 2000) (hj : j ≤ 2000) : (accR a b k j).length ≤ 4002000 := by
  have h1 := accR_len a b k j
  have h2 : k * b.rows.length ≤ 2000 * 2000 := Nat.mul_le_mul hk hb
  omega
theorem rest_len (a b : List ByteArray) (y : List Val) : (restJ a b y).length ≤ b.length := by
  unfold restJ partJ
  rw [List.length_map]; exact othersK_len
/-- what is asked of a table's rows -/
def TabOk (t : Tab) : Prop := ∀ r ∈ t.rows, r.length = t.cols.length ∧ szL r
set_option maxRecDepth 100000 in
set_option maxHeartbeats 3200000 in
theorem r_pairsO (a b : Tab) (ok ok' : Nat → Prop) (A A' B B' : Option Addr) (c c' d d' : Nat) (w : World) (ha : TabAt w ok A B a) (hb : TabAt w ok' A' B' b) (hta : TabOk a) (htb : TabOk b) (hca : a.cols.length ≤ 4000000) (hcb : b.cols.length ≤ 4000000) (hra : a.rows.length ≤ 2000) (hrb : b.rows.length ≤ 2000) :
    Calls Tryz.prog 39 #[.agg #[.slice A a.cols.length c, .slice B a.rows.length d], .agg #[.slice A' b.cols.length c', .slice B' b.rows.length d']] w fun e w' => ∃ v, e = .returned v ∧ OwnRows w' w.heap.size (fun _ => True) v (natR a b) ∧ Ext w w' := by
  obtain ⟨q, w2, hq, hw2, q0, q1, p0, p1, hxw⟩ := box_tab2 w A B A' B' a.cols.length c a.rows.length d b.cols.length c' b.rows.length d' 25 25
  have hm1 := ha.rows.len
  have hm2 := hb.rows.len
  have HA := Lib.hid (show TabAt w2 (okN ok w) A B a from ⟨(show Strs w (okN ok w) A a.cols from SliceR.mono ha.cols (fun _ _ _ _ hx => ⟨⟨hx.1, block_lt_of_cell hx.2⟩, hx.2⟩)).ext hxw, ha.rows.bnd.ext hxw⟩)
  have HB := Lib.hid (show TabAt w2 (okN ok' w) A' B' b from ⟨(show Strs w (okN ok' w) A' b.cols from SliceR.mono hb.cols (fun _ _ _ _ hx => ⟨⟨hx.1, block_lt_of_cell hx.2⟩, hx.2⟩)).ext hxw, hb.rows.bnd.ext hxw⟩)
  have HTA := Lib.hid hta
  have HTB := Lib.hid htb
  have HW2 := Lib.hid hw2
  have HG := Lib.hid hq
  have hle := hxw.le
  clear ha hb hta htb hw2 hq
  go_enter Tryz.func39, Tryz.ntmps39
  go_upto_region 1 with (fail)
  rw [← HW2.out, ← HG.out]
  clear HW2 HG
  go_wp2_with fail
  go_loopw [5, 6] (fun v u W => ∃ (k : Nat), u = .int .i64 k ∧ k ≤ a.rows.length ∧ Hid (OwnRows W w2.heap.size (fun _ => True) v (accR a b k 0)) ∧ Hid (Ext w2 W)) (fun _ u _ => a.rows.length - (intOf u).toNat)
  case atStart => exact ⟨0, rfl, Nat.zero_le _, Lib.hid (by rw [accR_zero]; exact OwnRows.nil _ _ _), Lib.hid (Ext.refl _)⟩
  case round =>
    obtain ⟨k, rfl, hk, hown, hE⟩ := hrel
    have s1 := hE.out.cell q1
    by_cases hlt : k < a.rows.length
    · obtain ⟨ba, oa, rfl, hc⟩ := HA.out.rows.2 (by omega)
      obtain ⟨-, Ax, cx, h5, hlex, hvx⟩ := hc k hlt
      rw [Nat.mul_one] at h5
      have hx := HTA.out _ (List.getElem_mem hlt)
      have HXK := Lib.hid (show a.rows[k]! = a.rows[k] from getElem!_pos a.rows k hlt)
      have HNX := Lib.hid (accR_next (b := b) hlt)
      have HX := Lib.hid hx
      have HVX := Lib.hid hvx
      clear hc hvx hx
      generalize a.rows[k] = x at *
      go_upto_region 6 with (fail)
      go_loopw [5, 7] (fun v u W => ∃ (j : Nat), u = .int .i64 j ∧ j ≤ b.rows.length ∧ Hid (OwnRows W w2.heap.size (fun _ => True) v (accR a b k j)) ∧ Hid (Ext w2 W)) (fun _ u _ => b.rows.length - (intOf u).toNat)
      case atStart => exact ⟨0, rfl, Nat.zero_le _, hown, hE⟩
      case round =>
        clear hown hE s1
        obtain ⟨j, rfl, hj, hown, hE⟩ := hrel
        have t1 := hE.out.cell p1
        by_cases hlj : j < b.rows.length
        · obtain ⟨bb, ob, rfl, hc⟩ := HB.out.rows.2 (by omega)
          obtain ⟨-, Ay, cy, h6, hley, hvy⟩ := hc j hlj
          rw [Nat.mul_one] at h6
          have hy := HTB.out _ (List.getElem_mem hlj)
          have HC := Lib.hid (fun W (e : Ext w2 W) => r_agree a.cols b.cols x b.rows[j] (okN ok w) (okN ok' w) (okN ok w) (okN ok' w) A A' (some ⟨ba, oa, none⟩) (some ⟨bb, ob, none⟩) Ax Ay c c' a.rows.length d b.rows.length d' cx cy W (HA.out.cols.ext e) (HB.out.cols.ext e) (HVX.out.ext e) (hvy.ext e) HX.out.1 hy.1 HX.out.2 hy.2)
          have HRE := Lib.hid (fun W (e : Ext w2 W) => r_rest a.cols b.cols b.rows[j] (okN ok w) (okN ok' w) (okN ok' w) A A' (some ⟨ba, oa, none⟩) (some ⟨bb, ob, none⟩) Ay c c' a.rows.length d b.rows.length d' cy W (HA.out.cols.ext e) (HB.out.cols.ext e) (hvy.ext e) hy.1 (by rw [hy.1]; omega))
          have HYES := Lib.hid (fun h => accR_yes (a := a) (b := b) (k := k) hlj (by rw [HXK.out]; exact h))
          have HNO := Lib.hid (fun h => accR_no (a := a) (b := b) (k := k) hlj (by rw [HXK.out]; exact h))
          rw [HXK.out] at HYES
          have hrl := rest_len a.cols b.cols b.rows[j]
          have HGL := Lib.hid (fun W (e : Ext w2 W) ok2 A4 c4 (h4 : Vals W ok2 A4 (restJ a.cols b.cols b.rows[j])) => r_glued x (restJ a.cols b.cols b.rows[j]) (okN ok w) ok2 Ax A4 cx c4 W (HVX.out.ext e) h4 (by rw [HX.out.1]; omega) (by omega))
          have hsm : (accR a b k j).length ≤ 8000000 := Nat.le_trans (accR_small (by omega) hrb (by omega)) (by decide)
          clear hc hvy hy hrl
          generalize restJ a.cols b.cols b.rows[j] = ry at *
          generalize agreeJ a.cols b.cols x b.rows[j] = z at *
          generalize b.rows[j] = y at *
          have hE' := hE.out
          go_upto_region 8 with (fail)
          (have MKR25 := Lib.hid (fun V (e : Ext w2 V) => (⟨e.cell q0, e.cell q1, e.cell p0, e.cell p1, e.cell h5, e.cell h6, e⟩ : V.cell? ⟨q, 0, none⟩ = some (.slice A a.cols.length c) ∧ V.cell? ⟨q, 1, none⟩ = some (.slice (some ⟨ba, oa, none⟩) a.rows.length d) ∧ V.cell? ⟨q + 1, 0, none⟩ = some (.slice A' b.cols.length c') ∧ V.cell? ⟨q + 1, 1, none⟩ = some (.slice (some ⟨bb, ob, none⟩) b.rows.length d') ∧ V.cell? ⟨ba, oa + k, none⟩ = some (.slice Ax x.length cx) ∧ V.cell? ⟨bb, ob + j, none⟩ = some (.slice Ay y.length cy) ∧ Ext w2 V)); go_region_held3 (fun V => V.cell? ⟨q, 0, none⟩ = some (.slice A a.cols.length c) ∧ V.cell? ⟨q, 1, none⟩ = some (.slice (some ⟨ba, oa, none⟩) a.rows.length d) ∧ V.cell? ⟨q + 1, 0, none⟩ = some (.slice A' b.cols.length c') ∧ V.cell? ⟨q + 1, 1, none⟩ = some (.slice (some ⟨bb, ob, none⟩) b.rows.length d') ∧ V.cell? ⟨ba, oa + k, none⟩ = some (.slice Ax x.length cx) ∧ V.cell? ⟨bb, ob + j, none⟩ = some (.slice Ay y.length cy) ∧ Ext w2 V) ((exact MKR25.out _ (by repeat (first | with_reducible exact Ext.refl _ | with_reducible assumption | with_reducible refine Ext.drew ?_ | with_reducible refine Ext.drewN ?_ _ | with_reducible refine Ext.alloc ?_ _)))) ((with_reducible refine (HC.out _ (by repeat (first | with_reducible exact Ext.refl _ | with_reducible assumption | with_reducible refine Ext.drew ?_ | with_reducible refine Ext.drewN ?_ _ | with_reducible refine Ext.alloc ?_ _))).mono ?_; rintro e w3 ⟨rfl, hx3⟩; have hy3 : Ext wr w3 := Ext.trans (by repeat (first | with_reducible exact Ext.refl _ | with_reducible assumption | with_reducible refine Ext.drew ?_ | with_reducible refine Ext.drewN ?_ _ | with_reducible refine Ext.alloc ?_ _)) hx3; replace hx3 : Ext w2 w3 := Ext.trans (by repeat (first | with_reducible exact Ext.refl _ | with_reducible assumption | with_reducible refine Ext.drew ?_ | with_reducible refine Ext.drewN ?_ _ | with_reducible refine Ext.alloc ?_ _)) hx3)); clear MKR25)
          clear ‹_ ∧ _› HC hE'
          cases z
          · have HNO' := Lib.hid (HNO.out rfl)
            have hO := Lib.hid (hown.out.ext hy3)
            clear HYES HRE HGL HNO hown hE hy3
            go_wp2_with fail
            go_roundw
            case rel => exact ⟨j + 1, by go_num, by omega, by rw [HNO'.out]; exact hO, Lib.hid hx3⟩
            case measure => simp [intOf]; omega
          · have HYES' := Lib.hid (HYES.out rfl)
            have hO := Lib.hid (hown.out.ext hy3)
            clear HYES HNO hown hE t1
            generalize x ++ ry = xr at *
            have hle3 := hx3.le
            go_upto_region 9 with (fail)
            have MKR24 := Lib.hid (fun V (e : Ext w2 V) => (⟨e.cell q0, e.cell q1, e.cell p0, e.cell p1, e.cell h5, e.cell h6, e⟩ : V.cell? ⟨q, 0, none⟩ = some (.slice A a.cols.length c) ∧ V.cell? ⟨q, 1, none⟩ = some (.slice (some ⟨ba, oa, none⟩) a.rows.length d) ∧ V.cell? ⟨q + 1, 0, none⟩ = some (.slice A' b.cols.length c') ∧ V.cell? ⟨q + 1, 1, none⟩ = some (.slice (some ⟨bb, ob, none⟩) b.rows.length d') ∧ V.cell? ⟨ba, oa + k, none⟩ = some (.slice Ax x.length cx) ∧ V.cell? ⟨bb, ob + j, none⟩ = some (.slice Ay y.length cy) ∧ Ext w2 V))
            refine wp_region_held_drew (S := (fun V => V.cell? ⟨q, 0, none⟩ = some (.slice A a.cols.length c) ∧ V.cell? ⟨q, 1, none⟩ = some (.slice (some ⟨ba, oa, none⟩) a.rows.length d) ∧ V.cell? ⟨q + 1, 0, none⟩ = some (.slice A' b.cols.length c') ∧ V.cell? ⟨q + 1, 1, none⟩ = some (.slice (some ⟨bb, ob, none⟩) b.rows.length d') ∧ V.cell? ⟨ba, oa + k, none⟩ = some (.slice Ax x.length cx) ∧ V.cell? ⟨bb, ob + j, none⟩ = some (.slice Ay y.length cy) ∧ Ext w2 V)) (by kernel_rfl) ?hs381 (fun hHeld => ?go381)
            case hs381 => (exact MKR24.out _ (by repeat (first | with_reducible exact Ext.refl _ | with_reducible assumption | with_reducible refine Ext.drew ?_ | with_reducible refine Ext.drewN ?_ _ | with_reducible refine Ext.alloc ?_ _)))
            refine wpAnyH_take (i := 0) (oi := ⟨(some 35), (.move (.tmp 5)), 23, "ref.go:100", #[], none⟩) (v := ?v382) rfl (by kernel_rfl) (by kernel_rfl) (by kernel_rfl) (fun _ _ _ h => h) (Or.inl ⟨rfl, ?hy382⟩) hHeld ?rest382
            case hy382 => (intro w hSw; (try dsimp only at hSw); go_simp <;> first | with_reducible rfl | rw [if_neg (by omega)] | rw [if_pos (by omega)])
            (try simp only [Act.put]); (try simp only [List.setIfInBounds_toArray]); (try simp only [List.set_cons_succ]); (try simp only [List.set_cons_zero])
            refine wpAnyH_take (i := 1) (oi := ⟨(some 36), (.fieldAddr 25 (.tmp 2) 1), 0, "ref.go:100", #[], none⟩) (v := ?v383) rfl (by kernel_rfl) (by kernel_rfl) (by kernel_rfl) (fun _ _ _ h => h) (Or.inl ⟨rfl, ?hy383⟩) hHeld ?rest383
            case hy383 => (intro w hSw; (try dsimp only at hSw); go_simp <;> first | with_reducible rfl | rw [if_neg (by omega)] | rw [if_pos (by omega)])
            (try simp only [Act.put]); (try simp only [List.setIfInBounds_toArray]); (try simp only [List.set_cons_succ]); (try simp only [List.set_cons_zero])
            refine wpAnyH_take (i := 2) (oi := ⟨(some 37), (.load 23 (.tmp 36)), 23, "ref.go:100", #[⟨1, .data⟩], none⟩) (v := ?v384) rfl (by kernel_rfl) (by kernel_rfl) (by kernel_rfl) (fun _ _ _ h => h) (Or.inl ⟨rfl, ?hy384⟩) hHeld ?rest384
            case hy384 => (intro w hSw; (try dsimp only at hSw); go_simp <;> first | with_reducible rfl | rw [if_neg (by omega)] | rw [if_pos (by omega)])
            (try simp only [Act.put]); (try simp only [List.setIfInBounds_toArray]); (try simp only [List.set_cons_succ]); (try simp only [List.set_cons_zero])
            refine wpAnyH_take (i := 3) (oi := ⟨(some 38), (.move (.tmp 6)), 3, "ref.go:100", #[], none⟩) (v := ?v385) rfl (by kernel_rfl) (by kernel_rfl) (by kernel_rfl) (fun _ _ _ h => h) (Or.inl ⟨rfl, ?hy385⟩) hHeld ?rest385
            case hy385 => (intro w hSw; (try dsimp only at hSw); go_simp <;> first | with_reducible rfl | rw [if_neg (by omega)] | rw [if_pos (by omega)])
            (try simp only [Act.put]); (try simp only [List.setIfInBounds_toArray]); (try simp only [List.set_cons_succ]); (try simp only [List.set_cons_zero])
            refine wpAnyH_take (i := 4) (oi := ⟨(some 39), (.indexAddr 23 (.tmp 37) (.tmp 38)), 0, "ref.go:100", #[⟨2, .data⟩, ⟨3, .data⟩], none⟩) (v := ?v386) rfl (by kernel_rfl) (by kernel_rfl) (by kernel_rfl) (fun _ _ _ h => h) (Or.inl ⟨rfl, ?hy386⟩) hHeld ?rest386
            case hy386 => (intro w hSw; (try dsimp only at hSw); go_simp <;> first | with_reducible rfl | rw [if_neg (by omega)] | rw [if_pos (by omega)])
            (try simp only [Act.put]); (try simp only [List.setIfInBounds_toArray]); (try simp only [List.set_cons_succ]); (try simp only [List.set_cons_zero])
            refine wpAnyH_take (i := 5) (oi := ⟨(some 40), (.load 37 (.tmp 39)), 37, "ref.go:100", #[⟨4, .data⟩], none⟩) (v := ?v387) rfl (by kernel_rfl) (by kernel_rfl) (by kernel_rfl) (fun _ _ _ h => h) (Or.inl ⟨rfl, ?hy387⟩) hHeld ?rest387
            case hy387 => (intro w hSw; (try dsimp only at hSw); go_simp <;> first | with_reducible rfl | rw [if_neg (by omega)] | rw [if_pos (by omega)])
            (try simp only [Act.put]); (try simp only [List.setIfInBounds_toArray]); (try simp only [List.set_cons_succ]); (try simp only [List.set_cons_zero])
            refine wpAnyH_take (i := 6) (oi := ⟨(some 41), (.load 25 (.tmp 2)), 25, "ref.go:100", #[], none⟩) (v := ?v388) rfl (by kernel_rfl) (by kernel_rfl) (by kernel_rfl) (fun _ _ _ h => h) (Or.inl ⟨rfl, ?hy388⟩) hHeld ?rest388
            case hy388 => (intro w hSw; (try dsimp only at hSw); go_simp <;> first | with_reducible rfl | rw [if_neg (by omega)] | rw [if_pos (by omega)])
            (try simp only [Act.put]); (try simp only [List.setIfInBounds_toArray]); (try simp only [List.set_cons_succ]); (try simp only [List.set_cons_zero])
            refine wpAnyH_take (i := 7) (oi := ⟨(some 42), (.load 25 (.tmp 3)), 25, "ref.go:100", #[], none⟩) (v := ?v389) rfl (by kernel_rfl) (by kernel_rfl) (by kernel_rfl) (fun _ _ _ h => h) (Or.inl ⟨rfl, ?hy389⟩) hHeld ?rest389
            case hy389 => (intro w hSw; (try dsimp only at hSw); go_simp <;> first | with_reducible rfl | rw [if_neg (by omega)] | rw [if_pos (by omega)])
            (try simp only [Act.put]); (try simp only [List.setIfInBounds_toArray]); (try simp only [List.set_cons_succ]); (try simp only [List.set_cons_zero])
            refine wpAnyH_take (i := 8) (oi := ⟨(some 43), (.fieldAddr 25 (.tmp 3) 1), 0, "ref.go:100", #[], none⟩) (v := ?v390) rfl (by kernel_rfl) (by kernel_rfl) (by kernel_rfl) (fun _ _ _ h => h) (Or.inl ⟨rfl, ?hy390⟩) hHeld ?rest390
            case hy390 => (intro w hSw; (try dsimp only at hSw); go_simp <;> first | with_reducible rfl | rw [if_neg (by omega)] | rw [if_pos (by omega)])
            (try simp only [Act.put]); (try simp only [List.setIfInBounds_toArray]); (try simp only [List.set_cons_succ]); (try simp only [List.set_cons_zero])
            refine wpAnyH_take (i := 9) (oi := ⟨(some 44), (.load 23 (.tmp 43)), 23, "ref.go:100", #[⟨8, .data⟩], none⟩) (v := ?v391) rfl (by kernel_rfl) (by kernel_rfl) (by kernel_rfl) (fun _ _ _ h => h) (Or.inl ⟨rfl, ?hy391⟩) hHeld ?rest391
            case hy391 => (intro w hSw; (try dsimp only at hSw); go_simp <;> first | with_reducible rfl | rw [if_neg (by omega)] | rw [if_pos (by omega)])
            (try simp only [Act.put]); (try simp only [List.setIfInBounds_toArray]); (try simp only [List.set_cons_succ]); (try simp only [List.set_cons_zero])
            refine wpAnyH_take (i := 10) (oi := ⟨(some 45), (.move (.tmp 7)), 3, "ref.go:100", #[], none⟩) (v := ?v392) rfl (by kernel_rfl) (by kernel_rfl) (by kernel_rfl) (fun _ _ _ h => h) (Or.inl ⟨rfl, ?hy392⟩) hHeld ?rest392
            case hy392 => (intro w hSw; (try dsimp only at hSw); go_simp <;> first | with_reducible rfl | rw [if_neg (by omega)] | rw [if_pos (by omega)])
            (try simp only [Act.put]); (try simp only [List.setIfInBounds_toArray]); (try simp only [List.set_cons_succ]); (try simp only [List.set_cons_zero])
            refine wpAnyH_take (i := 11) (oi := ⟨(some 46), (.indexAddr 23 (.tmp 44) (.tmp 45)), 0, "ref.go:100", #[⟨9, .data⟩, ⟨10, .data⟩], none⟩) (v := ?v393) rfl (by kernel_rfl) (by kernel_rfl) (by kernel_rfl) (fun _ _ _ h => h) (Or.inl ⟨rfl, ?hy393⟩) hHeld ?rest393
            case hy393 => (intro w hSw; (try dsimp only at hSw); go_simp <;> first | with_reducible rfl | rw [if_neg (by omega)] | rw [if_pos (by omega)])
            (try simp only [Act.put]); (try simp only [List.setIfInBounds_toArray]); (try simp only [List.set_cons_succ]); (try simp only [List.set_cons_zero])
            refine wpAnyH_take (i := 12) (oi := ⟨(some 47), (.load 37 (.tmp 46)), 37, "ref.go:100", #[⟨11, .data⟩], none⟩) (v := ?v394) rfl (by kernel_rfl) (by kernel_rfl) (by kernel_rfl) (fun _ _ _ h => h) (Or.inl ⟨rfl, ?hy394⟩) hHeld ?rest394
            case hy394 => (intro w hSw; (try dsimp only at hSw); go_simp <;> first | with_reducible rfl | rw [if_neg (by omega)] | rw [if_pos (by omega)])
            (try simp only [Act.put]); (try simp only [List.setIfInBounds_toArray]); (try simp only [List.set_cons_succ]); (try simp only [List.set_cons_zero])
            refine wpAnyH_ready (rs := [13]) (by kernel_rfl) (by simp) ?_
            refine AllReadyH.cons (o := ⟨(some 48), (.call { callee := (.value (.func 58)), args := #[(.tmp 41), (.tmp 42), (.tmp 47)], argTypes := #[25, 25, 37] }), 37, "ref.go:100", #[⟨6, .data⟩, ⟨7, .data⟩, ⟨12, .data⟩], none⟩) rfl (fun K hK => ?step395x0) ?more395x0
            case more395x0 => exact AllReadyH.nil
            go_simp
            (refine (HRE.out _ (by repeat (first | with_reducible exact Ext.refl _ | with_reducible assumption | with_reducible refine Ext.drew ?_ | with_reducible refine Ext.drewN ?_ _ | with_reducible refine Ext.alloc ?_ _))).mono ?_; rintro e w4 ⟨A4, c4, rfl, hc4, hV4, hx4⟩; have hy4 : Ext w3 w4 := Ext.trans (by repeat (first | with_reducible exact Ext.refl _ | with_reducible assumption | with_reducible refine Ext.drew ?_ | with_reducible refine Ext.drewN ?_ _ | with_reducible refine Ext.alloc ?_ _)) hx4; replace hV4 : Vals w4 (fun b => okN ok' w b ∨ w3.heap.size ≤ b) A4 ry := hV4.to (fun b hb => hb.imp_right (fun h => Nat.le_trans (Ext.le (a := w3) (by repeat (first | with_reducible exact Ext.refl _ | with_reducible assumption | with_reducible refine Ext.drew ?_ | with_reducible refine Ext.drewN ?_ _ | with_reducible refine Ext.alloc ?_ _))) h)); replace hx4 : Ext w2 w4 := Ext.trans (by repeat (first | with_reducible exact Ext.refl _ | with_reducible assumption | with_reducible refine Ext.drew ?_ | with_reducible refine Ext.drewN ?_ _ | with_reducible refine Ext.alloc ?_ _)) hx4)
            refine hK.out _ _ ?hS395x0 (fun hHeld395 => ?rest395x0)
            case hS395x0 => first | (exact MKR24.out _ (by repeat (first | with_reducible exact Ext.refl _ | with_reducible assumption | with_reducible refine Ext.drew ?_ | with_reducible refine Ext.drewN ?_ _ | with_reducible refine Ext.alloc ?_ _))) | ((try dsimp only); (exact MKR24.out _ (by repeat (first | with_reducible exact Ext.refl _ | with_reducible assumption | with_reducible refine Ext.drew ?_ | with_reducible refine Ext.drewN ?_ _ | with_reducible refine Ext.alloc ?_ _))))
            clear hK K
            clear hHeld
            (try simp only [Act.put]); (try simp only [List.setIfInBounds_toArray]); (try simp only [List.set_cons_succ]); (try simp only [List.set_cons_zero])
            refine wpAnyH_ready (rs := [14]) (by kernel_rfl) (by simp) ?_
            refine AllReadyH.cons (o := ⟨(some 49), (.call { callee := (.value (.func 44)), args := #[(.tmp 40), (.tmp 48)], argTypes := #[37, 37] }), 37, "ref.go:100", #[⟨5, .data⟩, ⟨13, .data⟩, ⟨13, .chain⟩], none⟩) rfl (fun K hK => ?step396x0) ?more396x0
            case more396x0 => exact AllReadyH.nil
            go_simp
            (refine (HGL.out _ (by repeat (first | with_reducible exact Ext.refl _ | with_reducible assumption | with_reducible refine Ext.drew ?_ | with_reducible refine Ext.drewN ?_ _ | with_reducible refine Ext.alloc ?_ _)) _ A4 c4 (hV4.ext (by first | exact Ext.refl _ | exact (Ext.refl _).drew))).mono ?_; rintro e w5 ⟨A5, c5, rfl, hc5, hV5, hx5⟩; have hy5 : Ext w3 w5 := Ext.trans (by repeat (first | with_reducible exact Ext.refl _ | with_reducible assumption | with_reducible refine Ext.drew ?_ | with_reducible refine Ext.drewN ?_ _ | with_reducible refine Ext.alloc ?_ _)) (Ext.trans (by repeat (first | with_reducible exact Ext.refl _ | with_reducible assumption | with_reducible refine Ext.drew ?_ | with_reducible refine Ext.drewN ?_ _ | with_reducible refine Ext.alloc ?_ _)) hx5); replace hV5 : Vals w5 (fun b => (okN ok w b ∨ (okN ok' w b ∨ w3.heap.size ≤ b)) ∨ w3.heap.size ≤ b) A5 xr := hV5.to (fun b hb => hb.imp_right (fun h => Nat.le_trans (Ext.le (a := w3) (by repeat (first | with_reducible exact Ext.refl _ | with_reducible assumption | with_reducible refine Ext.drew ?_ | with_reducible refine Ext.drewN ?_ _ | with_reducible refine Ext.alloc ?_ _))) h)); replace hx5 : Ext w2 w5 := Ext.trans (by repeat (first | with_reducible exact Ext.refl _ | with_reducible assumption | with_reducible refine Ext.drew ?_ | with_reducible refine Ext.drewN ?_ _ | with_reducible refine Ext.alloc ?_ _)) hx5)
            refine hK.out _ _ ?hS396x0 (fun hHeld396 => ?rest396x0)
            case hS396x0 => first | (exact MKR24.out _ (by repeat (first | with_reducible exact Ext.refl _ | with_reducible assumption | with_reducible refine Ext.drew ?_ | with_reducible refine Ext.drewN ?_ _ | with_reducible refine Ext.alloc ?_ _))) | ((try dsimp only); (exact MKR24.out _ (by repeat (first | with_reducible exact Ext.refl _ | with_reducible assumption | with_reducible refine Ext.drew ?_ | with_reducible refine Ext.drewN ?_ _ | with_reducible refine Ext.alloc ?_ _))))
            clear hK K
            clear hHeld395
            (try simp only [Act.put]); (try simp only [List.setIfInBounds_toArray]); (try simp only [List.set_cons_succ]); (try simp only [List.set_cons_zero])
            refine wpAnyH_ready (rs := [15]) (by kernel_rfl) (by simp) ?_
            refine AllReadyH.cons (o := ⟨(some 50), (.buildSlice 23 1 #[(0, (.tmp 49))]), 23, "ref.go:100", #[⟨14, .data⟩], none⟩) rfl (fun K hK => ?step397x0) ?more397x0
            case more397x0 => exact AllReadyH.nil
            go_simp
            refine hK.out _ _ ?hS397x0 (fun hHeld397 => ?rest397x0)
            case hS397x0 => first | (exact MKR24.out _ (by repeat (first | with_reducible exact Ext.refl _ | with_reducible assumption | with_reducible refine Ext.drew ?_ | with_reducible refine Ext.drewN ?_ _ | with_reducible refine Ext.alloc ?_ _))) | ((try dsimp only); (exact MKR24.out _ (by repeat (first | with_reducible exact Ext.refl _ | with_reducible assumption | with_reducible refine Ext.drew ?_ | with_reducible refine Ext.drewN ?_ _ | with_reducible refine Ext.alloc ?_ _))))
            clear hK K
            clear hHeld396
            (try simp only [Act.put]); (try simp only [List.setIfInBounds_toArray]); (try simp only [List.set_cons_succ]); (try simp only [List.set_cons_zero])
            refine wpAnyH_ready (rs := [16]) (by kernel_rfl) (by simp) ?_
            refine AllReadyH.cons (o := ⟨(some 51), (.call { callee := (.builtin .append), args := #[(.tmp 35), (.tmp 50)], argTypes := #[23, 23] }), 23, "ref.go:100", #[⟨0, .data⟩, ⟨15, .data⟩, ⟨14, .chain⟩], none⟩) rfl (fun K hK => ?step398x0) ?more398x0
            case more398x0 => exact AllReadyH.nil
            (refine step_pushR rfl (.tmp 35) (.tmp 50) rfl w2.heap.size (fun _ => True) w5 u5 (accR a b k j) xr A5 c5 rfl (hO.out.ext hy5) hx5.le rfl rfl hc5 (hV5.to (fun b hb => ⟨trivial, fun e => by have h1 := hO.out.lt e.symm; rcases hb with (h | h | h) | h <;> first | omega | (have := h.2; omega)⟩)) hsm ?_; intro v9 w9 hO9 hg9; have hE9 : Ext w2 w9 := hx5.grown hg9 (fun k hk => (hO.out.lt hk).1))
            refine hK.out _ _ ?hS398x0 (fun hHeld398 => ?rest398x0)
            case hS398x0 => first | (exact MKR24.out _ (by repeat (first | with_reducible exact Ext.refl _ | with_reducible assumption | with_reducible refine Ext.drew ?_ | with_reducible refine Ext.drewN ?_ _ | with_reducible refine Ext.alloc ?_ _))) | ((try dsimp only); (exact MKR24.out _ (by repeat (first | with_reducible exact Ext.refl _ | with_reducible assumption | with_reducible refine Ext.drew ?_ | with_reducible refine Ext.drewN ?_ _ | with_reducible refine Ext.alloc ?_ _))))
            clear hK K
            clear hHeld397
            (try simp only [Act.put]); (try simp only [List.setIfInBounds_toArray]); (try simp only [List.set_cons_succ]); (try simp only [List.set_cons_zero])
            refine wpAnyH_take (i := 17) (oi := ⟨(some 5), (.assign (.tmp 51)), 23, "ref.go:100", #[⟨16, .data⟩, ⟨16, .chain⟩, ⟨0, .phase⟩, ⟨1, .phase⟩, ⟨2, .phase⟩, ⟨3, .phase⟩, ⟨4, .phase⟩, ⟨5, .phase⟩, ⟨6, .phase⟩, ⟨7, .phase⟩, ⟨8, .phase⟩, ⟨9, .phase⟩, ⟨10, .phase⟩, ⟨11, .phase⟩, ⟨12, .phase⟩, ⟨13, .phase⟩, ⟨14, .phase⟩, ⟨15, .phase⟩, ⟨16, .phase⟩], none⟩) (v := ?v399) rfl (by kernel_rfl) (by kernel_rfl) (by kernel_rfl) (fun _ _ _ h => h) (Or.inl ⟨rfl, ?hy399⟩) hHeld398 ?rest399
            case hy399 => (intro w hSw; (try dsimp only at hSw); go_simp <;> first | with_reducible rfl | rw [if_neg (by omega)] | rw [if_pos (by omega)])
            (try simp only [Act.put]); (try simp only [List.setIfInBounds_toArray]); (try simp only [List.set_cons_succ]); (try simp only [List.set_cons_zero])
            refine wpAnyH_done (by kernel_rfl) ?_ _
            clear hHeld398
            clear MKR24
            clear HRE HGL hO
            rw [← HYES'.out] at hO9
            go_wp2_with fail
            go_roundw
            case rel => exact ⟨j + 1, by go_num, by omega, Lib.hid hO9, Lib.hid hE9⟩
            case measure => simp [intOf]; omega
        · have hjl : j = b.rows.length := by omega
          subst hjl
          have hO := Lib.hid (HNX.out ▸ hown.out)
          clear hown HNX HXK
          go_wp2_with fail
          go_roundw
          case rel => exact ⟨k + 1, by go_num, by omega, hO, hE⟩
          case measure => simp [intOf]; omega
    · have hkl : k = a.rows.length := by omega
      have HX := Lib.hid (hown.out.mono hxw.le)
      rw [hkl, accR_end] at HX
      have HE := Lib.hid hE.out
      clear hown hE hkl
      go_wp2_with fail
      go_ret
      exact ⟨_, rfl, HX.out, hxw.trans HE.out⟩
end Go.Proofs.YtbjddimafilflaaGreatDoor

/- THE WALK over the reference's Natural. -/
namespace Go.Proofs.YtbjddimafilflaaGreatDoor
open Go.RowKit Go.Sort
theorem part_wt (y : List Val) : ∀ at_ : List Nat, (∀ i ∈ at_, i < y.length) → wtL (partJ y at_) ≤ at_.length * wtL y
  | [], _ => by simp [partJ, wtL]
  | i :: at_, h => by
    have hi := h i (by simp)
    have h1 : wtV y[i]! ≤ wtL y := by rw [getElem!_pos y i hi]; exact wtL_mem (List.getElem_mem hi)
    have h2 := part_wt y at_ (fun j hj => h j (by simp [hj]))
    unfold partJ at h2 ⊢
    rw [List.map_cons, wtL_cons, List.length_cons, Nat.succ_mul]
    omega
theorem szL_of : ∀ {l : List Val}, (∀ v ∈ l, szV v) → szL l
  | [], _ => by rw [szL]; trivial
  | v :: l, h => by rw [szL]; exact ⟨h v (by simp), szL_of (fun x hx => h x (by simp [hx]))⟩
theorem szL_app {a b : List Val} (ha : szL a) (hb : szL b) : szL (a ++ b) := szL_of (fun v hv => by
  rcases List.mem_append.1 hv with h | h
  · exact szL_mem ha h
  · exact szL_mem hb h)
theorem part_sz {y : List Val} (hy : szL y) {at_ : List Nat} (h : ∀ i ∈ at_, i < y.length) : szL (partJ y at_) := szL_of (fun v hv => by
  obtain ⟨i, hi, rfl⟩ := List.mem_map.1 hv
  rw [getElem!_pos y i (h i hi)]; exact szL_mem hy (List.getElem_mem _))
theorem rest_fit {a b : List ByteArray} {y : List Val} (hy : y.length = b.length) (hs : szL y) (hw : wtL y ≤ 10000) (hb : b.length ≤ 100) : szL (restJ a b y) ∧ wtL (restJ a b y) ≤ 1000000 := by
  have h : ∀ i ∈ othersK a b b.length, i < y.length := fun i hi => by rw [hy]; exact othersK_lt hi
  refine ⟨part_sz hs h, Nat.le_trans (part_wt y _ h) ?_⟩
  exact Nat.le_trans (Nat.mul_le_mul (Nat.le_trans othersK_len hb) hw) (by decide)
/-- a table of modest size -/
def TabFit (t : Tab) : Prop := t.cols.length ≤ 100 ∧ t.rows.length ≤ 2000 ∧ ∀ r ∈ t.rows, szL r ∧ wtL r ≤ 10000
theorem natR_mem {a b : Tab} {r : List Val} (h : r ∈ natR a b) : ∃ x ∈ a.rows, ∃ y ∈ b.rows, agreeJ a.cols b.cols x y = true ∧ r = x ++ restJ a.cols b.cols y := by
  obtain ⟨x, hx, h2⟩ := List.mem_flatMap.1 h
  obtain ⟨y, hy, rfl⟩ := List.mem_map.1 h2
  exact ⟨x, hx, y, (List.mem_filter.1 hy).1, (List.mem_filter.1 hy).2, rfl⟩
theorem natR_len {a b : Tab} (ha : a.rows.length ≤ 2000) (hb : b.rows.length ≤ 2000) : (natR a b).length ≤ 4002000 := by
  rw [← accR_end]; exact accR_small ha hb (by decide)
theorem natR_fit {a b : Tab} (ha : TabFit a) (hb : TabFit b) (hb2 : ∀ r ∈ b.rows, r.length = b.cols.length) : ∀ r ∈ natR a b, wtL r ≤ 1010000 ∧ szL r := fun r hr => by
  obtain ⟨x, hx, y, hy, -, rfl⟩ := natR_mem hr
  have h1 := ha.2.2 x hx
  have h2 := hb.2.2 y hy
  have h3 := rest_fit (a := a.cols) (hb2 y hy) h2.1 h2.2 hb.1
  exact ⟨by rw [wtL_append]; omega, szL_app h1.1 h3.1⟩
def errJ (a b : Tab) : Int := if chkT a = 0 then chkT b else chkT a
def noTab : Tab := ⟨[], []⟩
def natT (a b : Tab) : Tab := if errJ a b = 0 then ⟨colsJ a.cols b.cols, sortO ordL (natR a b)⟩ else noTab
theorem errJ_zero {a b : Tab} (h : errJ a b = 0) : (a.cols.Nodup ∧ ∀ r ∈ a.rows, r.length = a.cols.length) ∧ (b.cols.Nodup ∧ ∀ r ∈ b.rows, r.length = b.cols.length) := by
  unfold errJ at h
  split at h
  · rename_i h1; exact ⟨chkT_zero h1, chkT_zero h⟩
  · rename_i h1; exact absurd h h1
/-- a table is returned, in new memory, with an error's number -/
def TabRet (w0 : World) (t : Tab) (n : Int) (x : Ending) (w' : World) : Prop := ∃ A B c d, x = .returned (.tuple #[.agg #[.slice A t.cols.length c, .slice B t.rows.length d], .int .i64 n]) ∧ t.cols.length ≤ c ∧ t.rows.length ≤ d ∧ TabAt w' (fun b => w0.heap.size ≤ b) A B t ∧ Ext w0 w'
theorem cell_set2 (W : World) (b o g : Nat) {u0 u1 : Value} (h : b ≠ g) : ((W.setCell ⟨g, 0, none⟩ u0).setCell ⟨g, 1, none⟩ u1).cell? ⟨b, o, none⟩ = W.cell? ⟨b, o, none⟩ := by
  rw [World.cell?_setCell_other _ _ _ _ (fun e => h (by injection e with e1; exact e1.symm)), World.cell?_setCell_other _ _ _ _ (fun e => h (by injection e with e1; exact e1.symm))]
theorem set2_cells {W : World} {g : Nat} {u0 u1 x0 x1 : Value} (h0 : W.cell? ⟨g, 0, none⟩ = some x0) (h1 : W.cell? ⟨g, 1, none⟩ = some x1) : ((W.setCell ⟨g, 0, none⟩ u0).setCell ⟨g, 1, none⟩ u1).cell? ⟨g, 0, none⟩ = some u0 ∧ ((W.setCell ⟨g, 0, none⟩ u0).setCell ⟨g, 1, none⟩ u1).cell? ⟨g, 1, none⟩ = some u1 := by
  constructor
  · go_simp
  · go_simp
theorem TabAt.set2 {W : World} {m m' g : Nat} {A B : Option Addr} {t : Tab} {u0 u1 : Value} (h : TabAt W (fun b => m ≤ b) A B t) (hg : g < m) (hm : m' ≤ m) : TabAt ((W.setCell ⟨g, 0, none⟩ u0).setCell ⟨g, 1, none⟩ u1) (fun b => m' ≤ b) A B t :=
  ⟨SliceR.mono h.cols (fun b o _ _ hx => ⟨Nat.le_trans hm hx.1, (cell_set2 W b _ g (by have := hx.1; omega)).trans hx.2⟩), h.rows.keep (fun b o x hb hc => (cell_set2 W b o g (by omega)).trans hc) (fun b hb => Nat.le_trans hm hb)⟩
theorem TabAt.none_ (W : World) (ok : Nat → Prop) : TabAt W ok none none noTab := ⟨SliceR.nil _ _ _, SliceR.nil _ _ _⟩
theorem Strs.ge {w : World} {m m' : Nat} {A : Option Addr} {l : List ByteArray} (h : Strs w (fun b => m ≤ b) A l) (e : m' ≤ m) : Strs w (fun b => m' ≤ b) A l := SliceR.mono h (fun _ _ _ _ hx => ⟨Nat.le_trans e hx.1, hx.2⟩)
end Go.Proofs.YtbjddimafilflaaGreatDoor
