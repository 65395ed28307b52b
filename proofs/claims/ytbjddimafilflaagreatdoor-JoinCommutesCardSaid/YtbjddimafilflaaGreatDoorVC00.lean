/- PARTS OF THE WALKS, joined: OwnR, Lf, Lg, Le. -/
import Derived.Test.YtbjddimafilflaaGreatDoorV00
import Derived.Test.YtbjddimafilflaaGreatDoorV01
import Derived.Test.YtbjddimafilflaaGreatDoorV02
import Derived.Test.YtbjddimafilflaaGreatDoorV03
import Derived.Test.YtbjddimafilflaaGreatDoorV04
import Derived.Test.YtbjddimafilflaaGreatDoorV05
import Derived.Test.YtbjddimafilflaaGreatDoorV06
import Derived.Test.YtbjddimafilflaaGreatDoorV07
import Derived.Test.YtbjddimafilflaaGreatDoorV08
import Derived.Test.YtbjddimafilflaaGreatDoorV09
import Derived.Test.YtbjddimafilflaaGreatDoorV10
import Derived.Test.YtbjddimafilflaaGreatDoorV11
import Derived.Test.YtbjddimafilflaaGreatDoorV12
import Derived.Test.YtbjddimafilflaaGreatDoorV13
import Derived.Test.YtbjddimafilflaaGreatDoorV14
import Derived.Test.YtbjddimafilflaaGreatDoorV15
import Derived.Test.YtbjddimafilflaaGreatDoorV16
import Derived.Test.YtbjddimafilflaaGreatDoorV17
import Derived.Test.YtbjddimafilflaaGreatDoorV18
import Derived.Test.YtbjddimafilflaaGreatDoorV19
import Derived.Test.YtbjddimafilflaaGreatDoorV20
import Derived.Test.YtbjddimafilflaaGreatDoorV21
import Derived.Maps.OwnOps
import Derived.Maps.OwnSet
import Derived.Lib.AppendZerosOnto
import Derived.Deep.RegionHeld3
import Derived.Lib.ItoaNum
import Derived.Lib.AtoiAll
import Derived.Deep.CutBlock
import Derived.Deep.DeepCutAuto
import Derived.Lib.BitFns
import Derived.Test.YtbjddimafilflaaGreatDoorShelf
import Derived.Shelf.Spec.BitsCarry
import Derived.Deep.Cut
import Derived.Deep.QuietTactic
import Derived.BigQuiet
import Derived.Test.YtbjddimafilflaaGreatDoorProg
import Derived.WalkKit
import Derived.WalkSpells
import Derived.WalkLawsBesides
import Derived.Lib.Hide
import Derived.Sort.Walk0
import Derived.Lib.Small
import Derived.Laws.CopyRow
import Derived.Lib.SlFresh
import Derived.Laws.AppendOwn
import Derived.Laws.OwnMore
import Derived.OwnWalk
import Derived.Deep.AppendLies
import Derived.Deep.MidRow
import Derived.Below
import Derived.Laws.Rows
import Derived.Deep.Draws
import Derived.Maps.AppendAt
import Derived.Laws.MakeOwn
import Derived.Laws.BitsAllLaws
import Derived.BigRegion
import Derived.Sort.LotA
import Derived.OneCell
import Derived.Deep.RegionHeld
/- ROWS THAT A CALL COLLECTS: an own row of heads, each leading to a row outside of it. -/
namespace Go.Proofs.YtbjddimafilflaaGreatDoor
open Go.RowKit Go.Sort
theorem CopyTo.snoc {w : World} {ok : Nat → Prop} {l : List Val} {cs : List (List Value)} (h : CopyTo w ok l cs) (hl : cs.length = l.length) (x : Val) {A : Option Addr} {c : Nat} (hc : x.l.length ≤ c) (hv : Vals w ok A x.l) : CopyTo w ok (l ++ [x]) (cs ++ [x.cells A c]) :=
  h.app (CopyTo.cons (CopyTo.nil w ok []) x hc hv) hl (fun _ h => h) (fun _ h => h)
end Go.Proofs.YtbjddimafilflaaGreatDoor

/- THE WALK over the law JoinNeutral. -/
namespace Go.Proofs.YtbjddimafilflaaGreatDoor
open Go.RowKit Go.Sort
theorem new_tab {w W : World} {x y : Value} {t : TypeId} (h : Ext (w.alloc (.cells #[x, y] t)) W) : W.cell? ⟨w.heap.size, 0, none⟩ = some x ∧ W.cell? ⟨w.heap.size, 1, none⟩ = some y ∧ W.frozen? ⟨w.heap.size, 0, none⟩ = false ∧ W.frozen? ⟨w.heap.size, 1, none⟩ = false := by
  have hb := h.heap (heap_alloc_new w _)
  exact ⟨by rw [cell_of_row _ _ _ _ _ _ hb]; rfl, by rw [cell_of_row _ _ _ _ _ _ hb]; rfl, by simp [World.frozen?, hb], by simp [World.frozen?, hb]⟩
theorem Strs.any {w : World} {ok : Nat → Prop} {A : Option Addr} {l : List ByteArray} (h : Strs w ok A l) : Strs w (fun _ => True) A l := SliceR.mono h (fun _ _ _ _ hx => ⟨trivial, hx.2⟩)
end Go.Proofs.YtbjddimafilflaaGreatDoor

/- THE WALK over the law's column. -/
namespace Go.Proofs.YtbjddimafilflaaGreatDoor
open Go.RowKit Go.Sort
theorem arr_snoc {l xs : List ByteArray} {r : List Val} {k : Nat} (hk : k < xs.length) : arrR l (xs.take (k + 1)) r = arrR l (xs.take k) r ++ [r[(posJ l xs[k]).getD 0]!] := by
  unfold arrR
  rw [List.take_succ_eq_append_getElem hk, List.map_append, List.map_cons, List.map_nil]
theorem arr_len (l xs : List ByteArray) (r : List Val) : (arrR l xs r).length = xs.length := by unfold arrR; rw [List.length_map]
set_option maxRecDepth 100000 in
set_option maxHeartbeats 3200000 in
theorem l_column (l xs : List ByteArray) (r : List Val) (ok okr okx : Nat → Prop) (A B R X : Option Addr) (c m d cr cx : Nat) (w : World) (ht : Strs w ok A l) (hr : Vals w okr R r) (hx : Strs w okx X xs) (hl : l.Nodup) (hlr : r.length = l.length) (hsub : ∀ c ∈ xs, c ∈ l) (hxl : xs.length ≤ 8000000) :
    Calls Tryz.prog 34 #[.agg #[.slice A l.length c, .slice B m d], .slice R r.length cr, .slice X xs.length cx] w fun e w' => ∃ A2 c2, e = .returned (.tuple #[.slice A2 xs.length c2, .bool true]) ∧ xs.length ≤ c2 ∧ Vals w' (fun b => okr b ∨ w.heap.size ≤ b) A2 (arrR l xs r) ∧ Ext w w' := by
  obtain ⟨q, w2, hq, hw2, q0, q1, hxw⟩ := box_tab w A B l.length c m d 25
  have hml := ht.len
  have HT := Lib.hid (ht.ext hxw)
  have HX := Lib.hid (hx.ext hxw)
  have HR := Lib.hid (hr.ext hxw)
  have HND := Lib.hid hl
  have HSUB := Lib.hid hsub
  have HLR := Lib.hid hlr
  have HW2 := Lib.hid hw2
  have HG := Lib.hid hq
  clear ht hx hr hl hsub hlr hw2 hq
  go_enter Tryz.func34, Tryz.ntmps34
  go_upto_region 1 with (fail)
  rw [← HW2.out, ← HG.out]
  clear HW2 HG
  go_wp2_with fail
  go_loopw [8, 16] (fun v u W => ∃ (v0 : Value) (k : Nat) (cs : List (List Value)), v0 = v ∧ u = .int .i64 k ∧ k ≤ xs.length ∧ Hid (W.ownsRow w2.heap.size 40 5 v (arrR l (xs.take k) r).length cs.flatten) ∧ Hid (cs.length = (arrR l (xs.take k) r).length) ∧ Hid (CopyTo w2 okr (arrR l (xs.take k) r) cs) ∧ Hid (Ext w2 W)) (fun _ u _ => xs.length - (intOf u).toNat)
  case atStart => exact ⟨_, 0, [], rfl, rfl, Nat.zero_le _, Lib.hid (World.ownsRow_nil _ _ _ _), Lib.hid rfl, Lib.hid (CopyTo.nil _ _ _), Lib.hid (Ext.refl _)⟩
  case round =>
    obtain ⟨v0, k, cs, hv0, rfl, hk, hown, hcl, hct, hE⟩ := hrel
    subst hv0
    have s0 := hE.out.cell q0
    by_cases hlt : k < xs.length
    · obtain ⟨bx, ox, rfl, hcx⟩ := HX.out.2 (by omega)
      have h5 := (hcx k hlt).2
      rw [Nat.mul_one] at h5
      have d0 := hE.out.cell h5
      have HSN := Lib.hid (arr_snoc (l := l) (r := r) hlt)
      obtain ⟨p, hp1, hp2, hp3⟩ := atJ_end (HSUB.out _ (List.getElem_mem hlt))
      have hpr : p < r.length := by rw [HLR.out]; exact hp2
      obtain ⟨br, or_, rfl, hcr⟩ := HR.out.2 (by omega)
      obtain ⟨-, Ay, ey, h5y, hley, hvy⟩ := VCells.iff.1 (hcr p hpr)
      rw [hp3, getElem!_pos r p hpr] at HSN
      have H5Y := Lib.hid h5y
      have HAT := Lib.hid hp1
      have HHIT := Lib.hid (fun j (hj : j < l.length) (h : l[j] = xs[k]) => atJ_hit HND.out hj h)
      have HMISS := Lib.hid (fun j (hj : j < l.length) (h : l[j] ≠ xs[k]) => atJ_miss (c := xs[k]) hj h)
      have HZ := Lib.hid (atJ_zero l xs[k])
      have HCT := Lib.hid (hct.out.snoc hcl.out r[p] hley hvy)
      rw [← HSN.out] at HCT
      have hkb : (arrR l (xs.take k) r).length + 1 ≤ 8388608 := by rw [arr_len, List.length_take]; omega
      have HLN := Lib.hid (show (arrR l (xs.take (k + 1)) r).length = (arrR l (xs.take k) r).length + 1 by rw [arr_len, arr_len, List.length_take, List.length_take]; omega)
      have hel : r[p].l.length = r[p].l.length := rfl
      clear hcx h5 hcr h5y hvy hp1 hp3 hct hel hley HSN
      generalize xs[k] = s at *
      generalize r[p] = yk at *
      obtain ⟨pk1, hpk1⟩ : ∃ p, p = arrR l (xs.take (k + 1)) r := ⟨_, rfl⟩
      rw [← hpk1] at HCT HLN
      have HPK := Lib.hid hpk1
      clear hpk1
      generalize arrR l (xs.take k) r = pk at *
      go_wp2_with fail
      go_loopw [11, 23] (fun z u W => ∃ (j : Nat), u = .int .i64 j ∧ j ≤ l.length ∧ z = .int .i64 (atJ l s j) ∧ Hid (W.ownsRow w2.heap.size 40 5 v0 pk.length cs.flatten) ∧ Hid (Ext w2 W)) (fun _ u _ => l.length - (intOf u).toNat)
      case atStart => exact ⟨0, rfl, Nat.zero_le _, by rw [HZ.out], hown, hE⟩
      case round =>
        clear hown hE s0 d0
        obtain ⟨j, rfl, hj, rfl, hown, hE⟩ := hrel
        have s0 := hE.out.cell q0
        by_cases hlj : j < l.length
        · obtain ⟨bl, ol, rfl, hcl1⟩ := HT.out.2 (by omega)
          have h6 := (hcl1 j hlj).2
          rw [Nat.mul_one] at h6
          have t0 := hE.out.cell h6
          have HH := Lib.hid (HHIT.out j hlj)
          have HM := Lib.hid (HMISS.out j hlj)
          clear HHIT HMISS hcl1 h6
          generalize l[j] = x at *
          by_cases hq : x = s
          · have HA := Lib.hid (HH.out hq)
            have hq2 := str_eq hq
            clear hq HM HH
            go_wp2_with fail
            go_roundw
            case rel => exact ⟨j + 1, by go_num, by omega, by rw [HA.out], hown, hE⟩
            case measure => simp [intOf]; omega
          · have HA := Lib.hid (HM.out hq)
            have hq2 := str_ne hq
            clear hq HM HH
            go_wp2_with fail
            go_roundw
            case rel => exact ⟨j + 1, by go_num, by omega, by rw [HA.out], hown, hE⟩
            case measure => simp [intOf]; omega
        · have hjl : j = l.length := by omega
          subst hjl
          rw [HAT.out]
          have hpn : ¬ ((p : Int) < 0) := by omega
          have hpi : (p : Int) < (r.length : Int) := by omega
          obtain ⟨e0, e1, e2, e3, e4⟩ := H5Y.out.ext hE.out
          have hown' := hown.out
          have hE' := hE.out
          clear hown hE HT HAT HHIT HMISS HZ H5Y
          go_wp2_with (at_builtin; refine own_pushF T_rowV rfl (.tmp 41) (.tmp 46) rfl w2 wr _ pk.length _ (yk.cells Ay ey) rfl hown' hE' rfl rfl rfl (Val.cells_one _ _ _) hkb (by decide) ?_; intro v2 w9 hown2 hE9 hF9)
          clear hF9
          have HO2 := Lib.hid (show w9.ownsRow w2.heap.size 40 5 v2 pk1.length (cs ++ [yk.cells Ay ey]).flatten by rw [HLN.out, List.flatten_append]; simpa using hown2)
          have HE9 := Lib.hid hE9
          go_roundw
          case rel => exact ⟨_, k + 1, cs ++ [yk.cells Ay ey], rfl, by go_num, by omega, by rw [← HPK.out]; exact HO2, Lib.hid (by rw [← HPK.out, HLN.out, List.length_append, hcl.out]; rfl), by rw [← HPK.out]; exact HCT, HE9⟩
          case measure => simp [intOf]; omega
    · have hkl : k = xs.length := by omega
      have HX := Lib.hid ((hct.out.ext hE.out).fin (ok' := fun b => okr b ∨ w.heap.size ≤ b) hown.out hcl.out (by rw [arr_len, List.length_take]; omega) (fun _ h => .inl h) (fun b h => .inr (Nat.le_trans hxw.le h)))
      rw [hkl, List.take_length, arr_len] at HX
      have HE := Lib.hid hE.out
      clear hown hct hcl hE hkl
      go_wp2_with fail
      obtain ⟨A9, c9, e9, h9, hV9⟩ := HX.out
      subst e9
      exact bodyPost_ret (v := .tuple #[.slice A9 xs.length c9, .bool true]) (by simp [results, Tryz.results34, go_sem] <;> rfl) rfl ⟨A9, c9, rfl, h9, hV9, hxw.trans HE.out⟩
end Go.Proofs.YtbjddimafilflaaGreatDoor

/- THE WALK over the law JoinAssociates. -/
namespace Go.Proofs.YtbjddimafilflaaGreatDoor
open Go.RowKit Go.Sort
theorem box_tabs3 (w : World) (A B A' B' A2 B2 : Option Addr) (n c m d n' c' m' d' n2 c2 m2 d2 : Nat) (t : TypeId) : ∃ (q : Nat) (w3 : World), q = w.heap.size ∧ w3 = ((w.alloc (.cells #[.slice A n c, .slice B m d] t)).alloc (.cells #[.slice A' n' c', .slice B' m' d'] t)).alloc (.cells #[.slice A2 n2 c2, .slice B2 m2 d2] t) ∧
    w3.cell? ⟨q, 0, none⟩ = some (.slice A n c) ∧ w3.cell? ⟨q, 1, none⟩ = some (.slice B m d) ∧ w3.cell? ⟨q + 1, 0, none⟩ = some (.slice A' n' c') ∧ w3.cell? ⟨q + 1, 1, none⟩ = some (.slice B' m' d') ∧ w3.cell? ⟨q + 1 + 1, 0, none⟩ = some (.slice A2 n2 c2) ∧ w3.cell? ⟨q + 1 + 1, 1, none⟩ = some (.slice B2 m2 d2) ∧ Ext w w3 := by
  obtain ⟨q, w2, hq, hw2, h0, h1, h2, h3, hx⟩ := box_tab2 w A B A' B' n c m d n' c' m' d' t t
  obtain ⟨q', w3, hq', hw3, h4, h5, hx3⟩ := box_tab w2 A2 B2 n2 c2 m2 d2 t
  have e : q' = q + 1 + 1 := by rw [hq', hq, hw2]; simp
  subst e
  exact ⟨q, w3, hq, by rw [hw3, hw2], hx3.cell h0, hx3.cell h1, hx3.cell h2, hx3.cell h3, h4, h5, hx.trans hx3⟩
theorem natR_len2 (a b : Tab) : (natR a b).length ≤ a.rows.length * b.rows.length := by
  rw [← accR_end]
  exact accR_len a b a.rows.length 0
theorem rest_small {a b : List ByteArray} {y : List Val} (hy : y.length = b.length) (hw : wtL y ≤ 300) (hb : b.length ≤ 10) : wtL (restJ a b y) ≤ 3000 :=
  Nat.le_trans (part_wt y _ (fun i hi => by rw [hy]; exact othersK_lt hi)) (Nat.le_trans (Nat.mul_le_mul (Nat.le_trans othersK_len hb) hw) (by decide))
theorem cols_small {a b : List ByteArray} : (colsJ a b).length ≤ a.length + b.length := by
  rw [cols_len]; have := othN_le a b; omega
end Go.Proofs.YtbjddimafilflaaGreatDoor
