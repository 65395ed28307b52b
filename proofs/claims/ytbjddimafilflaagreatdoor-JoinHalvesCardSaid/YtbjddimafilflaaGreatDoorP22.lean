/- PARTS OF THE WALKS, joined: Kb. -/
import Derived.Test.YtbjddimafilflaaGreatDoorP21
/- THE WALK over the reference's agree. -/
namespace Go.Proofs.YtbjddimafilflaaGreatDoor
open Go.RowKit Go.Sort
theorem szV_null : szV nullV := szV_iff.2 ⟨by decide, trivial⟩
theorem kind_null {x : Val} (h : x.kind ≠ 0) : x ≠ nullV := fun e => h (by rw [e]; rfl)
theorem agree_step {a b : List ByteArray} {x y : List Val} {k : Nat} (h : ∀ i, i < k → ∀ j, posJ b a[i]! = some j → x[i]! ≠ nullV ∧ x[i]! = y[j]!) (h2 : ∀ j, posJ b a[k]! = some j → x[k]! ≠ nullV ∧ x[k]! = y[j]!) :
    ∀ i, i < k + 1 → ∀ j, posJ b a[i]! = some j → x[i]! ≠ nullV ∧ x[i]! = y[j]! := fun i hi => by
  rcases Nat.lt_or_ge i k with h1 | h1
  · exact h i h1
  · rw [show i = k by omega]; exact h2
theorem agree_no {a b : List ByteArray} {x y : List Val} {k j : Nat} (hk : k < a.length) (hj : posJ b a[k]! = some j) (h : ¬ (x[k]! ≠ nullV ∧ x[k]! = y[j]!)) : agreeJ a b x y = false := by
  cases e : agreeJ a b x y with
  | false => rfl
  | true => exact absurd (agreeJ_iff.1 e k hk j hj) h
set_option maxRecDepth 100000 in
set_option maxHeartbeats 1600000 in
theorem r_agree (la lb : List ByteArray) (x y : List Val) (ok ok' okx oky : Nat → Prop) (A A' B B' X Y : Option Addr) (c c' m d m' d' cx cy : Nat) (w : World) (ha : Strs w ok A la) (hb : Strs w ok' A' lb) (hx : Vals w okx X x) (hy : Vals w oky Y y) (hlx : x.length = la.length) (hly : y.length = lb.length) (hsx : szL x) (hsy : szL y) :
    Calls Tryz.prog 57 #[.agg #[.slice A la.length c, .slice B m d], .agg #[.slice A' lb.length c', .slice B' m' d'], .slice X x.length cx, .slice Y y.length cy] w fun e w' => e = .returned (.bool (agreeJ la lb x y)) ∧ Ext w w' := by
  obtain ⟨q, w2, hq, hw2, q0, q1, p0, p1, hxw⟩ := box_tab2 w A B A' B' la.length c m d lb.length c' m' d' 25 25
  have hm := ha.len
  have hmx := hx.len
  have hmy := hy.len
  have HA := Lib.hid (ha.ext hxw)
  have HB := Lib.hid (hb.ext hxw)
  have HX := Lib.hid (hx.ext hxw)
  have HY := Lib.hid (hy.ext hxw)
  have HLX := Lib.hid hlx
  have HLY := Lib.hid hly
  have HSX := Lib.hid (fun v hv => szL_mem hsx (v := v) hv)
  have HSY := Lib.hid (fun v hv => szL_mem hsy (v := v) hv)
  have HT := Lib.hid (fun h => (agreeJ_iff (a := la) (b := lb) (x := x) (y := y)).2 h)
  have HF := Lib.hid (fun k j hk hj h => agree_no (a := la) (b := lb) (x := x) (y := y) (k := k) (j := j) hk hj h)
  have HN := Lib.hid (fun W => r4_Null W)
  have HW2 := Lib.hid hw2
  have HG := Lib.hid hq
  generalize agreeJ la lb x y = R at *
  clear ha hb hx hy hlx hly hsx hsy hw2 hq
  go_enter Tryz.func57, Tryz.ntmps57
  go_upto_region 1 with (fail)
  rw [← HW2.out, ← HG.out]
  clear HW2 HG
  go_wp2_with fail
  go_loopw [9] (fun u W => ∃ k : Nat, u = .int .i64 k ∧ k ≤ la.length ∧ Hid (∀ i, i < k → ∀ j, posJ lb la[i]! = some j → x[i]! ≠ nullV ∧ x[i]! = y[j]!) ∧ Ext w2 W) (fun u _ => la.length - (intOf u).toNat)
  case atStart => exact ⟨0, rfl, Nat.zero_le _, Lib.hid (fun i hi => absurd hi (Nat.not_lt_zero _)), Ext.refl _⟩
  case round =>
    obtain ⟨k, rfl, hk, hgd, hE⟩ := hrel
    have s0 := hE.cell q0
    have t0 := hE.cell p0
    by_cases hlt : k < la.length
    · obtain ⟨ba, oa, rfl, hca⟩ := HA.out.2 (by omega)
      have h5 := (hca k hlt).2
      rw [Nat.mul_one] at h5
      have d0 := hE.cell h5
      have HC := Lib.hid (fun W (e : Ext wr W) => r_column lb la[k] ok' A' c' W (HB.out.ext (hE.trans e)))
      have HP := Lib.hid (show la[k]! = la[k] from getElem!_pos la k hlt)
      have HST := Lib.hid (fun h => agree_step (x := x) (y := y) hgd.out h)
      have HZ := Lib.hid (idxF_pos lb la[k])
      obtain ⟨bx, ox, rfl, hcx⟩ := HX.out.2 (by rw [HLX.out]; omega)
      obtain ⟨-, Ax, ex, h5x, hlex, hvx⟩ := VCells.iff.1 (hcx k (by rw [HLX.out]; exact hlt))
      have HVX := Lib.hid hvx
      have H5X := Lib.hid h5x
      have HSK := Lib.hid (HSX.out _ (List.getElem_mem (show k < x.length by rw [HLX.out]; exact hlt)))
      have HXK := Lib.hid (show x[k]! = x[k]'(by rw [HLX.out]; exact hlt) from getElem!_pos x k (by rw [HLX.out]; exact hlt))
      clear hca h5 hgd hcx h5x hvx HSX
      generalize la[k] = s at *
      generalize x[k]'(by rw [HLX.out]; exact hlt) = xi at *
      generalize idxF (fun t => decide (s = t)) lb = z at *
      go_upto_region 4 with (fail)
      (have MKR20 := Lib.hid (fun V (e : Ext wr V) => (⟨e.cell s0, e.cell t0, e.cell d0, e⟩ : V.cell? ⟨q, 0, none⟩ = some (.slice (some ⟨ba, oa, none⟩) la.length c) ∧ V.cell? ⟨q + 1, 0, none⟩ = some (.slice A' lb.length c') ∧ V.cell? ⟨ba, oa + k, none⟩ = some (.string s) ∧ Ext wr V)); go_region_held3 (fun V => V.cell? ⟨q, 0, none⟩ = some (.slice (some ⟨ba, oa, none⟩) la.length c) ∧ V.cell? ⟨q + 1, 0, none⟩ = some (.slice A' lb.length c') ∧ V.cell? ⟨ba, oa + k, none⟩ = some (.string s) ∧ Ext wr V) ((exact MKR20.out _ (by repeat (first | with_reducible exact Ext.refl _ | with_reducible assumption | with_reducible refine Ext.drew ?_ | with_reducible refine Ext.drewN ?_ _ | with_reducible refine Ext.alloc ?_ _)))) ((with_reducible refine (HC.out _ (by repeat (first | with_reducible exact Ext.refl _ | with_reducible assumption | with_reducible refine Ext.drew ?_ | with_reducible refine Ext.drewN ?_ _ | with_reducible refine Ext.alloc ?_ _))).mono ?_; rintro e w3 ⟨rfl, hx3⟩; replace hx3 : Ext wr w3 := Ext.trans (by repeat (first | with_reducible exact Ext.refl _ | with_reducible assumption | with_reducible refine Ext.drew ?_ | with_reducible refine Ext.drewN ?_ _ | with_reducible refine Ext.alloc ?_ _)) hx3)); clear MKR20)
      clear ‹_ ∧ _› HC
      have hE3 := hE.trans hx3
      clear s0 t0 d0
      cases hpos : posJ lb s with
      | none =>
        have hz := HZ.out
        rw [hpos] at hz
        subst hz
        have HS := Lib.hid (HST.out (fun j hj => by rw [HP.out, hpos] at hj; cases hj))
        clear hpos HZ
        go_upto_region 5 with (fail)
        have MKR14 := Lib.hid (fun V (e : Ext w3 V) => (e : Ext w3 V))
        refine wp_region_held_drew (S := (fun V => Ext w3 V)) (by kernel_rfl) ?hs189 (fun hHeld => ?go189)
        case hs189 => (exact MKR14.out _ (by repeat (first | with_reducible exact Ext.refl _ | with_reducible assumption | with_reducible refine Ext.drew ?_ | with_reducible refine Ext.drewN ?_ _ | with_reducible refine Ext.alloc ?_ _)))
        refine wpAnyH_take (i := 0) (oi := ⟨(some 26), (.move (.tmp 10)), 3, "ref.go:46", #[], none⟩) (v := ?v190) rfl (by kernel_rfl) (by kernel_rfl) (by kernel_rfl) (fun _ _ _ h => h) (Or.inl ⟨rfl, ?hy190⟩) hHeld ?rest190
        case hy190 => (intro w hSw; (try dsimp only at hSw); go_simp <;> first | with_reducible rfl | rw [if_neg (by omega)] | rw [if_pos (by omega)])
        (try simp only [Act.put]); (try simp only [List.setIfInBounds_toArray]); (try simp only [List.set_cons_succ]); (try simp only [List.set_cons_zero])
        refine wpAnyH_take (i := 1) (oi := ⟨(some 27), (.binOp .geq 3 (.tmp 26) (.const (.int .i64 0)) 3), 4, "ref.go:46", #[⟨0, .data⟩], none⟩) (v := ?v191) rfl (by kernel_rfl) (by kernel_rfl) (by kernel_rfl) (fun _ _ _ h => h) (Or.inl ⟨rfl, ?hy191⟩) hHeld ?rest191
        case hy191 => (intro w hSw; (try dsimp only at hSw); go_simp <;> first | with_reducible rfl | rw [if_neg (by omega)] | rw [if_pos (by omega)])
        (try simp only [Act.put]); (try simp only [List.setIfInBounds_toArray]); (try simp only [List.set_cons_succ]); (try simp only [List.set_cons_zero])
        refine wpAnyH_take (i := 2) (oi := ⟨(some 28), (.move (.tmp 27)), 4, "ref.go:46", #[⟨1, .data⟩], none⟩) (v := ?v192) rfl (by kernel_rfl) (by kernel_rfl) (by kernel_rfl) (fun _ _ _ h => h) (Or.inl ⟨rfl, ?hy192⟩) hHeld ?rest192
        case hy192 => (intro w hSw; (try dsimp only at hSw); go_simp <;> first | with_reducible rfl | rw [if_neg (by omega)] | rw [if_pos (by omega)])
        (try simp only [Act.put]); (try simp only [List.setIfInBounds_toArray]); (try simp only [List.set_cons_succ]); (try simp only [List.set_cons_zero])
        refine wpAnyH_take (i := 3) (oi := ⟨(some 29), (.move (.tmp 2)), 37, "ref.go:46", #[⟨2, .guard⟩], (some (2, true))⟩) (v := undef) rfl (by kernel_rfl) (by kernel_rfl) (by kernel_rfl) (fun _ _ _ h => h) (Or.inr ⟨rfl, rfl⟩) hHeld ?rest193
        (try simp only [Act.put]); (try simp only [List.setIfInBounds_toArray]); (try simp only [List.set_cons_succ]); (try simp only [List.set_cons_zero])
        refine wpAnyH_take (i := 4) (oi := ⟨(some 30), (.move (.tmp 9)), 3, "ref.go:46", #[⟨2, .guard⟩], (some (2, true))⟩) (v := undef) rfl (by kernel_rfl) (by kernel_rfl) (by kernel_rfl) (fun _ _ _ h => h) (Or.inr ⟨rfl, rfl⟩) hHeld ?rest194
        (try simp only [Act.put]); (try simp only [List.setIfInBounds_toArray]); (try simp only [List.set_cons_succ]); (try simp only [List.set_cons_zero])
        refine wpAnyH_take (i := 5) (oi := ⟨(some 31), (.indexAddr 37 (.tmp 29) (.tmp 30)), 0, "ref.go:46", #[⟨3, .data⟩, ⟨4, .data⟩, ⟨2, .guard⟩], (some (2, true))⟩) (v := undef) rfl (by kernel_rfl) (by kernel_rfl) (by kernel_rfl) (fun _ _ _ h => h) (Or.inr ⟨rfl, rfl⟩) hHeld ?rest195
        (try simp only [Act.put]); (try simp only [List.setIfInBounds_toArray]); (try simp only [List.set_cons_succ]); (try simp only [List.set_cons_zero])
        refine wpAnyH_take (i := 6) (oi := ⟨(some 32), (.fieldAddr 40 (.tmp 31) 0), 0, "ref.go:46", #[⟨5, .data⟩, ⟨2, .guard⟩], (some (2, true))⟩) (v := undef) rfl (by kernel_rfl) (by kernel_rfl) (by kernel_rfl) (fun _ _ _ h => h) (Or.inr ⟨rfl, rfl⟩) hHeld ?rest196
        (try simp only [Act.put]); (try simp only [List.setIfInBounds_toArray]); (try simp only [List.set_cons_succ]); (try simp only [List.set_cons_zero])
        refine wpAnyH_take (i := 7) (oi := ⟨(some 33), (.load 3 (.tmp 32)), 3, "ref.go:46", #[⟨6, .data⟩, ⟨2, .guard⟩], (some (2, true))⟩) (v := undef) rfl (by kernel_rfl) (by kernel_rfl) (by kernel_rfl) (fun _ _ _ h => h) (Or.inr ⟨rfl, rfl⟩) hHeld ?rest197
        (try simp only [Act.put]); (try simp only [List.setIfInBounds_toArray]); (try simp only [List.set_cons_succ]); (try simp only [List.set_cons_zero])
        refine wpAnyH_take (i := 8) (oi := ⟨(some 34), (.binOp .eql 3 (.tmp 33) (.const (.int .i64 0)) 3), 4, "ref.go:46", #[⟨7, .data⟩, ⟨2, .guard⟩], (some (2, true))⟩) (v := undef) rfl (by kernel_rfl) (by kernel_rfl) (by kernel_rfl) (fun _ _ _ h => h) (Or.inr ⟨rfl, rfl⟩) hHeld ?rest198
        (try simp only [Act.put]); (try simp only [List.setIfInBounds_toArray]); (try simp only [List.set_cons_succ]); (try simp only [List.set_cons_zero])
        refine wpAnyH_take (i := 9) (oi := ⟨(some 35), (.move (.tmp 34)), 4, "ref.go:46", #[⟨8, .data⟩, ⟨2, .chain⟩, ⟨2, .guard⟩], (some (2, true))⟩) (v := undef) rfl (by kernel_rfl) (by kernel_rfl) (by kernel_rfl) (fun _ _ _ h => h) (Or.inr ⟨rfl, rfl⟩) hHeld ?rest199
        (try simp only [Act.put]); (try simp only [List.setIfInBounds_toArray]); (try simp only [List.set_cons_succ]); (try simp only [List.set_cons_zero])
        refine wpAnyH_take (i := 10) (oi := ⟨(some 36), (.move (.tmp 2)), 37, "ref.go:46", #[⟨9, .guard⟩], (some (9, true))⟩) (v := undef) rfl (by kernel_rfl) (by kernel_rfl) (by kernel_rfl) (fun _ _ _ h => h) (Or.inr ⟨rfl, rfl⟩) hHeld ?rest200
        (try simp only [Act.put]); (try simp only [List.setIfInBounds_toArray]); (try simp only [List.set_cons_succ]); (try simp only [List.set_cons_zero])
        refine wpAnyH_take (i := 11) (oi := ⟨(some 37), (.move (.tmp 9)), 3, "ref.go:46", #[⟨9, .guard⟩], (some (9, true))⟩) (v := undef) rfl (by kernel_rfl) (by kernel_rfl) (by kernel_rfl) (fun _ _ _ h => h) (Or.inr ⟨rfl, rfl⟩) hHeld ?rest201
        (try simp only [Act.put]); (try simp only [List.setIfInBounds_toArray]); (try simp only [List.set_cons_succ]); (try simp only [List.set_cons_zero])
        refine wpAnyH_take (i := 12) (oi := ⟨(some 38), (.indexAddr 37 (.tmp 36) (.tmp 37)), 0, "ref.go:46", #[⟨10, .data⟩, ⟨11, .data⟩, ⟨9, .guard⟩], (some (9, true))⟩) (v := undef) rfl (by kernel_rfl) (by kernel_rfl) (by kernel_rfl) (fun _ _ _ h => h) (Or.inr ⟨rfl, rfl⟩) hHeld ?rest202
        (try simp only [Act.put]); (try simp only [List.setIfInBounds_toArray]); (try simp only [List.set_cons_succ]); (try simp only [List.set_cons_zero])
        refine wpAnyH_take (i := 13) (oi := ⟨(some 39), (.load 40 (.tmp 38)), 40, "ref.go:46", #[⟨12, .data⟩, ⟨9, .guard⟩], (some (9, true))⟩) (v := undef) rfl (by kernel_rfl) (by kernel_rfl) (by kernel_rfl) (fun _ _ _ h => h) (Or.inr ⟨rfl, rfl⟩) hHeld ?rest203
        (try simp only [Act.put]); (try simp only [List.setIfInBounds_toArray]); (try simp only [List.set_cons_succ]); (try simp only [List.set_cons_zero])
        refine wpAnyH_take (i := 14) (oi := ⟨(some 40), (.call { callee := (.value (.func 43)), args := #[], argTypes := #[] }), 40, "ref.go:46", #[⟨9, .chain⟩, ⟨9, .guard⟩], (some (9, true))⟩) (v := undef) rfl (by kernel_rfl) (by kernel_rfl) (by kernel_rfl) (fun _ _ _ h => h) (Or.inr ⟨rfl, rfl⟩) hHeld ?rest204
        (try simp only [Act.put]); (try simp only [List.setIfInBounds_toArray]); (try simp only [List.set_cons_succ]); (try simp only [List.set_cons_zero])
        refine wpAnyH_take (i := 15) (oi := ⟨(some 41), (.call { callee := (.value (.func 68)), args := #[(.tmp 39), (.tmp 40)], argTypes := #[40, 40] }), 3, "ref.go:46", #[⟨13, .data⟩, ⟨14, .data⟩, ⟨14, .chain⟩, ⟨9, .guard⟩], (some (9, true))⟩) (v := undef) rfl (by kernel_rfl) (by kernel_rfl) (by kernel_rfl) (fun _ _ _ h => h) (Or.inr ⟨rfl, rfl⟩) hHeld ?rest205
        (try simp only [Act.put]); (try simp only [List.setIfInBounds_toArray]); (try simp only [List.set_cons_succ]); (try simp only [List.set_cons_zero])
        refine wpAnyH_take (i := 16) (oi := ⟨(some 42), (.binOp .eql 3 (.tmp 41) (.const (.int .i64 0)) 3), 4, "ref.go:46", #[⟨15, .data⟩, ⟨9, .guard⟩], (some (9, true))⟩) (v := undef) rfl (by kernel_rfl) (by kernel_rfl) (by kernel_rfl) (fun _ _ _ h => h) (Or.inr ⟨rfl, rfl⟩) hHeld ?rest206
        (try simp only [Act.put]); (try simp only [List.setIfInBounds_toArray]); (try simp only [List.set_cons_succ]); (try simp only [List.set_cons_zero])
        refine wpAnyH_take (i := 17) (oi := ⟨(some 43), (.pick (.tmp 35) (.tmp 42) (.const (.bool false))), 4, "ref.go:46", #[⟨9, .data⟩, ⟨16, .data⟩, ⟨2, .guard⟩], (some (2, true))⟩) (v := undef) rfl (by kernel_rfl) (by kernel_rfl) (by kernel_rfl) (fun _ _ _ h => h) (Or.inr ⟨rfl, rfl⟩) hHeld ?rest207
        (try simp only [Act.put]); (try simp only [List.setIfInBounds_toArray]); (try simp only [List.set_cons_succ]); (try simp only [List.set_cons_zero])
        refine wpAnyH_take (i := 18) (oi := ⟨(some 44), (.move (.tmp 43)), 4, "ref.go:46", #[⟨17, .data⟩, ⟨15, .chain⟩, ⟨2, .guard⟩], (some (2, true))⟩) (v := undef) rfl (by kernel_rfl) (by kernel_rfl) (by kernel_rfl) (fun _ _ _ h => h) (Or.inr ⟨rfl, rfl⟩) hHeld ?rest208
        (try simp only [Act.put]); (try simp only [List.setIfInBounds_toArray]); (try simp only [List.set_cons_succ]); (try simp only [List.set_cons_zero])
        refine wpAnyH_take (i := 19) (oi := ⟨(some 45), (.move (.tmp 2)), 37, "ref.go:46", #[⟨18, .guard⟩], (some (18, false))⟩) (v := undef) rfl (by kernel_rfl) (by kernel_rfl) (by kernel_rfl) (fun _ _ _ h => h) (Or.inr ⟨rfl, rfl⟩) hHeld ?rest209
        (try simp only [Act.put]); (try simp only [List.setIfInBounds_toArray]); (try simp only [List.set_cons_succ]); (try simp only [List.set_cons_zero])
        refine wpAnyH_take (i := 20) (oi := ⟨(some 46), (.move (.tmp 9)), 3, "ref.go:46", #[⟨18, .guard⟩], (some (18, false))⟩) (v := undef) rfl (by kernel_rfl) (by kernel_rfl) (by kernel_rfl) (fun _ _ _ h => h) (Or.inr ⟨rfl, rfl⟩) hHeld ?rest210
        (try simp only [Act.put]); (try simp only [List.setIfInBounds_toArray]); (try simp only [List.set_cons_succ]); (try simp only [List.set_cons_zero])
        refine wpAnyH_take (i := 21) (oi := ⟨(some 47), (.indexAddr 37 (.tmp 45) (.tmp 46)), 0, "ref.go:46", #[⟨19, .data⟩, ⟨20, .data⟩, ⟨18, .guard⟩], (some (18, false))⟩) (v := undef) rfl (by kernel_rfl) (by kernel_rfl) (by kernel_rfl) (fun _ _ _ h => h) (Or.inr ⟨rfl, rfl⟩) hHeld ?rest211
        (try simp only [Act.put]); (try simp only [List.setIfInBounds_toArray]); (try simp only [List.set_cons_succ]); (try simp only [List.set_cons_zero])
        refine wpAnyH_take (i := 22) (oi := ⟨(some 48), (.load 40 (.tmp 47)), 40, "ref.go:46", #[⟨21, .data⟩, ⟨18, .guard⟩], (some (18, false))⟩) (v := undef) rfl (by kernel_rfl) (by kernel_rfl) (by kernel_rfl) (fun _ _ _ h => h) (Or.inr ⟨rfl, rfl⟩) hHeld ?rest212
        (try simp only [Act.put]); (try simp only [List.setIfInBounds_toArray]); (try simp only [List.set_cons_succ]); (try simp only [List.set_cons_zero])
        refine wpAnyH_take (i := 23) (oi := ⟨(some 49), (.move (.tmp 3)), 37, "ref.go:46", #[⟨18, .guard⟩], (some (18, false))⟩) (v := undef) rfl (by kernel_rfl) (by kernel_rfl) (by kernel_rfl) (fun _ _ _ h => h) (Or.inr ⟨rfl, rfl⟩) hHeld ?rest213
        (try simp only [Act.put]); (try simp only [List.setIfInBounds_toArray]); (try simp only [List.set_cons_succ]); (try simp only [List.set_cons_zero])
        refine wpAnyH_take (i := 24) (oi := ⟨(some 50), (.move (.tmp 10)), 3, "ref.go:46", #[⟨18, .guard⟩], (some (18, false))⟩) (v := undef) rfl (by kernel_rfl) (by kernel_rfl) (by kernel_rfl) (fun _ _ _ h => h) (Or.inr ⟨rfl, rfl⟩) hHeld ?rest214
        (try simp only [Act.put]); (try simp only [List.setIfInBounds_toArray]); (try simp only [List.set_cons_succ]); (try simp only [List.set_cons_zero])
        refine wpAnyH_take (i := 25) (oi := ⟨(some 51), (.indexAddr 37 (.tmp 49) (.tmp 50)), 0, "ref.go:46", #[⟨23, .data⟩, ⟨24, .data⟩, ⟨18, .guard⟩], (some (18, false))⟩) (v := undef) rfl (by kernel_rfl) (by kernel_rfl) (by kernel_rfl) (fun _ _ _ h => h) (Or.inr ⟨rfl, rfl⟩) hHeld ?rest215
        (try simp only [Act.put]); (try simp only [List.setIfInBounds_toArray]); (try simp only [List.set_cons_succ]); (try simp only [List.set_cons_zero])
        refine wpAnyH_take (i := 26) (oi := ⟨(some 52), (.load 40 (.tmp 51)), 40, "ref.go:46", #[⟨25, .data⟩, ⟨18, .guard⟩], (some (18, false))⟩) (v := undef) rfl (by kernel_rfl) (by kernel_rfl) (by kernel_rfl) (fun _ _ _ h => h) (Or.inr ⟨rfl, rfl⟩) hHeld ?rest216
        (try simp only [Act.put]); (try simp only [List.setIfInBounds_toArray]); (try simp only [List.set_cons_succ]); (try simp only [List.set_cons_zero])
        refine wpAnyH_take (i := 27) (oi := ⟨(some 53), (.call { callee := (.value (.func 68)), args := #[(.tmp 48), (.tmp 52)], argTypes := #[40, 40] }), 3, "ref.go:46", #[⟨22, .data⟩, ⟨26, .data⟩, ⟨18, .chain⟩, ⟨18, .guard⟩], (some (18, false))⟩) (v := undef) rfl (by kernel_rfl) (by kernel_rfl) (by kernel_rfl) (fun _ _ _ h => h) (Or.inr ⟨rfl, rfl⟩) hHeld ?rest217
        (try simp only [Act.put]); (try simp only [List.setIfInBounds_toArray]); (try simp only [List.set_cons_succ]); (try simp only [List.set_cons_zero])
        refine wpAnyH_take (i := 28) (oi := ⟨(some 54), (.binOp .neq 3 (.tmp 53) (.const (.int .i64 0)) 3), 4, "ref.go:46", #[⟨27, .data⟩, ⟨18, .guard⟩], (some (18, false))⟩) (v := undef) rfl (by kernel_rfl) (by kernel_rfl) (by kernel_rfl) (fun _ _ _ h => h) (Or.inr ⟨rfl, rfl⟩) hHeld ?rest218
        (try simp only [Act.put]); (try simp only [List.setIfInBounds_toArray]); (try simp only [List.set_cons_succ]); (try simp only [List.set_cons_zero])
        refine wpAnyH_take (i := 29) (oi := ⟨(some 55), (.pick (.tmp 44) (.const (.bool true)) (.tmp 54)), 4, "ref.go:46", #[⟨18, .data⟩, ⟨28, .data⟩, ⟨2, .guard⟩], (some (2, true))⟩) (v := undef) rfl (by kernel_rfl) (by kernel_rfl) (by kernel_rfl) (fun _ _ _ h => h) (Or.inr ⟨rfl, rfl⟩) hHeld ?rest219
        (try simp only [Act.put]); (try simp only [List.setIfInBounds_toArray]); (try simp only [List.set_cons_succ]); (try simp only [List.set_cons_zero])
        refine wpAnyH_take (i := 30) (oi := ⟨(some 56), (.pick (.tmp 28) (.tmp 55) (.const (.bool false))), 4, "ref.go:46", #[⟨2, .data⟩, ⟨29, .data⟩], none⟩) (v := ?v220) rfl (by kernel_rfl) (by kernel_rfl) (by kernel_rfl) (fun _ _ _ h => h) (Or.inl ⟨rfl, ?hy220⟩) hHeld ?rest220
        case hy220 => (intro w hSw; (try dsimp only at hSw); go_simp <;> first | with_reducible rfl | rw [if_neg (by omega)] | rw [if_pos (by omega)])
        (try simp only [Act.put]); (try simp only [List.setIfInBounds_toArray]); (try simp only [List.set_cons_succ]); (try simp only [List.set_cons_zero])
        refine wpAnyH_done (by kernel_rfl) ?_ _
        clear hHeld
        clear MKR14
        go_wp2_with fail
        go_roundw
        case rel => exact ⟨k + 1, by go_num, by omega, HS, by first | exact hE3 | exact hE3.drew⟩
        case measure => simp [intOf]; omega
      | some j =>
        have hz := HZ.out
        rw [hpos] at hz
        have hz2 : z = (j : Int) := hz
        subst hz2
        have hj := (posJ_some hpos).1
        have hkx : k < x.length := by rw [HLX.out]; exact hlt
        have HPJ := Lib.hid (show posJ lb la[k]! = some j by rw [HP.out]; exact hpos)
        have hyj : j < y.length := by rw [HLY.out]; exact hj
        obtain ⟨by_, oy, rfl, hcy⟩ := HY.out.2 (by omega)
        obtain ⟨-, Ay, ey, h5y, hley, hvy⟩ := VCells.iff.1 (hcy j hyj)
        have HYJ := Lib.hid (show y[j]! = y[j] from getElem!_pos y j hyj)
        have hsy := HSY.out _ (List.getElem_mem hyj)
        have H1 := Lib.hid (fun W (e : Ext w3 W) => r4_Order xi nullV okx (fun _ => True) Ax none ex 0 W (HVX.out.ext (hE3.trans e)) (SliceR.nil _ _ _) HSK.out szV_null)
        have H2 := Lib.hid (fun W (e : Ext w3 W) => r4_Order xi y[j] okx oky Ax Ay ex ey W (HVX.out.ext (hE3.trans e)) (hvy.ext (hE3.trans e)) HSK.out hsy)
        change Hid (∀ W, Ext w3 W → Calls _ _ #[.agg #[.int .i64 xi.kind, .int .i64 xi.n, .int .i64 xi.d, .string xi.s, .slice Ax xi.l.length ex], .agg #[.int .i64 0, .int .i64 0, .int .i64 0, .string ByteArray.empty, .slice none 0 0]] W _) at H1
        obtain ⟨e0, e1, e2, e3, e4⟩ := H5X.out.ext hE3
        obtain ⟨f0, f1, f2, f3, f4⟩ := h5y.ext hE3
        have HO1 := Lib.hid (ordV_zero xi nullV)
        have HO2 := Lib.hid (ordV_zero xi y[j])
        have HK0 := Lib.hid (fun h => kind_null (x := xi) h)
        have HFF := Lib.hid (fun (h : ¬ (xi ≠ nullV ∧ xi = y[j])) => HF.out k j hlt HPJ.out (by rw [HXK.out, HYJ.out]; exact h))
        have HSS := Lib.hid (fun (h : xi ≠ nullV ∧ xi = y[j]) => HST.out (fun j' hj' => by
          rw [HPJ.out] at hj'; cases hj'
          rw [HXK.out, HYJ.out]; exact h))
        clear hcy h5y hvy hsy hpos HZ HST HF hz H5X HYJ HXK HVX HSK
        generalize y[j] = yj at *
        generalize ordV xi nullV = z1 at *
        generalize ordV xi yj = z2 at *
        obtain ⟨kd, hkd⟩ : ∃ kd, kd = xi.kind := ⟨_, rfl⟩
        rw [← hkd] at HK0 H1 H2 e0
        clear hkd
        by_cases hk0 : kd = 0
        · subst hk0
          by_cases hn : xi = nullV
          · have hz1 := HO1.out.2 hn
            subst hz1
            have HX := Lib.hid (HFF.out (fun h => h.1 hn))
            clear hn HO1 HO2
            go_upto_region 5 with (fail)
            have MKR15 := Lib.hid (fun V (e : Ext w3 V) => (⟨e.cell e0, e.cell e1, e.cell e2, e.cell e3, e.cell e4, e.cell f0, e.cell f1, e.cell f2, e.cell f3, e.cell f4, e⟩ : V.cell? ⟨bx, ox + k * 5, none⟩ = some (.int .i64 0) ∧ V.cell? ⟨bx, ox + k * 5 + 1, none⟩ = some (.int .i64 xi.n) ∧ V.cell? ⟨bx, ox + k * 5 + 2, none⟩ = some (.int .i64 xi.d) ∧ V.cell? ⟨bx, ox + k * 5 + 3, none⟩ = some (.string xi.s) ∧ V.cell? ⟨bx, ox + k * 5 + 4, none⟩ = some (.slice Ax xi.l.length ex) ∧ V.cell? ⟨by_, oy + j * 5, none⟩ = some (.int .i64 yj.kind) ∧ V.cell? ⟨by_, oy + j * 5 + 1, none⟩ = some (.int .i64 yj.n) ∧ V.cell? ⟨by_, oy + j * 5 + 2, none⟩ = some (.int .i64 yj.d) ∧ V.cell? ⟨by_, oy + j * 5 + 3, none⟩ = some (.string yj.s) ∧ V.cell? ⟨by_, oy + j * 5 + 4, none⟩ = some (.slice Ay yj.l.length ey) ∧ Ext w3 V))
            refine wp_region_held_drew (S := (fun V => V.cell? ⟨bx, ox + k * 5, none⟩ = some (.int .i64 0) ∧ V.cell? ⟨bx, ox + k * 5 + 1, none⟩ = some (.int .i64 xi.n) ∧ V.cell? ⟨bx, ox + k * 5 + 2, none⟩ = some (.int .i64 xi.d) ∧ V.cell? ⟨bx, ox + k * 5 + 3, none⟩ = some (.string xi.s) ∧ V.cell? ⟨bx, ox + k * 5 + 4, none⟩ = some (.slice Ax xi.l.length ex) ∧ V.cell? ⟨by_, oy + j * 5, none⟩ = some (.int .i64 yj.kind) ∧ V.cell? ⟨by_, oy + j * 5 + 1, none⟩ = some (.int .i64 yj.n) ∧ V.cell? ⟨by_, oy + j * 5 + 2, none⟩ = some (.int .i64 yj.d) ∧ V.cell? ⟨by_, oy + j * 5 + 3, none⟩ = some (.string yj.s) ∧ V.cell? ⟨by_, oy + j * 5 + 4, none⟩ = some (.slice Ay yj.l.length ey) ∧ Ext w3 V)) (by kernel_rfl) ?hs221 (fun hHeld => ?go221)
            case hs221 => (exact MKR15.out _ (by repeat (first | with_reducible exact Ext.refl _ | with_reducible assumption | with_reducible refine Ext.drew ?_ | with_reducible refine Ext.drewN ?_ _ | with_reducible refine Ext.alloc ?_ _)))
            refine wpAnyH_take (i := 0) (oi := ⟨(some 26), (.move (.tmp 10)), 3, "ref.go:46", #[], none⟩) (v := ?v222) rfl (by kernel_rfl) (by kernel_rfl) (by kernel_rfl) (fun _ _ _ h => h) (Or.inl ⟨rfl, ?hy222⟩) hHeld ?rest222
            case hy222 => (intro w hSw; (try dsimp only at hSw); go_simp <;> first | with_reducible rfl | rw [if_neg (by omega)] | rw [if_pos (by omega)])
            (try simp only [Act.put]); (try simp only [List.setIfInBounds_toArray]); (try simp only [List.set_cons_succ]); (try simp only [List.set_cons_zero])
            refine wpAnyH_take (i := 1) (oi := ⟨(some 27), (.binOp .geq 3 (.tmp 26) (.const (.int .i64 0)) 3), 4, "ref.go:46", #[⟨0, .data⟩], none⟩) (v := ?v223) rfl (by kernel_rfl) (by kernel_rfl) (by kernel_rfl) (fun _ _ _ h => h) (Or.inl ⟨rfl, ?hy223⟩) hHeld ?rest223
            case hy223 => (intro w hSw; (try dsimp only at hSw); go_simp <;> first | with_reducible rfl | rw [if_neg (by omega)] | rw [if_pos (by omega)])
            (try simp only [Act.put]); (try simp only [List.setIfInBounds_toArray]); (try simp only [List.set_cons_succ]); (try simp only [List.set_cons_zero])
            refine wpAnyH_take (i := 2) (oi := ⟨(some 28), (.move (.tmp 27)), 4, "ref.go:46", #[⟨1, .data⟩], none⟩) (v := ?v224) rfl (by kernel_rfl) (by kernel_rfl) (by kernel_rfl) (fun _ _ _ h => h) (Or.inl ⟨rfl, ?hy224⟩) hHeld ?rest224
            case hy224 => (intro w hSw; (try dsimp only at hSw); go_simp <;> first | with_reducible rfl | rw [if_neg (by omega)] | rw [if_pos (by omega)])
            (try simp only [Act.put]); (try simp only [List.setIfInBounds_toArray]); (try simp only [List.set_cons_succ]); (try simp only [List.set_cons_zero])
            refine wpAnyH_take (i := 3) (oi := ⟨(some 29), (.move (.tmp 2)), 37, "ref.go:46", #[⟨2, .guard⟩], (some (2, true))⟩) (v := ?v225) rfl (by kernel_rfl) (by kernel_rfl) (by kernel_rfl) (fun _ _ _ h => h) (Or.inl ⟨rfl, ?hy225⟩) hHeld ?rest225
            case hy225 => (intro w hSw; (try dsimp only at hSw); go_simp <;> first | with_reducible rfl | rw [if_neg (by omega)] | rw [if_pos (by omega)])
            (try simp only [Act.put]); (try simp only [List.setIfInBounds_toArray]); (try simp only [List.set_cons_succ]); (try simp only [List.set_cons_zero])
            refine wpAnyH_take (i := 4) (oi := ⟨(some 30), (.move (.tmp 9)), 3, "ref.go:46", #[⟨2, .guard⟩], (some (2, true))⟩) (v := ?v226) rfl (by kernel_rfl) (by kernel_rfl) (by kernel_rfl) (fun _ _ _ h => h) (Or.inl ⟨rfl, ?hy226⟩) hHeld ?rest226
            case hy226 => (intro w hSw; (try dsimp only at hSw); go_simp <;> first | with_reducible rfl | rw [if_neg (by omega)] | rw [if_pos (by omega)])
            (try simp only [Act.put]); (try simp only [List.setIfInBounds_toArray]); (try simp only [List.set_cons_succ]); (try simp only [List.set_cons_zero])
            refine wpAnyH_take (i := 5) (oi := ⟨(some 31), (.indexAddr 37 (.tmp 29) (.tmp 30)), 0, "ref.go:46", #[⟨3, .data⟩, ⟨4, .data⟩, ⟨2, .guard⟩], (some (2, true))⟩) (v := ?v227) rfl (by kernel_rfl) (by kernel_rfl) (by kernel_rfl) (fun _ _ _ h => h) (Or.inl ⟨rfl, ?hy227⟩) hHeld ?rest227
            case hy227 => (intro w hSw; (try dsimp only at hSw); go_simp <;> first | with_reducible rfl | rw [if_neg (by omega)] | rw [if_pos (by omega)])
            (try simp only [Act.put]); (try simp only [List.setIfInBounds_toArray]); (try simp only [List.set_cons_succ]); (try simp only [List.set_cons_zero])
            refine wpAnyH_take (i := 6) (oi := ⟨(some 32), (.fieldAddr 40 (.tmp 31) 0), 0, "ref.go:46", #[⟨5, .data⟩, ⟨2, .guard⟩], (some (2, true))⟩) (v := ?v228) rfl (by kernel_rfl) (by kernel_rfl) (by kernel_rfl) (fun _ _ _ h => h) (Or.inl ⟨rfl, ?hy228⟩) hHeld ?rest228
            case hy228 => (intro w hSw; (try dsimp only at hSw); go_simp <;> first | with_reducible rfl | rw [if_neg (by omega)] | rw [if_pos (by omega)])
            (try simp only [Act.put]); (try simp only [List.setIfInBounds_toArray]); (try simp only [List.set_cons_succ]); (try simp only [List.set_cons_zero])
            refine wpAnyH_take (i := 7) (oi := ⟨(some 33), (.load 3 (.tmp 32)), 3, "ref.go:46", #[⟨6, .data⟩, ⟨2, .guard⟩], (some (2, true))⟩) (v := ?v229) rfl (by kernel_rfl) (by kernel_rfl) (by kernel_rfl) (fun _ _ _ h => h) (Or.inl ⟨rfl, ?hy229⟩) hHeld ?rest229
            case hy229 => (intro w hSw; (try dsimp only at hSw); go_simp <;> first | with_reducible rfl | rw [if_neg (by omega)] | rw [if_pos (by omega)])
            (try simp only [Act.put]); (try simp only [List.setIfInBounds_toArray]); (try simp only [List.set_cons_succ]); (try simp only [List.set_cons_zero])
            refine wpAnyH_take (i := 8) (oi := ⟨(some 34), (.binOp .eql 3 (.tmp 33) (.const (.int .i64 0)) 3), 4, "ref.go:46", #[⟨7, .data⟩, ⟨2, .guard⟩], (some (2, true))⟩) (v := ?v230) rfl (by kernel_rfl) (by kernel_rfl) (by kernel_rfl) (fun _ _ _ h => h) (Or.inl ⟨rfl, ?hy230⟩) hHeld ?rest230
            case hy230 => (intro w hSw; (try dsimp only at hSw); go_simp <;> first | with_reducible rfl | rw [if_neg (by omega)] | rw [if_pos (by omega)])
            (try simp only [Act.put]); (try simp only [List.setIfInBounds_toArray]); (try simp only [List.set_cons_succ]); (try simp only [List.set_cons_zero])
            refine wpAnyH_take (i := 9) (oi := ⟨(some 35), (.move (.tmp 34)), 4, "ref.go:46", #[⟨8, .data⟩, ⟨2, .chain⟩, ⟨2, .guard⟩], (some (2, true))⟩) (v := ?v231) rfl (by kernel_rfl) (by kernel_rfl) (by kernel_rfl) (fun _ _ _ h => h) (Or.inl ⟨rfl, ?hy231⟩) hHeld ?rest231
            case hy231 => (intro w hSw; (try dsimp only at hSw); go_simp <;> first | with_reducible rfl | rw [if_neg (by omega)] | rw [if_pos (by omega)])
            (try simp only [Act.put]); (try simp only [List.setIfInBounds_toArray]); (try simp only [List.set_cons_succ]); (try simp only [List.set_cons_zero])
            refine wpAnyH_take (i := 10) (oi := ⟨(some 36), (.move (.tmp 2)), 37, "ref.go:46", #[⟨9, .guard⟩], (some (9, true))⟩) (v := ?v232) rfl (by kernel_rfl) (by kernel_rfl) (by kernel_rfl) (fun _ _ _ h => h) (Or.inl ⟨rfl, ?hy232⟩) hHeld ?rest232
            case hy232 => (intro w hSw; (try dsimp only at hSw); go_simp <;> first | with_reducible rfl | rw [if_neg (by omega)] | rw [if_pos (by omega)])
            (try simp only [Act.put]); (try simp only [List.setIfInBounds_toArray]); (try simp only [List.set_cons_succ]); (try simp only [List.set_cons_zero])
            refine wpAnyH_take (i := 11) (oi := ⟨(some 37), (.move (.tmp 9)), 3, "ref.go:46", #[⟨9, .guard⟩], (some (9, true))⟩) (v := ?v233) rfl (by kernel_rfl) (by kernel_rfl) (by kernel_rfl) (fun _ _ _ h => h) (Or.inl ⟨rfl, ?hy233⟩) hHeld ?rest233
            case hy233 => (intro w hSw; (try dsimp only at hSw); go_simp <;> first | with_reducible rfl | rw [if_neg (by omega)] | rw [if_pos (by omega)])
            (try simp only [Act.put]); (try simp only [List.setIfInBounds_toArray]); (try simp only [List.set_cons_succ]); (try simp only [List.set_cons_zero])
            refine wpAnyH_take (i := 12) (oi := ⟨(some 38), (.indexAddr 37 (.tmp 36) (.tmp 37)), 0, "ref.go:46", #[⟨10, .data⟩, ⟨11, .data⟩, ⟨9, .guard⟩], (some (9, true))⟩) (v := ?v234) rfl (by kernel_rfl) (by kernel_rfl) (by kernel_rfl) (fun _ _ _ h => h) (Or.inl ⟨rfl, ?hy234⟩) hHeld ?rest234
            case hy234 => (intro w hSw; (try dsimp only at hSw); go_simp <;> first | with_reducible rfl | rw [if_neg (by omega)] | rw [if_pos (by omega)])
            (try simp only [Act.put]); (try simp only [List.setIfInBounds_toArray]); (try simp only [List.set_cons_succ]); (try simp only [List.set_cons_zero])
            refine wpAnyH_take (i := 13) (oi := ⟨(some 39), (.load 40 (.tmp 38)), 40, "ref.go:46", #[⟨12, .data⟩, ⟨9, .guard⟩], (some (9, true))⟩) (v := ?v235) rfl (by kernel_rfl) (by kernel_rfl) (by kernel_rfl) (fun _ _ _ h => h) (Or.inl ⟨rfl, ?hy235⟩) hHeld ?rest235
            case hy235 => (intro w hSw; (try dsimp only at hSw); go_simp <;> first | with_reducible rfl | rw [if_neg (by omega)] | rw [if_pos (by omega)])
            (try simp only [Act.put]); (try simp only [List.setIfInBounds_toArray]); (try simp only [List.set_cons_succ]); (try simp only [List.set_cons_zero])
            refine wpAnyH_ready (rs := [14]) (by kernel_rfl) (by simp) ?_
            refine AllReadyH.cons (o := ⟨(some 40), (.call { callee := (.value (.func 43)), args := #[], argTypes := #[] }), 40, "ref.go:46", #[⟨9, .chain⟩, ⟨9, .guard⟩], (some (9, true))⟩) rfl (fun K hK => ?step236x0) ?more236x0
            case more236x0 => exact AllReadyH.nil
            go_simp
            (refine (HN.out _).mono ?_; rintro e w4 ⟨rfl, hx4⟩; replace hx4 : Ext w3 w4 := Ext.trans (by repeat (first | with_reducible exact Ext.refl _ | with_reducible assumption | with_reducible refine Ext.drew ?_ | with_reducible refine Ext.drewN ?_ _ | with_reducible refine Ext.alloc ?_ _)) hx4)
            refine hK.out _ _ ?hS236x0 (fun hHeld236 => ?rest236x0)
            case hS236x0 => first | (exact MKR15.out _ (by repeat (first | with_reducible exact Ext.refl _ | with_reducible assumption | with_reducible refine Ext.drew ?_ | with_reducible refine Ext.drewN ?_ _ | with_reducible refine Ext.alloc ?_ _))) | ((try dsimp only); (exact MKR15.out _ (by repeat (first | with_reducible exact Ext.refl _ | with_reducible assumption | with_reducible refine Ext.drew ?_ | with_reducible refine Ext.drewN ?_ _ | with_reducible refine Ext.alloc ?_ _))))
            clear hK K
            clear hHeld
            (try simp only [Act.put]); (try simp only [List.setIfInBounds_toArray]); (try simp only [List.set_cons_succ]); (try simp only [List.set_cons_zero])
            refine wpAnyH_ready (rs := [15]) (by kernel_rfl) (by simp) ?_
            refine AllReadyH.cons (o := ⟨(some 41), (.call { callee := (.value (.func 68)), args := #[(.tmp 39), (.tmp 40)], argTypes := #[40, 40] }), 3, "ref.go:46", #[⟨13, .data⟩, ⟨14, .data⟩, ⟨14, .chain⟩, ⟨9, .guard⟩], (some (9, true))⟩) rfl (fun K hK => ?step237x0) ?more237x0
            case more237x0 => exact AllReadyH.nil
            go_simp
            (refine (H1.out _ (by repeat (first | with_reducible exact Ext.refl _ | with_reducible assumption | with_reducible refine Ext.drew ?_ | with_reducible refine Ext.drewN ?_ _ | with_reducible refine Ext.alloc ?_ _))).mono ?_; rintro e w5 ⟨rfl, hx5⟩; replace hx5 : Ext w3 w5 := Ext.trans (by repeat (first | with_reducible exact Ext.refl _ | with_reducible assumption | with_reducible refine Ext.drew ?_ | with_reducible refine Ext.drewN ?_ _ | with_reducible refine Ext.alloc ?_ _)) hx5)
            refine hK.out _ _ ?hS237x0 (fun hHeld237 => ?rest237x0)
            case hS237x0 => first | (exact MKR15.out _ (by repeat (first | with_reducible exact Ext.refl _ | with_reducible assumption | with_reducible refine Ext.drew ?_ | with_reducible refine Ext.drewN ?_ _ | with_reducible refine Ext.alloc ?_ _))) | ((try dsimp only); (exact MKR15.out _ (by repeat (first | with_reducible exact Ext.refl _ | with_reducible assumption | with_reducible refine Ext.drew ?_ | with_reducible refine Ext.drewN ?_ _ | with_reducible refine Ext.alloc ?_ _))))
            clear hK K
            clear hHeld236
            (try simp only [Act.put]); (try simp only [List.setIfInBounds_toArray]); (try simp only [List.set_cons_succ]); (try simp only [List.set_cons_zero])
            refine wpAnyH_take (i := 16) (oi := ⟨(some 42), (.binOp .eql 3 (.tmp 41) (.const (.int .i64 0)) 3), 4, "ref.go:46", #[⟨15, .data⟩, ⟨9, .guard⟩], (some (9, true))⟩) (v := ?v238) rfl (by kernel_rfl) (by kernel_rfl) (by kernel_rfl) (fun _ _ _ h => h) (Or.inl ⟨rfl, ?hy238⟩) hHeld237 ?rest238
            case hy238 => (intro w hSw; (try dsimp only at hSw); go_simp <;> first | with_reducible rfl | rw [if_neg (by omega)] | rw [if_pos (by omega)])
            (try simp only [Act.put]); (try simp only [List.setIfInBounds_toArray]); (try simp only [List.set_cons_succ]); (try simp only [List.set_cons_zero])
            refine wpAnyH_take (i := 17) (oi := ⟨(some 43), (.pick (.tmp 35) (.tmp 42) (.const (.bool false))), 4, "ref.go:46", #[⟨9, .data⟩, ⟨16, .data⟩, ⟨2, .guard⟩], (some (2, true))⟩) (v := ?v239) rfl (by kernel_rfl) (by kernel_rfl) (by kernel_rfl) (fun _ _ _ h => h) (Or.inl ⟨rfl, ?hy239⟩) hHeld237 ?rest239
            case hy239 => (intro w hSw; (try dsimp only at hSw); go_simp <;> first | with_reducible rfl | rw [if_neg (by omega)] | rw [if_pos (by omega)])
            (try simp only [Act.put]); (try simp only [List.setIfInBounds_toArray]); (try simp only [List.set_cons_succ]); (try simp only [List.set_cons_zero])
            refine wpAnyH_take (i := 18) (oi := ⟨(some 44), (.move (.tmp 43)), 4, "ref.go:46", #[⟨17, .data⟩, ⟨15, .chain⟩, ⟨2, .guard⟩], (some (2, true))⟩) (v := ?v240) rfl (by kernel_rfl) (by kernel_rfl) (by kernel_rfl) (fun _ _ _ h => h) (Or.inl ⟨rfl, ?hy240⟩) hHeld237 ?rest240
            case hy240 => (intro w hSw; (try dsimp only at hSw); go_simp <;> first | with_reducible rfl | rw [if_neg (by omega)] | rw [if_pos (by omega)])
            (try simp only [Act.put]); (try simp only [List.setIfInBounds_toArray]); (try simp only [List.set_cons_succ]); (try simp only [List.set_cons_zero])
            refine wpAnyH_take (i := 19) (oi := ⟨(some 45), (.move (.tmp 2)), 37, "ref.go:46", #[⟨18, .guard⟩], (some (18, false))⟩) (v := undef) rfl (by kernel_rfl) (by kernel_rfl) (by kernel_rfl) (fun _ _ _ h => h) (Or.inr ⟨rfl, rfl⟩) hHeld237 ?rest241
            (try simp only [Act.put]); (try simp only [List.setIfInBounds_toArray]); (try simp only [List.set_cons_succ]); (try simp only [List.set_cons_zero])
            refine wpAnyH_take (i := 20) (oi := ⟨(some 46), (.move (.tmp 9)), 3, "ref.go:46", #[⟨18, .guard⟩], (some (18, false))⟩) (v := undef) rfl (by kernel_rfl) (by kernel_rfl) (by kernel_rfl) (fun _ _ _ h => h) (Or.inr ⟨rfl, rfl⟩) hHeld237 ?rest242
            (try simp only [Act.put]); (try simp only [List.setIfInBounds_toArray]); (try simp only [List.set_cons_succ]); (try simp only [List.set_cons_zero])
            refine wpAnyH_take (i := 21) (oi := ⟨(some 47), (.indexAddr 37 (.tmp 45) (.tmp 46)), 0, "ref.go:46", #[⟨19, .data⟩, ⟨20, .data⟩, ⟨18, .guard⟩], (some (18, false))⟩) (v := undef) rfl (by kernel_rfl) (by kernel_rfl) (by kernel_rfl) (fun _ _ _ h => h) (Or.inr ⟨rfl, rfl⟩) hHeld237 ?rest243
            (try simp only [Act.put]); (try simp only [List.setIfInBounds_toArray]); (try simp only [List.set_cons_succ]); (try simp only [List.set_cons_zero])
            refine wpAnyH_take (i := 22) (oi := ⟨(some 48), (.load 40 (.tmp 47)), 40, "ref.go:46", #[⟨21, .data⟩, ⟨18, .guard⟩], (some (18, false))⟩) (v := undef) rfl (by kernel_rfl) (by kernel_rfl) (by kernel_rfl) (fun _ _ _ h => h) (Or.inr ⟨rfl, rfl⟩) hHeld237 ?rest244
            (try simp only [Act.put]); (try simp only [List.setIfInBounds_toArray]); (try simp only [List.set_cons_succ]); (try simp only [List.set_cons_zero])
            refine wpAnyH_take (i := 23) (oi := ⟨(some 49), (.move (.tmp 3)), 37, "ref.go:46", #[⟨18, .guard⟩], (some (18, false))⟩) (v := undef) rfl (by kernel_rfl) (by kernel_rfl) (by kernel_rfl) (fun _ _ _ h => h) (Or.inr ⟨rfl, rfl⟩) hHeld237 ?rest245
            (try simp only [Act.put]); (try simp only [List.setIfInBounds_toArray]); (try simp only [List.set_cons_succ]); (try simp only [List.set_cons_zero])
            refine wpAnyH_take (i := 24) (oi := ⟨(some 50), (.move (.tmp 10)), 3, "ref.go:46", #[⟨18, .guard⟩], (some (18, false))⟩) (v := undef) rfl (by kernel_rfl) (by kernel_rfl) (by kernel_rfl) (fun _ _ _ h => h) (Or.inr ⟨rfl, rfl⟩) hHeld237 ?rest246
            (try simp only [Act.put]); (try simp only [List.setIfInBounds_toArray]); (try simp only [List.set_cons_succ]); (try simp only [List.set_cons_zero])
            refine wpAnyH_take (i := 25) (oi := ⟨(some 51), (.indexAddr 37 (.tmp 49) (.tmp 50)), 0, "ref.go:46", #[⟨23, .data⟩, ⟨24, .data⟩, ⟨18, .guard⟩], (some (18, false))⟩) (v := undef) rfl (by kernel_rfl) (by kernel_rfl) (by kernel_rfl) (fun _ _ _ h => h) (Or.inr ⟨rfl, rfl⟩) hHeld237 ?rest247
            (try simp only [Act.put]); (try simp only [List.setIfInBounds_toArray]); (try simp only [List.set_cons_succ]); (try simp only [List.set_cons_zero])
            refine wpAnyH_take (i := 26) (oi := ⟨(some 52), (.load 40 (.tmp 51)), 40, "ref.go:46", #[⟨25, .data⟩, ⟨18, .guard⟩], (some (18, false))⟩) (v := undef) rfl (by kernel_rfl) (by kernel_rfl) (by kernel_rfl) (fun _ _ _ h => h) (Or.inr ⟨rfl, rfl⟩) hHeld237 ?rest248
            (try simp only [Act.put]); (try simp only [List.setIfInBounds_toArray]); (try simp only [List.set_cons_succ]); (try simp only [List.set_cons_zero])
            refine wpAnyH_take (i := 27) (oi := ⟨(some 53), (.call { callee := (.value (.func 68)), args := #[(.tmp 48), (.tmp 52)], argTypes := #[40, 40] }), 3, "ref.go:46", #[⟨22, .data⟩, ⟨26, .data⟩, ⟨18, .chain⟩, ⟨18, .guard⟩], (some (18, false))⟩) (v := undef) rfl (by kernel_rfl) (by kernel_rfl) (by kernel_rfl) (fun _ _ _ h => h) (Or.inr ⟨rfl, rfl⟩) hHeld237 ?rest249
            (try simp only [Act.put]); (try simp only [List.setIfInBounds_toArray]); (try simp only [List.set_cons_succ]); (try simp only [List.set_cons_zero])
            refine wpAnyH_take (i := 28) (oi := ⟨(some 54), (.binOp .neq 3 (.tmp 53) (.const (.int .i64 0)) 3), 4, "ref.go:46", #[⟨27, .data⟩, ⟨18, .guard⟩], (some (18, false))⟩) (v := undef) rfl (by kernel_rfl) (by kernel_rfl) (by kernel_rfl) (fun _ _ _ h => h) (Or.inr ⟨rfl, rfl⟩) hHeld237 ?rest250
            (try simp only [Act.put]); (try simp only [List.setIfInBounds_toArray]); (try simp only [List.set_cons_succ]); (try simp only [List.set_cons_zero])
            refine wpAnyH_take (i := 29) (oi := ⟨(some 55), (.pick (.tmp 44) (.const (.bool true)) (.tmp 54)), 4, "ref.go:46", #[⟨18, .data⟩, ⟨28, .data⟩, ⟨2, .guard⟩], (some (2, true))⟩) (v := ?v251) rfl (by kernel_rfl) (by kernel_rfl) (by kernel_rfl) (fun _ _ _ h => h) (Or.inl ⟨rfl, ?hy251⟩) hHeld237 ?rest251
            case hy251 => (intro w hSw; (try dsimp only at hSw); go_simp <;> first | with_reducible rfl | rw [if_neg (by omega)] | rw [if_pos (by omega)])
            (try simp only [Act.put]); (try simp only [List.setIfInBounds_toArray]); (try simp only [List.set_cons_succ]); (try simp only [List.set_cons_zero])
            refine wpAnyH_take (i := 30) (oi := ⟨(some 56), (.pick (.tmp 28) (.tmp 55) (.const (.bool false))), 4, "ref.go:46", #[⟨2, .data⟩, ⟨29, .data⟩], none⟩) (v := ?v252) rfl (by kernel_rfl) (by kernel_rfl) (by kernel_rfl) (fun _ _ _ h => h) (Or.inl ⟨rfl, ?hy252⟩) hHeld237 ?rest252
            case hy252 => (intro w hSw; (try dsimp only at hSw); go_simp <;> first | with_reducible rfl | rw [if_neg (by omega)] | rw [if_pos (by omega)])
            (try simp only [Act.put]); (try simp only [List.setIfInBounds_toArray]); (try simp only [List.set_cons_succ]); (try simp only [List.set_cons_zero])
            refine wpAnyH_done (by kernel_rfl) ?_ _
            clear hHeld237
            clear MKR15
            go_wp2_with fail
            go_ret
            exact ⟨ret_bool HX.out.symm, hxw.trans (hE3.trans hx5)⟩
          · have hz1 : ¬ z1 = 0 := fun h => hn (HO1.out.1 h)
            by_cases he : xi = yj
            · have hz2 := HO2.out.2 he
              subst hz2
              have HX := Lib.hid (HSS.out ⟨hn, he⟩)
              clear hn he HO1 HO2
              go_upto_region 5 with (fail)
              have MKR16 := Lib.hid (fun V (e : Ext w3 V) => (⟨e.cell e0, e.cell e1, e.cell e2, e.cell e3, e.cell e4, e.cell f0, e.cell f1, e.cell f2, e.cell f3, e.cell f4, e⟩ : V.cell? ⟨bx, ox + k * 5, none⟩ = some (.int .i64 0) ∧ V.cell? ⟨bx, ox + k * 5 + 1, none⟩ = some (.int .i64 xi.n) ∧ V.cell? ⟨bx, ox + k * 5 + 2, none⟩ = some (.int .i64 xi.d) ∧ V.cell? ⟨bx, ox + k * 5 + 3, none⟩ = some (.string xi.s) ∧ V.cell? ⟨bx, ox + k * 5 + 4, none⟩ = some (.slice Ax xi.l.length ex) ∧ V.cell? ⟨by_, oy + j * 5, none⟩ = some (.int .i64 yj.kind) ∧ V.cell? ⟨by_, oy + j * 5 + 1, none⟩ = some (.int .i64 yj.n) ∧ V.cell? ⟨by_, oy + j * 5 + 2, none⟩ = some (.int .i64 yj.d) ∧ V.cell? ⟨by_, oy + j * 5 + 3, none⟩ = some (.string yj.s) ∧ V.cell? ⟨by_, oy + j * 5 + 4, none⟩ = some (.slice Ay yj.l.length ey) ∧ Ext w3 V))
              refine wp_region_held_drew (S := (fun V => V.cell? ⟨bx, ox + k * 5, none⟩ = some (.int .i64 0) ∧ V.cell? ⟨bx, ox + k * 5 + 1, none⟩ = some (.int .i64 xi.n) ∧ V.cell? ⟨bx, ox + k * 5 + 2, none⟩ = some (.int .i64 xi.d) ∧ V.cell? ⟨bx, ox + k * 5 + 3, none⟩ = some (.string xi.s) ∧ V.cell? ⟨bx, ox + k * 5 + 4, none⟩ = some (.slice Ax xi.l.length ex) ∧ V.cell? ⟨by_, oy + j * 5, none⟩ = some (.int .i64 yj.kind) ∧ V.cell? ⟨by_, oy + j * 5 + 1, none⟩ = some (.int .i64 yj.n) ∧ V.cell? ⟨by_, oy + j * 5 + 2, none⟩ = some (.int .i64 yj.d) ∧ V.cell? ⟨by_, oy + j * 5 + 3, none⟩ = some (.string yj.s) ∧ V.cell? ⟨by_, oy + j * 5 + 4, none⟩ = some (.slice Ay yj.l.length ey) ∧ Ext w3 V)) (by kernel_rfl) ?hs253 (fun hHeld => ?go253)
              case hs253 => (exact MKR16.out _ (by repeat (first | with_reducible exact Ext.refl _ | with_reducible assumption | with_reducible refine Ext.drew ?_ | with_reducible refine Ext.drewN ?_ _ | with_reducible refine Ext.alloc ?_ _)))
              refine wpAnyH_take (i := 0) (oi := ⟨(some 26), (.move (.tmp 10)), 3, "ref.go:46", #[], none⟩) (v := ?v254) rfl (by kernel_rfl) (by kernel_rfl) (by kernel_rfl) (fun _ _ _ h => h) (Or.inl ⟨rfl, ?hy254⟩) hHeld ?rest254
              case hy254 => (intro w hSw; (try dsimp only at hSw); go_simp <;> first | with_reducible rfl | rw [if_neg (by omega)] | rw [if_pos (by omega)])
              (try simp only [Act.put]); (try simp only [List.setIfInBounds_toArray]); (try simp only [List.set_cons_succ]); (try simp only [List.set_cons_zero])
              refine wpAnyH_take (i := 1) (oi := ⟨(some 27), (.binOp .geq 3 (.tmp 26) (.const (.int .i64 0)) 3), 4, "ref.go:46", #[⟨0, .data⟩], none⟩) (v := ?v255) rfl (by kernel_rfl) (by kernel_rfl) (by kernel_rfl) (fun _ _ _ h => h) (Or.inl ⟨rfl, ?hy255⟩) hHeld ?rest255
              case hy255 => (intro w hSw; (try dsimp only at hSw); go_simp <;> first | with_reducible rfl | rw [if_neg (by omega)] | rw [if_pos (by omega)])
              (try simp only [Act.put]); (try simp only [List.setIfInBounds_toArray]); (try simp only [List.set_cons_succ]); (try simp only [List.set_cons_zero])
              refine wpAnyH_take (i := 2) (oi := ⟨(some 28), (.move (.tmp 27)), 4, "ref.go:46", #[⟨1, .data⟩], none⟩) (v := ?v256) rfl (by kernel_rfl) (by kernel_rfl) (by kernel_rfl) (fun _ _ _ h => h) (Or.inl ⟨rfl, ?hy256⟩) hHeld ?rest256
              case hy256 => (intro w hSw; (try dsimp only at hSw); go_simp <;> first | with_reducible rfl | rw [if_neg (by omega)] | rw [if_pos (by omega)])
              (try simp only [Act.put]); (try simp only [List.setIfInBounds_toArray]); (try simp only [List.set_cons_succ]); (try simp only [List.set_cons_zero])
              refine wpAnyH_take (i := 3) (oi := ⟨(some 29), (.move (.tmp 2)), 37, "ref.go:46", #[⟨2, .guard⟩], (some (2, true))⟩) (v := ?v257) rfl (by kernel_rfl) (by kernel_rfl) (by kernel_rfl) (fun _ _ _ h => h) (Or.inl ⟨rfl, ?hy257⟩) hHeld ?rest257
              case hy257 => (intro w hSw; (try dsimp only at hSw); go_simp <;> first | with_reducible rfl | rw [if_neg (by omega)] | rw [if_pos (by omega)])
              (try simp only [Act.put]); (try simp only [List.setIfInBounds_toArray]); (try simp only [List.set_cons_succ]); (try simp only [List.set_cons_zero])
              refine wpAnyH_take (i := 4) (oi := ⟨(some 30), (.move (.tmp 9)), 3, "ref.go:46", #[⟨2, .guard⟩], (some (2, true))⟩) (v := ?v258) rfl (by kernel_rfl) (by kernel_rfl) (by kernel_rfl) (fun _ _ _ h => h) (Or.inl ⟨rfl, ?hy258⟩) hHeld ?rest258
              case hy258 => (intro w hSw; (try dsimp only at hSw); go_simp <;> first | with_reducible rfl | rw [if_neg (by omega)] | rw [if_pos (by omega)])
              (try simp only [Act.put]); (try simp only [List.setIfInBounds_toArray]); (try simp only [List.set_cons_succ]); (try simp only [List.set_cons_zero])
              refine wpAnyH_take (i := 5) (oi := ⟨(some 31), (.indexAddr 37 (.tmp 29) (.tmp 30)), 0, "ref.go:46", #[⟨3, .data⟩, ⟨4, .data⟩, ⟨2, .guard⟩], (some (2, true))⟩) (v := ?v259) rfl (by kernel_rfl) (by kernel_rfl) (by kernel_rfl) (fun _ _ _ h => h) (Or.inl ⟨rfl, ?hy259⟩) hHeld ?rest259
              case hy259 => (intro w hSw; (try dsimp only at hSw); go_simp <;> first | with_reducible rfl | rw [if_neg (by omega)] | rw [if_pos (by omega)])
              (try simp only [Act.put]); (try simp only [List.setIfInBounds_toArray]); (try simp only [List.set_cons_succ]); (try simp only [List.set_cons_zero])
              refine wpAnyH_take (i := 6) (oi := ⟨(some 32), (.fieldAddr 40 (.tmp 31) 0), 0, "ref.go:46", #[⟨5, .data⟩, ⟨2, .guard⟩], (some (2, true))⟩) (v := ?v260) rfl (by kernel_rfl) (by kernel_rfl) (by kernel_rfl) (fun _ _ _ h => h) (Or.inl ⟨rfl, ?hy260⟩) hHeld ?rest260
              case hy260 => (intro w hSw; (try dsimp only at hSw); go_simp <;> first | with_reducible rfl | rw [if_neg (by omega)] | rw [if_pos (by omega)])
              (try simp only [Act.put]); (try simp only [List.setIfInBounds_toArray]); (try simp only [List.set_cons_succ]); (try simp only [List.set_cons_zero])
              refine wpAnyH_take (i := 7) (oi := ⟨(some 33), (.load 3 (.tmp 32)), 3, "ref.go:46", #[⟨6, .data⟩, ⟨2, .guard⟩], (some (2, true))⟩) (v := ?v261) rfl (by kernel_rfl) (by kernel_rfl) (by kernel_rfl) (fun _ _ _ h => h) (Or.inl ⟨rfl, ?hy261⟩) hHeld ?rest261
              case hy261 => (intro w hSw; (try dsimp only at hSw); go_simp <;> first | with_reducible rfl | rw [if_neg (by omega)] | rw [if_pos (by omega)])
              (try simp only [Act.put]); (try simp only [List.setIfInBounds_toArray]); (try simp only [List.set_cons_succ]); (try simp only [List.set_cons_zero])
              refine wpAnyH_take (i := 8) (oi := ⟨(some 34), (.binOp .eql 3 (.tmp 33) (.const (.int .i64 0)) 3), 4, "ref.go:46", #[⟨7, .data⟩, ⟨2, .guard⟩], (some (2, true))⟩) (v := ?v262) rfl (by kernel_rfl) (by kernel_rfl) (by kernel_rfl) (fun _ _ _ h => h) (Or.inl ⟨rfl, ?hy262⟩) hHeld ?rest262
              case hy262 => (intro w hSw; (try dsimp only at hSw); go_simp <;> first | with_reducible rfl | rw [if_neg (by omega)] | rw [if_pos (by omega)])
              (try simp only [Act.put]); (try simp only [List.setIfInBounds_toArray]); (try simp only [List.set_cons_succ]); (try simp only [List.set_cons_zero])
              refine wpAnyH_take (i := 9) (oi := ⟨(some 35), (.move (.tmp 34)), 4, "ref.go:46", #[⟨8, .data⟩, ⟨2, .chain⟩, ⟨2, .guard⟩], (some (2, true))⟩) (v := ?v263) rfl (by kernel_rfl) (by kernel_rfl) (by kernel_rfl) (fun _ _ _ h => h) (Or.inl ⟨rfl, ?hy263⟩) hHeld ?rest263
              case hy263 => (intro w hSw; (try dsimp only at hSw); go_simp <;> first | with_reducible rfl | rw [if_neg (by omega)] | rw [if_pos (by omega)])
              (try simp only [Act.put]); (try simp only [List.setIfInBounds_toArray]); (try simp only [List.set_cons_succ]); (try simp only [List.set_cons_zero])
              refine wpAnyH_take (i := 10) (oi := ⟨(some 36), (.move (.tmp 2)), 37, "ref.go:46", #[⟨9, .guard⟩], (some (9, true))⟩) (v := ?v264) rfl (by kernel_rfl) (by kernel_rfl) (by kernel_rfl) (fun _ _ _ h => h) (Or.inl ⟨rfl, ?hy264⟩) hHeld ?rest264
              case hy264 => (intro w hSw; (try dsimp only at hSw); go_simp <;> first | with_reducible rfl | rw [if_neg (by omega)] | rw [if_pos (by omega)])
              (try simp only [Act.put]); (try simp only [List.setIfInBounds_toArray]); (try simp only [List.set_cons_succ]); (try simp only [List.set_cons_zero])
              refine wpAnyH_take (i := 11) (oi := ⟨(some 37), (.move (.tmp 9)), 3, "ref.go:46", #[⟨9, .guard⟩], (some (9, true))⟩) (v := ?v265) rfl (by kernel_rfl) (by kernel_rfl) (by kernel_rfl) (fun _ _ _ h => h) (Or.inl ⟨rfl, ?hy265⟩) hHeld ?rest265
              case hy265 => (intro w hSw; (try dsimp only at hSw); go_simp <;> first | with_reducible rfl | rw [if_neg (by omega)] | rw [if_pos (by omega)])
              (try simp only [Act.put]); (try simp only [List.setIfInBounds_toArray]); (try simp only [List.set_cons_succ]); (try simp only [List.set_cons_zero])
              refine wpAnyH_take (i := 12) (oi := ⟨(some 38), (.indexAddr 37 (.tmp 36) (.tmp 37)), 0, "ref.go:46", #[⟨10, .data⟩, ⟨11, .data⟩, ⟨9, .guard⟩], (some (9, true))⟩) (v := ?v266) rfl (by kernel_rfl) (by kernel_rfl) (by kernel_rfl) (fun _ _ _ h => h) (Or.inl ⟨rfl, ?hy266⟩) hHeld ?rest266
              case hy266 => (intro w hSw; (try dsimp only at hSw); go_simp <;> first | with_reducible rfl | rw [if_neg (by omega)] | rw [if_pos (by omega)])
              (try simp only [Act.put]); (try simp only [List.setIfInBounds_toArray]); (try simp only [List.set_cons_succ]); (try simp only [List.set_cons_zero])
              refine wpAnyH_take (i := 13) (oi := ⟨(some 39), (.load 40 (.tmp 38)), 40, "ref.go:46", #[⟨12, .data⟩, ⟨9, .guard⟩], (some (9, true))⟩) (v := ?v267) rfl (by kernel_rfl) (by kernel_rfl) (by kernel_rfl) (fun _ _ _ h => h) (Or.inl ⟨rfl, ?hy267⟩) hHeld ?rest267
              case hy267 => (intro w hSw; (try dsimp only at hSw); go_simp <;> first | with_reducible rfl | rw [if_neg (by omega)] | rw [if_pos (by omega)])
              (try simp only [Act.put]); (try simp only [List.setIfInBounds_toArray]); (try simp only [List.set_cons_succ]); (try simp only [List.set_cons_zero])
              refine wpAnyH_ready (rs := [14]) (by kernel_rfl) (by simp) ?_
              refine AllReadyH.cons (o := ⟨(some 40), (.call { callee := (.value (.func 43)), args := #[], argTypes := #[] }), 40, "ref.go:46", #[⟨9, .chain⟩, ⟨9, .guard⟩], (some (9, true))⟩) rfl (fun K hK => ?step268x0) ?more268x0
              case more268x0 => exact AllReadyH.nil
              go_simp
              (refine (HN.out _).mono ?_; rintro e w4 ⟨rfl, hx4⟩; replace hx4 : Ext w3 w4 := Ext.trans (by repeat (first | with_reducible exact Ext.refl _ | with_reducible assumption | with_reducible refine Ext.drew ?_ | with_reducible refine Ext.drewN ?_ _ | with_reducible refine Ext.alloc ?_ _)) hx4)
              refine hK.out _ _ ?hS268x0 (fun hHeld268 => ?rest268x0)
              case hS268x0 => first | (exact MKR16.out _ (by repeat (first | with_reducible exact Ext.refl _ | with_reducible assumption | with_reducible refine Ext.drew ?_ | with_reducible refine Ext.drewN ?_ _ | with_reducible refine Ext.alloc ?_ _))) | ((try dsimp only); (exact MKR16.out _ (by repeat (first | with_reducible exact Ext.refl _ | with_reducible assumption | with_reducible refine Ext.drew ?_ | with_reducible refine Ext.drewN ?_ _ | with_reducible refine Ext.alloc ?_ _))))
              clear hK K
              clear hHeld
              (try simp only [Act.put]); (try simp only [List.setIfInBounds_toArray]); (try simp only [List.set_cons_succ]); (try simp only [List.set_cons_zero])
              refine wpAnyH_ready (rs := [15]) (by kernel_rfl) (by simp) ?_
              refine AllReadyH.cons (o := ⟨(some 41), (.call { callee := (.value (.func 68)), args := #[(.tmp 39), (.tmp 40)], argTypes := #[40, 40] }), 3, "ref.go:46", #[⟨13, .data⟩, ⟨14, .data⟩, ⟨14, .chain⟩, ⟨9, .guard⟩], (some (9, true))⟩) rfl (fun K hK => ?step269x0) ?more269x0
              case more269x0 => exact AllReadyH.nil
              go_simp
              (refine (H1.out _ (by repeat (first | with_reducible exact Ext.refl _ | with_reducible assumption | with_reducible refine Ext.drew ?_ | with_reducible refine Ext.drewN ?_ _ | with_reducible refine Ext.alloc ?_ _))).mono ?_; rintro e w5 ⟨rfl, hx5⟩; replace hx5 : Ext w3 w5 := Ext.trans (by repeat (first | with_reducible exact Ext.refl _ | with_reducible assumption | with_reducible refine Ext.drew ?_ | with_reducible refine Ext.drewN ?_ _ | with_reducible refine Ext.alloc ?_ _)) hx5)
              refine hK.out _ _ ?hS269x0 (fun hHeld269 => ?rest269x0)
              case hS269x0 => first | (exact MKR16.out _ (by repeat (first | with_reducible exact Ext.refl _ | with_reducible assumption | with_reducible refine Ext.drew ?_ | with_reducible refine Ext.drewN ?_ _ | with_reducible refine Ext.alloc ?_ _))) | ((try dsimp only); (exact MKR16.out _ (by repeat (first | with_reducible exact Ext.refl _ | with_reducible assumption | with_reducible refine Ext.drew ?_ | with_reducible refine Ext.drewN ?_ _ | with_reducible refine Ext.alloc ?_ _))))
              clear hK K
              clear hHeld268
              (try simp only [Act.put]); (try simp only [List.setIfInBounds_toArray]); (try simp only [List.set_cons_succ]); (try simp only [List.set_cons_zero])
              refine wpAnyH_take (i := 16) (oi := ⟨(some 42), (.binOp .eql 3 (.tmp 41) (.const (.int .i64 0)) 3), 4, "ref.go:46", #[⟨15, .data⟩, ⟨9, .guard⟩], (some (9, true))⟩) (v := ?v270) rfl (by kernel_rfl) (by kernel_rfl) (by kernel_rfl) (fun _ _ _ h => h) (Or.inl ⟨rfl, ?hy270⟩) hHeld269 ?rest270
              case hy270 => (intro w hSw; (try dsimp only at hSw); go_simp <;> first | rw [decide_eq_false hz1] | rw [beq_eq_false_iff_ne.2 hz1] | rw [decide_eq_true hz1] | rw [beq_iff_eq.2 hz1])
              (try simp only [Act.put]); (try simp only [List.setIfInBounds_toArray]); (try simp only [List.set_cons_succ]); (try simp only [List.set_cons_zero])
              refine wpAnyH_take (i := 17) (oi := ⟨(some 43), (.pick (.tmp 35) (.tmp 42) (.const (.bool false))), 4, "ref.go:46", #[⟨9, .data⟩, ⟨16, .data⟩, ⟨2, .guard⟩], (some (2, true))⟩) (v := ?v271) rfl (by kernel_rfl) (by kernel_rfl) (by kernel_rfl) (fun _ _ _ h => h) (Or.inl ⟨rfl, ?hy271⟩) hHeld269 ?rest271
              case hy271 => (intro w hSw; (try dsimp only at hSw); go_simp <;> first | with_reducible rfl | rw [if_neg (by omega)] | rw [if_pos (by omega)])
              (try simp only [Act.put]); (try simp only [List.setIfInBounds_toArray]); (try simp only [List.set_cons_succ]); (try simp only [List.set_cons_zero])
              refine wpAnyH_take (i := 18) (oi := ⟨(some 44), (.move (.tmp 43)), 4, "ref.go:46", #[⟨17, .data⟩, ⟨15, .chain⟩, ⟨2, .guard⟩], (some (2, true))⟩) (v := ?v272) rfl (by kernel_rfl) (by kernel_rfl) (by kernel_rfl) (fun _ _ _ h => h) (Or.inl ⟨rfl, ?hy272⟩) hHeld269 ?rest272
              case hy272 => (intro w hSw; (try dsimp only at hSw); go_simp <;> first | with_reducible rfl | rw [if_neg (by omega)] | rw [if_pos (by omega)])
              (try simp only [Act.put]); (try simp only [List.setIfInBounds_toArray]); (try simp only [List.set_cons_succ]); (try simp only [List.set_cons_zero])
              refine wpAnyH_take (i := 19) (oi := ⟨(some 45), (.move (.tmp 2)), 37, "ref.go:46", #[⟨18, .guard⟩], (some (18, false))⟩) (v := ?v273) rfl (by kernel_rfl) (by kernel_rfl) (by kernel_rfl) (fun _ _ _ h => h) (Or.inl ⟨rfl, ?hy273⟩) hHeld269 ?rest273
              case hy273 => (intro w hSw; (try dsimp only at hSw); go_simp <;> first | with_reducible rfl | rw [if_neg (by omega)] | rw [if_pos (by omega)])
              (try simp only [Act.put]); (try simp only [List.setIfInBounds_toArray]); (try simp only [List.set_cons_succ]); (try simp only [List.set_cons_zero])
              refine wpAnyH_take (i := 20) (oi := ⟨(some 46), (.move (.tmp 9)), 3, "ref.go:46", #[⟨18, .guard⟩], (some (18, false))⟩) (v := ?v274) rfl (by kernel_rfl) (by kernel_rfl) (by kernel_rfl) (fun _ _ _ h => h) (Or.inl ⟨rfl, ?hy274⟩) hHeld269 ?rest274
              case hy274 => (intro w hSw; (try dsimp only at hSw); go_simp <;> first | with_reducible rfl | rw [if_neg (by omega)] | rw [if_pos (by omega)])
              (try simp only [Act.put]); (try simp only [List.setIfInBounds_toArray]); (try simp only [List.set_cons_succ]); (try simp only [List.set_cons_zero])
              refine wpAnyH_take (i := 21) (oi := ⟨(some 47), (.indexAddr 37 (.tmp 45) (.tmp 46)), 0, "ref.go:46", #[⟨19, .data⟩, ⟨20, .data⟩, ⟨18, .guard⟩], (some (18, false))⟩) (v := ?v275) rfl (by kernel_rfl) (by kernel_rfl) (by kernel_rfl) (fun _ _ _ h => h) (Or.inl ⟨rfl, ?hy275⟩) hHeld269 ?rest275
              case hy275 => (intro w hSw; (try dsimp only at hSw); go_simp <;> first | with_reducible rfl | rw [if_neg (by omega)] | rw [if_pos (by omega)])
              (try simp only [Act.put]); (try simp only [List.setIfInBounds_toArray]); (try simp only [List.set_cons_succ]); (try simp only [List.set_cons_zero])
              refine wpAnyH_take (i := 22) (oi := ⟨(some 48), (.load 40 (.tmp 47)), 40, "ref.go:46", #[⟨21, .data⟩, ⟨18, .guard⟩], (some (18, false))⟩) (v := ?v276) rfl (by kernel_rfl) (by kernel_rfl) (by kernel_rfl) (fun _ _ _ h => h) (Or.inl ⟨rfl, ?hy276⟩) hHeld269 ?rest276
              case hy276 => (intro w hSw; (try dsimp only at hSw); go_simp <;> first | with_reducible rfl | rw [if_neg (by omega)] | rw [if_pos (by omega)])
              (try simp only [Act.put]); (try simp only [List.setIfInBounds_toArray]); (try simp only [List.set_cons_succ]); (try simp only [List.set_cons_zero])
              refine wpAnyH_take (i := 23) (oi := ⟨(some 49), (.move (.tmp 3)), 37, "ref.go:46", #[⟨18, .guard⟩], (some (18, false))⟩) (v := ?v277) rfl (by kernel_rfl) (by kernel_rfl) (by kernel_rfl) (fun _ _ _ h => h) (Or.inl ⟨rfl, ?hy277⟩) hHeld269 ?rest277
              case hy277 => (intro w hSw; (try dsimp only at hSw); go_simp <;> first | with_reducible rfl | rw [if_neg (by omega)] | rw [if_pos (by omega)])
              (try simp only [Act.put]); (try simp only [List.setIfInBounds_toArray]); (try simp only [List.set_cons_succ]); (try simp only [List.set_cons_zero])
              refine wpAnyH_take (i := 24) (oi := ⟨(some 50), (.move (.tmp 10)), 3, "ref.go:46", #[⟨18, .guard⟩], (some (18, false))⟩) (v := ?v278) rfl (by kernel_rfl) (by kernel_rfl) (by kernel_rfl) (fun _ _ _ h => h) (Or.inl ⟨rfl, ?hy278⟩) hHeld269 ?rest278
              case hy278 => (intro w hSw; (try dsimp only at hSw); go_simp <;> first | with_reducible rfl | rw [if_neg (by omega)] | rw [if_pos (by omega)])
              (try simp only [Act.put]); (try simp only [List.setIfInBounds_toArray]); (try simp only [List.set_cons_succ]); (try simp only [List.set_cons_zero])
              refine wpAnyH_take (i := 25) (oi := ⟨(some 51), (.indexAddr 37 (.tmp 49) (.tmp 50)), 0, "ref.go:46", #[⟨23, .data⟩, ⟨24, .data⟩, ⟨18, .guard⟩], (some (18, false))⟩) (v := ?v279) rfl (by kernel_rfl) (by kernel_rfl) (by kernel_rfl) (fun _ _ _ h => h) (Or.inl ⟨rfl, ?hy279⟩) hHeld269 ?rest279
              case hy279 => (intro w hSw; (try dsimp only at hSw); go_simp <;> first | with_reducible rfl | rw [if_neg (by omega)] | rw [if_pos (by omega)])
              (try simp only [Act.put]); (try simp only [List.setIfInBounds_toArray]); (try simp only [List.set_cons_succ]); (try simp only [List.set_cons_zero])
              refine wpAnyH_take (i := 26) (oi := ⟨(some 52), (.load 40 (.tmp 51)), 40, "ref.go:46", #[⟨25, .data⟩, ⟨18, .guard⟩], (some (18, false))⟩) (v := ?v280) rfl (by kernel_rfl) (by kernel_rfl) (by kernel_rfl) (fun _ _ _ h => h) (Or.inl ⟨rfl, ?hy280⟩) hHeld269 ?rest280
              case hy280 => (intro w hSw; (try dsimp only at hSw); go_simp <;> first | with_reducible rfl | rw [if_neg (by omega)] | rw [if_pos (by omega)])
              (try simp only [Act.put]); (try simp only [List.setIfInBounds_toArray]); (try simp only [List.set_cons_succ]); (try simp only [List.set_cons_zero])
              refine wpAnyH_ready (rs := [27]) (by kernel_rfl) (by simp) ?_
              refine AllReadyH.cons (o := ⟨(some 53), (.call { callee := (.value (.func 68)), args := #[(.tmp 48), (.tmp 52)], argTypes := #[40, 40] }), 3, "ref.go:46", #[⟨22, .data⟩, ⟨26, .data⟩, ⟨18, .chain⟩, ⟨18, .guard⟩], (some (18, false))⟩) rfl (fun K hK => ?step281x0) ?more281x0
              case more281x0 => exact AllReadyH.nil
              go_simp
              (refine (H2.out _ (by repeat (first | with_reducible exact Ext.refl _ | with_reducible assumption | with_reducible refine Ext.drew ?_ | with_reducible refine Ext.drewN ?_ _ | with_reducible refine Ext.alloc ?_ _))).mono ?_; rintro e w6 ⟨rfl, hx6⟩; replace hx6 : Ext w3 w6 := Ext.trans (by repeat (first | with_reducible exact Ext.refl _ | with_reducible assumption | with_reducible refine Ext.drew ?_ | with_reducible refine Ext.drewN ?_ _ | with_reducible refine Ext.alloc ?_ _)) hx6)
              refine hK.out _ _ ?hS281x0 (fun hHeld281 => ?rest281x0)
              case hS281x0 => first | (exact MKR16.out _ (by repeat (first | with_reducible exact Ext.refl _ | with_reducible assumption | with_reducible refine Ext.drew ?_ | with_reducible refine Ext.drewN ?_ _ | with_reducible refine Ext.alloc ?_ _))) | ((try dsimp only); (exact MKR16.out _ (by repeat (first | with_reducible exact Ext.refl _ | with_reducible assumption | with_reducible refine Ext.drew ?_ | with_reducible refine Ext.drewN ?_ _ | with_reducible refine Ext.alloc ?_ _))))
              clear hK K
              clear hHeld269
              (try simp only [Act.put]); (try simp only [List.setIfInBounds_toArray]); (try simp only [List.set_cons_succ]); (try simp only [List.set_cons_zero])
              refine wpAnyH_take (i := 28) (oi := ⟨(some 54), (.binOp .neq 3 (.tmp 53) (.const (.int .i64 0)) 3), 4, "ref.go:46", #[⟨27, .data⟩, ⟨18, .guard⟩], (some (18, false))⟩) (v := ?v282) rfl (by kernel_rfl) (by kernel_rfl) (by kernel_rfl) (fun _ _ _ h => h) (Or.inl ⟨rfl, ?hy282⟩) hHeld281 ?rest282
              case hy282 => (intro w hSw; (try dsimp only at hSw); go_simp <;> first | with_reducible rfl | rw [if_neg (by omega)] | rw [if_pos (by omega)])
              (try simp only [Act.put]); (try simp only [List.setIfInBounds_toArray]); (try simp only [List.set_cons_succ]); (try simp only [List.set_cons_zero])
              refine wpAnyH_take (i := 29) (oi := ⟨(some 55), (.pick (.tmp 44) (.const (.bool true)) (.tmp 54)), 4, "ref.go:46", #[⟨18, .data⟩, ⟨28, .data⟩, ⟨2, .guard⟩], (some (2, true))⟩) (v := ?v283) rfl (by kernel_rfl) (by kernel_rfl) (by kernel_rfl) (fun _ _ _ h => h) (Or.inl ⟨rfl, ?hy283⟩) hHeld281 ?rest283
              case hy283 => (intro w hSw; (try dsimp only at hSw); go_simp <;> first | with_reducible rfl | rw [if_neg (by omega)] | rw [if_pos (by omega)])
              (try simp only [Act.put]); (try simp only [List.setIfInBounds_toArray]); (try simp only [List.set_cons_succ]); (try simp only [List.set_cons_zero])
              refine wpAnyH_take (i := 30) (oi := ⟨(some 56), (.pick (.tmp 28) (.tmp 55) (.const (.bool false))), 4, "ref.go:46", #[⟨2, .data⟩, ⟨29, .data⟩], none⟩) (v := ?v284) rfl (by kernel_rfl) (by kernel_rfl) (by kernel_rfl) (fun _ _ _ h => h) (Or.inl ⟨rfl, ?hy284⟩) hHeld281 ?rest284
              case hy284 => (intro w hSw; (try dsimp only at hSw); go_simp <;> first | with_reducible rfl | rw [if_neg (by omega)] | rw [if_pos (by omega)])
              (try simp only [Act.put]); (try simp only [List.setIfInBounds_toArray]); (try simp only [List.set_cons_succ]); (try simp only [List.set_cons_zero])
              refine wpAnyH_done (by kernel_rfl) ?_ _
              clear hHeld281
              clear MKR16
              go_wp2_with fail
              go_roundw
              case rel => exact ⟨k + 1, by go_num, by omega, HX, hE3.trans hx6⟩
              case measure => simp [intOf]; omega
            · have hz2 : ¬ z2 = 0 := fun h => he (HO2.out.1 h)
              have HX := Lib.hid (HFF.out (fun h => he h.2))
              clear hn he HO1 HO2
              go_upto_region 5 with (fail)
              have MKR17 := Lib.hid (fun V (e : Ext w3 V) => (⟨e.cell e0, e.cell e1, e.cell e2, e.cell e3, e.cell e4, e.cell f0, e.cell f1, e.cell f2, e.cell f3, e.cell f4, e⟩ : V.cell? ⟨bx, ox + k * 5, none⟩ = some (.int .i64 0) ∧ V.cell? ⟨bx, ox + k * 5 + 1, none⟩ = some (.int .i64 xi.n) ∧ V.cell? ⟨bx, ox + k * 5 + 2, none⟩ = some (.int .i64 xi.d) ∧ V.cell? ⟨bx, ox + k * 5 + 3, none⟩ = some (.string xi.s) ∧ V.cell? ⟨bx, ox + k * 5 + 4, none⟩ = some (.slice Ax xi.l.length ex) ∧ V.cell? ⟨by_, oy + j * 5, none⟩ = some (.int .i64 yj.kind) ∧ V.cell? ⟨by_, oy + j * 5 + 1, none⟩ = some (.int .i64 yj.n) ∧ V.cell? ⟨by_, oy + j * 5 + 2, none⟩ = some (.int .i64 yj.d) ∧ V.cell? ⟨by_, oy + j * 5 + 3, none⟩ = some (.string yj.s) ∧ V.cell? ⟨by_, oy + j * 5 + 4, none⟩ = some (.slice Ay yj.l.length ey) ∧ Ext w3 V))
              refine wp_region_held_drew (S := (fun V => V.cell? ⟨bx, ox + k * 5, none⟩ = some (.int .i64 0) ∧ V.cell? ⟨bx, ox + k * 5 + 1, none⟩ = some (.int .i64 xi.n) ∧ V.cell? ⟨bx, ox + k * 5 + 2, none⟩ = some (.int .i64 xi.d) ∧ V.cell? ⟨bx, ox + k * 5 + 3, none⟩ = some (.string xi.s) ∧ V.cell? ⟨bx, ox + k * 5 + 4, none⟩ = some (.slice Ax xi.l.length ex) ∧ V.cell? ⟨by_, oy + j * 5, none⟩ = some (.int .i64 yj.kind) ∧ V.cell? ⟨by_, oy + j * 5 + 1, none⟩ = some (.int .i64 yj.n) ∧ V.cell? ⟨by_, oy + j * 5 + 2, none⟩ = some (.int .i64 yj.d) ∧ V.cell? ⟨by_, oy + j * 5 + 3, none⟩ = some (.string yj.s) ∧ V.cell? ⟨by_, oy + j * 5 + 4, none⟩ = some (.slice Ay yj.l.length ey) ∧ Ext w3 V)) (by kernel_rfl) ?hs285 (fun hHeld => ?go285)
              case hs285 => (exact MKR17.out _ (by repeat (first | with_reducible exact Ext.refl _ | with_reducible assumption | with_reducible refine Ext.drew ?_ | with_reducible refine Ext.drewN ?_ _ | with_reducible refine Ext.alloc ?_ _)))
              refine wpAnyH_take (i := 0) (oi := ⟨(some 26), (.move (.tmp 10)), 3, "ref.go:46", #[], none⟩) (v := ?v286) rfl (by kernel_rfl) (by kernel_rfl) (by kernel_rfl) (fun _ _ _ h => h) (Or.inl ⟨rfl, ?hy286⟩) hHeld ?rest286
              case hy286 => (intro w hSw; (try dsimp only at hSw); go_simp <;> first | with_reducible rfl | rw [if_neg (by omega)] | rw [if_pos (by omega)])
              (try simp only [Act.put]); (try simp only [List.setIfInBounds_toArray]); (try simp only [List.set_cons_succ]); (try simp only [List.set_cons_zero])
              refine wpAnyH_take (i := 1) (oi := ⟨(some 27), (.binOp .geq 3 (.tmp 26) (.const (.int .i64 0)) 3), 4, "ref.go:46", #[⟨0, .data⟩], none⟩) (v := ?v287) rfl (by kernel_rfl) (by kernel_rfl) (by kernel_rfl) (fun _ _ _ h => h) (Or.inl ⟨rfl, ?hy287⟩) hHeld ?rest287
              case hy287 => (intro w hSw; (try dsimp only at hSw); go_simp <;> first | with_reducible rfl | rw [if_neg (by omega)] | rw [if_pos (by omega)])
              (try simp only [Act.put]); (try simp only [List.setIfInBounds_toArray]); (try simp only [List.set_cons_succ]); (try simp only [List.set_cons_zero])
              refine wpAnyH_take (i := 2) (oi := ⟨(some 28), (.move (.tmp 27)), 4, "ref.go:46", #[⟨1, .data⟩], none⟩) (v := ?v288) rfl (by kernel_rfl) (by kernel_rfl) (by kernel_rfl) (fun _ _ _ h => h) (Or.inl ⟨rfl, ?hy288⟩) hHeld ?rest288
              case hy288 => (intro w hSw; (try dsimp only at hSw); go_simp <;> first | with_reducible rfl | rw [if_neg (by omega)] | rw [if_pos (by omega)])
              (try simp only [Act.put]); (try simp only [List.setIfInBounds_toArray]); (try simp only [List.set_cons_succ]); (try simp only [List.set_cons_zero])
              refine wpAnyH_take (i := 3) (oi := ⟨(some 29), (.move (.tmp 2)), 37, "ref.go:46", #[⟨2, .guard⟩], (some (2, true))⟩) (v := ?v289) rfl (by kernel_rfl) (by kernel_rfl) (by kernel_rfl) (fun _ _ _ h => h) (Or.inl ⟨rfl, ?hy289⟩) hHeld ?rest289
              case hy289 => (intro w hSw; (try dsimp only at hSw); go_simp <;> first | with_reducible rfl | rw [if_neg (by omega)] | rw [if_pos (by omega)])
              (try simp only [Act.put]); (try simp only [List.setIfInBounds_toArray]); (try simp only [List.set_cons_succ]); (try simp only [List.set_cons_zero])
              refine wpAnyH_take (i := 4) (oi := ⟨(some 30), (.move (.tmp 9)), 3, "ref.go:46", #[⟨2, .guard⟩], (some (2, true))⟩) (v := ?v290) rfl (by kernel_rfl) (by kernel_rfl) (by kernel_rfl) (fun _ _ _ h => h) (Or.inl ⟨rfl, ?hy290⟩) hHeld ?rest290
              case hy290 => (intro w hSw; (try dsimp only at hSw); go_simp <;> first | with_reducible rfl | rw [if_neg (by omega)] | rw [if_pos (by omega)])
              (try simp only [Act.put]); (try simp only [List.setIfInBounds_toArray]); (try simp only [List.set_cons_succ]); (try simp only [List.set_cons_zero])
              refine wpAnyH_take (i := 5) (oi := ⟨(some 31), (.indexAddr 37 (.tmp 29) (.tmp 30)), 0, "ref.go:46", #[⟨3, .data⟩, ⟨4, .data⟩, ⟨2, .guard⟩], (some (2, true))⟩) (v := ?v291) rfl (by kernel_rfl) (by kernel_rfl) (by kernel_rfl) (fun _ _ _ h => h) (Or.inl ⟨rfl, ?hy291⟩) hHeld ?rest291
              case hy291 => (intro w hSw; (try dsimp only at hSw); go_simp <;> first | with_reducible rfl | rw [if_neg (by omega)] | rw [if_pos (by omega)])
              (try simp only [Act.put]); (try simp only [List.setIfInBounds_toArray]); (try simp only [List.set_cons_succ]); (try simp only [List.set_cons_zero])
              refine wpAnyH_take (i := 6) (oi := ⟨(some 32), (.fieldAddr 40 (.tmp 31) 0), 0, "ref.go:46", #[⟨5, .data⟩, ⟨2, .guard⟩], (some (2, true))⟩) (v := ?v292) rfl (by kernel_rfl) (by kernel_rfl) (by kernel_rfl) (fun _ _ _ h => h) (Or.inl ⟨rfl, ?hy292⟩) hHeld ?rest292
              case hy292 => (intro w hSw; (try dsimp only at hSw); go_simp <;> first | with_reducible rfl | rw [if_neg (by omega)] | rw [if_pos (by omega)])
              (try simp only [Act.put]); (try simp only [List.setIfInBounds_toArray]); (try simp only [List.set_cons_succ]); (try simp only [List.set_cons_zero])
              refine wpAnyH_take (i := 7) (oi := ⟨(some 33), (.load 3 (.tmp 32)), 3, "ref.go:46", #[⟨6, .data⟩, ⟨2, .guard⟩], (some (2, true))⟩) (v := ?v293) rfl (by kernel_rfl) (by kernel_rfl) (by kernel_rfl) (fun _ _ _ h => h) (Or.inl ⟨rfl, ?hy293⟩) hHeld ?rest293
              case hy293 => (intro w hSw; (try dsimp only at hSw); go_simp <;> first | with_reducible rfl | rw [if_neg (by omega)] | rw [if_pos (by omega)])
              (try simp only [Act.put]); (try simp only [List.setIfInBounds_toArray]); (try simp only [List.set_cons_succ]); (try simp only [List.set_cons_zero])
              refine wpAnyH_take (i := 8) (oi := ⟨(some 34), (.binOp .eql 3 (.tmp 33) (.const (.int .i64 0)) 3), 4, "ref.go:46", #[⟨7, .data⟩, ⟨2, .guard⟩], (some (2, true))⟩) (v := ?v294) rfl (by kernel_rfl) (by kernel_rfl) (by kernel_rfl) (fun _ _ _ h => h) (Or.inl ⟨rfl, ?hy294⟩) hHeld ?rest294
              case hy294 => (intro w hSw; (try dsimp only at hSw); go_simp <;> first | with_reducible rfl | rw [if_neg (by omega)] | rw [if_pos (by omega)])
              (try simp only [Act.put]); (try simp only [List.setIfInBounds_toArray]); (try simp only [List.set_cons_succ]); (try simp only [List.set_cons_zero])
              refine wpAnyH_take (i := 9) (oi := ⟨(some 35), (.move (.tmp 34)), 4, "ref.go:46", #[⟨8, .data⟩, ⟨2, .chain⟩, ⟨2, .guard⟩], (some (2, true))⟩) (v := ?v295) rfl (by kernel_rfl) (by kernel_rfl) (by kernel_rfl) (fun _ _ _ h => h) (Or.inl ⟨rfl, ?hy295⟩) hHeld ?rest295
              case hy295 => (intro w hSw; (try dsimp only at hSw); go_simp <;> first | with_reducible rfl | rw [if_neg (by omega)] | rw [if_pos (by omega)])
              (try simp only [Act.put]); (try simp only [List.setIfInBounds_toArray]); (try simp only [List.set_cons_succ]); (try simp only [List.set_cons_zero])
              refine wpAnyH_take (i := 10) (oi := ⟨(some 36), (.move (.tmp 2)), 37, "ref.go:46", #[⟨9, .guard⟩], (some (9, true))⟩) (v := ?v296) rfl (by kernel_rfl) (by kernel_rfl) (by kernel_rfl) (fun _ _ _ h => h) (Or.inl ⟨rfl, ?hy296⟩) hHeld ?rest296
              case hy296 => (intro w hSw; (try dsimp only at hSw); go_simp <;> first | with_reducible rfl | rw [if_neg (by omega)] | rw [if_pos (by omega)])
              (try simp only [Act.put]); (try simp only [List.setIfInBounds_toArray]); (try simp only [List.set_cons_succ]); (try simp only [List.set_cons_zero])
              refine wpAnyH_take (i := 11) (oi := ⟨(some 37), (.move (.tmp 9)), 3, "ref.go:46", #[⟨9, .guard⟩], (some (9, true))⟩) (v := ?v297) rfl (by kernel_rfl) (by kernel_rfl) (by kernel_rfl) (fun _ _ _ h => h) (Or.inl ⟨rfl, ?hy297⟩) hHeld ?rest297
              case hy297 => (intro w hSw; (try dsimp only at hSw); go_simp <;> first | with_reducible rfl | rw [if_neg (by omega)] | rw [if_pos (by omega)])
              (try simp only [Act.put]); (try simp only [List.setIfInBounds_toArray]); (try simp only [List.set_cons_succ]); (try simp only [List.set_cons_zero])
              refine wpAnyH_take (i := 12) (oi := ⟨(some 38), (.indexAddr 37 (.tmp 36) (.tmp 37)), 0, "ref.go:46", #[⟨10, .data⟩, ⟨11, .data⟩, ⟨9, .guard⟩], (some (9, true))⟩) (v := ?v298) rfl (by kernel_rfl) (by kernel_rfl) (by kernel_rfl) (fun _ _ _ h => h) (Or.inl ⟨rfl, ?hy298⟩) hHeld ?rest298
              case hy298 => (intro w hSw; (try dsimp only at hSw); go_simp <;> first | with_reducible rfl | rw [if_neg (by omega)] | rw [if_pos (by omega)])
              (try simp only [Act.put]); (try simp only [List.setIfInBounds_toArray]); (try simp only [List.set_cons_succ]); (try simp only [List.set_cons_zero])
              refine wpAnyH_take (i := 13) (oi := ⟨(some 39), (.load 40 (.tmp 38)), 40, "ref.go:46", #[⟨12, .data⟩, ⟨9, .guard⟩], (some (9, true))⟩) (v := ?v299) rfl (by kernel_rfl) (by kernel_rfl) (by kernel_rfl) (fun _ _ _ h => h) (Or.inl ⟨rfl, ?hy299⟩) hHeld ?rest299
              case hy299 => (intro w hSw; (try dsimp only at hSw); go_simp <;> first | with_reducible rfl | rw [if_neg (by omega)] | rw [if_pos (by omega)])
              (try simp only [Act.put]); (try simp only [List.setIfInBounds_toArray]); (try simp only [List.set_cons_succ]); (try simp only [List.set_cons_zero])
              refine wpAnyH_ready (rs := [14]) (by kernel_rfl) (by simp) ?_
              refine AllReadyH.cons (o := ⟨(some 40), (.call { callee := (.value (.func 43)), args := #[], argTypes := #[] }), 40, "ref.go:46", #[⟨9, .chain⟩, ⟨9, .guard⟩], (some (9, true))⟩) rfl (fun K hK => ?step300x0) ?more300x0
              case more300x0 => exact AllReadyH.nil
              go_simp
              (refine (HN.out _).mono ?_; rintro e w4 ⟨rfl, hx4⟩; replace hx4 : Ext w3 w4 := Ext.trans (by repeat (first | with_reducible exact Ext.refl _ | with_reducible assumption | with_reducible refine Ext.drew ?_ | with_reducible refine Ext.drewN ?_ _ | with_reducible refine Ext.alloc ?_ _)) hx4)
              refine hK.out _ _ ?hS300x0 (fun hHeld300 => ?rest300x0)
              case hS300x0 => first | (exact MKR17.out _ (by repeat (first | with_reducible exact Ext.refl _ | with_reducible assumption | with_reducible refine Ext.drew ?_ | with_reducible refine Ext.drewN ?_ _ | with_reducible refine Ext.alloc ?_ _))) | ((try dsimp only); (exact MKR17.out _ (by repeat (first | with_reducible exact Ext.refl _ | with_reducible assumption | with_reducible refine Ext.drew ?_ | with_reducible refine Ext.drewN ?_ _ | with_reducible refine Ext.alloc ?_ _))))
              clear hK K
              clear hHeld
              (try simp only [Act.put]); (try simp only [List.setIfInBounds_toArray]); (try simp only [List.set_cons_succ]); (try simp only [List.set_cons_zero])
              refine wpAnyH_ready (rs := [15]) (by kernel_rfl) (by simp) ?_
              refine AllReadyH.cons (o := ⟨(some 41), (.call { callee := (.value (.func 68)), args := #[(.tmp 39), (.tmp 40)], argTypes := #[40, 40] }), 3, "ref.go:46", #[⟨13, .data⟩, ⟨14, .data⟩, ⟨14, .chain⟩, ⟨9, .guard⟩], (some (9, true))⟩) rfl (fun K hK => ?step301x0) ?more301x0
              case more301x0 => exact AllReadyH.nil
              go_simp
              (refine (H1.out _ (by repeat (first | with_reducible exact Ext.refl _ | with_reducible assumption | with_reducible refine Ext.drew ?_ | with_reducible refine Ext.drewN ?_ _ | with_reducible refine Ext.alloc ?_ _))).mono ?_; rintro e w5 ⟨rfl, hx5⟩; replace hx5 : Ext w3 w5 := Ext.trans (by repeat (first | with_reducible exact Ext.refl _ | with_reducible assumption | with_reducible refine Ext.drew ?_ | with_reducible refine Ext.drewN ?_ _ | with_reducible refine Ext.alloc ?_ _)) hx5)
              refine hK.out _ _ ?hS301x0 (fun hHeld301 => ?rest301x0)
              case hS301x0 => first | (exact MKR17.out _ (by repeat (first | with_reducible exact Ext.refl _ | with_reducible assumption | with_reducible refine Ext.drew ?_ | with_reducible refine Ext.drewN ?_ _ | with_reducible refine Ext.alloc ?_ _))) | ((try dsimp only); (exact MKR17.out _ (by repeat (first | with_reducible exact Ext.refl _ | with_reducible assumption | with_reducible refine Ext.drew ?_ | with_reducible refine Ext.drewN ?_ _ | with_reducible refine Ext.alloc ?_ _))))
              clear hK K
              clear hHeld300
              (try simp only [Act.put]); (try simp only [List.setIfInBounds_toArray]); (try simp only [List.set_cons_succ]); (try simp only [List.set_cons_zero])
              refine wpAnyH_take (i := 16) (oi := ⟨(some 42), (.binOp .eql 3 (.tmp 41) (.const (.int .i64 0)) 3), 4, "ref.go:46", #[⟨15, .data⟩, ⟨9, .guard⟩], (some (9, true))⟩) (v := ?v302) rfl (by kernel_rfl) (by kernel_rfl) (by kernel_rfl) (fun _ _ _ h => h) (Or.inl ⟨rfl, ?hy302⟩) hHeld301 ?rest302
              case hy302 => (intro w hSw; (try dsimp only at hSw); go_simp <;> first | rw [decide_eq_false hz1] | rw [beq_eq_false_iff_ne.2 hz1] | rw [decide_eq_true hz1] | rw [beq_iff_eq.2 hz1])
              (try simp only [Act.put]); (try simp only [List.setIfInBounds_toArray]); (try simp only [List.set_cons_succ]); (try simp only [List.set_cons_zero])
              refine wpAnyH_take (i := 17) (oi := ⟨(some 43), (.pick (.tmp 35) (.tmp 42) (.const (.bool false))), 4, "ref.go:46", #[⟨9, .data⟩, ⟨16, .data⟩, ⟨2, .guard⟩], (some (2, true))⟩) (v := ?v303) rfl (by kernel_rfl) (by kernel_rfl) (by kernel_rfl) (fun _ _ _ h => h) (Or.inl ⟨rfl, ?hy303⟩) hHeld301 ?rest303
              case hy303 => (intro w hSw; (try dsimp only at hSw); go_simp <;> first | with_reducible rfl | rw [if_neg (by omega)] | rw [if_pos (by omega)])
              (try simp only [Act.put]); (try simp only [List.setIfInBounds_toArray]); (try simp only [List.set_cons_succ]); (try simp only [List.set_cons_zero])
              refine wpAnyH_take (i := 18) (oi := ⟨(some 44), (.move (.tmp 43)), 4, "ref.go:46", #[⟨17, .data⟩, ⟨15, .chain⟩, ⟨2, .guard⟩], (some (2, true))⟩) (v := ?v304) rfl (by kernel_rfl) (by kernel_rfl) (by kernel_rfl) (fun _ _ _ h => h) (Or.inl ⟨rfl, ?hy304⟩) hHeld301 ?rest304
              case hy304 => (intro w hSw; (try dsimp only at hSw); go_simp <;> first | with_reducible rfl | rw [if_neg (by omega)] | rw [if_pos (by omega)])
              (try simp only [Act.put]); (try simp only [List.setIfInBounds_toArray]); (try simp only [List.set_cons_succ]); (try simp only [List.set_cons_zero])
              refine wpAnyH_take (i := 19) (oi := ⟨(some 45), (.move (.tmp 2)), 37, "ref.go:46", #[⟨18, .guard⟩], (some (18, false))⟩) (v := ?v305) rfl (by kernel_rfl) (by kernel_rfl) (by kernel_rfl) (fun _ _ _ h => h) (Or.inl ⟨rfl, ?hy305⟩) hHeld301 ?rest305
              case hy305 => (intro w hSw; (try dsimp only at hSw); go_simp <;> first | with_reducible rfl | rw [if_neg (by omega)] | rw [if_pos (by omega)])
              (try simp only [Act.put]); (try simp only [List.setIfInBounds_toArray]); (try simp only [List.set_cons_succ]); (try simp only [List.set_cons_zero])
              refine wpAnyH_take (i := 20) (oi := ⟨(some 46), (.move (.tmp 9)), 3, "ref.go:46", #[⟨18, .guard⟩], (some (18, false))⟩) (v := ?v306) rfl (by kernel_rfl) (by kernel_rfl) (by kernel_rfl) (fun _ _ _ h => h) (Or.inl ⟨rfl, ?hy306⟩) hHeld301 ?rest306
              case hy306 => (intro w hSw; (try dsimp only at hSw); go_simp <;> first | with_reducible rfl | rw [if_neg (by omega)] | rw [if_pos (by omega)])
              (try simp only [Act.put]); (try simp only [List.setIfInBounds_toArray]); (try simp only [List.set_cons_succ]); (try simp only [List.set_cons_zero])
              refine wpAnyH_take (i := 21) (oi := ⟨(some 47), (.indexAddr 37 (.tmp 45) (.tmp 46)), 0, "ref.go:46", #[⟨19, .data⟩, ⟨20, .data⟩, ⟨18, .guard⟩], (some (18, false))⟩) (v := ?v307) rfl (by kernel_rfl) (by kernel_rfl) (by kernel_rfl) (fun _ _ _ h => h) (Or.inl ⟨rfl, ?hy307⟩) hHeld301 ?rest307
              case hy307 => (intro w hSw; (try dsimp only at hSw); go_simp <;> first | with_reducible rfl | rw [if_neg (by omega)] | rw [if_pos (by omega)])
              (try simp only [Act.put]); (try simp only [List.setIfInBounds_toArray]); (try simp only [List.set_cons_succ]); (try simp only [List.set_cons_zero])
              refine wpAnyH_take (i := 22) (oi := ⟨(some 48), (.load 40 (.tmp 47)), 40, "ref.go:46", #[⟨21, .data⟩, ⟨18, .guard⟩], (some (18, false))⟩) (v := ?v308) rfl (by kernel_rfl) (by kernel_rfl) (by kernel_rfl) (fun _ _ _ h => h) (Or.inl ⟨rfl, ?hy308⟩) hHeld301 ?rest308
              case hy308 => (intro w hSw; (try dsimp only at hSw); go_simp <;> first | with_reducible rfl | rw [if_neg (by omega)] | rw [if_pos (by omega)])
              (try simp only [Act.put]); (try simp only [List.setIfInBounds_toArray]); (try simp only [List.set_cons_succ]); (try simp only [List.set_cons_zero])
              refine wpAnyH_take (i := 23) (oi := ⟨(some 49), (.move (.tmp 3)), 37, "ref.go:46", #[⟨18, .guard⟩], (some (18, false))⟩) (v := ?v309) rfl (by kernel_rfl) (by kernel_rfl) (by kernel_rfl) (fun _ _ _ h => h) (Or.inl ⟨rfl, ?hy309⟩) hHeld301 ?rest309
              case hy309 => (intro w hSw; (try dsimp only at hSw); go_simp <;> first | with_reducible rfl | rw [if_neg (by omega)] | rw [if_pos (by omega)])
              (try simp only [Act.put]); (try simp only [List.setIfInBounds_toArray]); (try simp only [List.set_cons_succ]); (try simp only [List.set_cons_zero])
              refine wpAnyH_take (i := 24) (oi := ⟨(some 50), (.move (.tmp 10)), 3, "ref.go:46", #[⟨18, .guard⟩], (some (18, false))⟩) (v := ?v310) rfl (by kernel_rfl) (by kernel_rfl) (by kernel_rfl) (fun _ _ _ h => h) (Or.inl ⟨rfl, ?hy310⟩) hHeld301 ?rest310
              case hy310 => (intro w hSw; (try dsimp only at hSw); go_simp <;> first | with_reducible rfl | rw [if_neg (by omega)] | rw [if_pos (by omega)])
              (try simp only [Act.put]); (try simp only [List.setIfInBounds_toArray]); (try simp only [List.set_cons_succ]); (try simp only [List.set_cons_zero])
              refine wpAnyH_take (i := 25) (oi := ⟨(some 51), (.indexAddr 37 (.tmp 49) (.tmp 50)), 0, "ref.go:46", #[⟨23, .data⟩, ⟨24, .data⟩, ⟨18, .guard⟩], (some (18, false))⟩) (v := ?v311) rfl (by kernel_rfl) (by kernel_rfl) (by kernel_rfl) (fun _ _ _ h => h) (Or.inl ⟨rfl, ?hy311⟩) hHeld301 ?rest311
              case hy311 => (intro w hSw; (try dsimp only at hSw); go_simp <;> first | with_reducible rfl | rw [if_neg (by omega)] | rw [if_pos (by omega)])
              (try simp only [Act.put]); (try simp only [List.setIfInBounds_toArray]); (try simp only [List.set_cons_succ]); (try simp only [List.set_cons_zero])
              refine wpAnyH_take (i := 26) (oi := ⟨(some 52), (.load 40 (.tmp 51)), 40, "ref.go:46", #[⟨25, .data⟩, ⟨18, .guard⟩], (some (18, false))⟩) (v := ?v312) rfl (by kernel_rfl) (by kernel_rfl) (by kernel_rfl) (fun _ _ _ h => h) (Or.inl ⟨rfl, ?hy312⟩) hHeld301 ?rest312
              case hy312 => (intro w hSw; (try dsimp only at hSw); go_simp <;> first | with_reducible rfl | rw [if_neg (by omega)] | rw [if_pos (by omega)])
              (try simp only [Act.put]); (try simp only [List.setIfInBounds_toArray]); (try simp only [List.set_cons_succ]); (try simp only [List.set_cons_zero])
              refine wpAnyH_ready (rs := [27]) (by kernel_rfl) (by simp) ?_
              refine AllReadyH.cons (o := ⟨(some 53), (.call { callee := (.value (.func 68)), args := #[(.tmp 48), (.tmp 52)], argTypes := #[40, 40] }), 3, "ref.go:46", #[⟨22, .data⟩, ⟨26, .data⟩, ⟨18, .chain⟩, ⟨18, .guard⟩], (some (18, false))⟩) rfl (fun K hK => ?step313x0) ?more313x0
              case more313x0 => exact AllReadyH.nil
              go_simp
              (refine (H2.out _ (by repeat (first | with_reducible exact Ext.refl _ | with_reducible assumption | with_reducible refine Ext.drew ?_ | with_reducible refine Ext.drewN ?_ _ | with_reducible refine Ext.alloc ?_ _))).mono ?_; rintro e w6 ⟨rfl, hx6⟩; replace hx6 : Ext w3 w6 := Ext.trans (by repeat (first | with_reducible exact Ext.refl _ | with_reducible assumption | with_reducible refine Ext.drew ?_ | with_reducible refine Ext.drewN ?_ _ | with_reducible refine Ext.alloc ?_ _)) hx6)
              refine hK.out _ _ ?hS313x0 (fun hHeld313 => ?rest313x0)
              case hS313x0 => first | (exact MKR17.out _ (by repeat (first | with_reducible exact Ext.refl _ | with_reducible assumption | with_reducible refine Ext.drew ?_ | with_reducible refine Ext.drewN ?_ _ | with_reducible refine Ext.alloc ?_ _))) | ((try dsimp only); (exact MKR17.out _ (by repeat (first | with_reducible exact Ext.refl _ | with_reducible assumption | with_reducible refine Ext.drew ?_ | with_reducible refine Ext.drewN ?_ _ | with_reducible refine Ext.alloc ?_ _))))
              clear hK K
              clear hHeld301
              (try simp only [Act.put]); (try simp only [List.setIfInBounds_toArray]); (try simp only [List.set_cons_succ]); (try simp only [List.set_cons_zero])
              refine wpAnyH_take (i := 28) (oi := ⟨(some 54), (.binOp .neq 3 (.tmp 53) (.const (.int .i64 0)) 3), 4, "ref.go:46", #[⟨27, .data⟩, ⟨18, .guard⟩], (some (18, false))⟩) (v := ?v314) rfl (by kernel_rfl) (by kernel_rfl) (by kernel_rfl) (fun _ _ _ h => h) (Or.inl ⟨rfl, ?hy314⟩) hHeld313 ?rest314
              case hy314 => (intro w hSw; (try dsimp only at hSw); go_simp <;> first | with_reducible rfl | rw [if_neg (by omega)] | rw [if_pos (by omega)])
              (try simp only [Act.put]); (try simp only [List.setIfInBounds_toArray]); (try simp only [List.set_cons_succ]); (try simp only [List.set_cons_zero])
              refine wpAnyH_take (i := 29) (oi := ⟨(some 55), (.pick (.tmp 44) (.const (.bool true)) (.tmp 54)), 4, "ref.go:46", #[⟨18, .data⟩, ⟨28, .data⟩, ⟨2, .guard⟩], (some (2, true))⟩) (v := ?v315) rfl (by kernel_rfl) (by kernel_rfl) (by kernel_rfl) (fun _ _ _ h => h) (Or.inl ⟨rfl, ?hy315⟩) hHeld313 ?rest315
              case hy315 => (intro w hSw; (try dsimp only at hSw); go_simp <;> first | with_reducible rfl | rw [if_neg (by omega)] | rw [if_pos (by omega)])
              (try simp only [Act.put]); (try simp only [List.setIfInBounds_toArray]); (try simp only [List.set_cons_succ]); (try simp only [List.set_cons_zero])
              refine wpAnyH_take (i := 30) (oi := ⟨(some 56), (.pick (.tmp 28) (.tmp 55) (.const (.bool false))), 4, "ref.go:46", #[⟨2, .data⟩, ⟨29, .data⟩], none⟩) (v := ?v316) rfl (by kernel_rfl) (by kernel_rfl) (by kernel_rfl) (fun _ _ _ h => h) (Or.inl ⟨rfl, ?hy316⟩) hHeld313 ?rest316
              case hy316 => (intro w hSw; (try dsimp only at hSw); go_simp <;> first | with_reducible rfl | rw [if_neg (by omega)] | rw [if_pos (by omega)])
              (try simp only [Act.put]); (try simp only [List.setIfInBounds_toArray]); (try simp only [List.set_cons_succ]); (try simp only [List.set_cons_zero])
              refine wpAnyH_done (by kernel_rfl) ?_ _
              clear hHeld313
              clear MKR17
              go_wp2_with fail
              go_ret
              exact ⟨ret_bool HX.out.symm, hxw.trans (hE3.trans hx6)⟩
        · have hn := HK0.out hk0
          by_cases he : xi = yj
          · have hz2 := HO2.out.2 he
            subst hz2
            have HX := Lib.hid (HSS.out ⟨hn, he⟩)
            clear hn he HO1 HO2
            go_upto_region 5 with (fail)
            have MKR18 := Lib.hid (fun V (e : Ext w3 V) => (⟨e.cell e0, e.cell e1, e.cell e2, e.cell e3, e.cell e4, e.cell f0, e.cell f1, e.cell f2, e.cell f3, e.cell f4, e⟩ : V.cell? ⟨bx, ox + k * 5, none⟩ = some (.int .i64 kd) ∧ V.cell? ⟨bx, ox + k * 5 + 1, none⟩ = some (.int .i64 xi.n) ∧ V.cell? ⟨bx, ox + k * 5 + 2, none⟩ = some (.int .i64 xi.d) ∧ V.cell? ⟨bx, ox + k * 5 + 3, none⟩ = some (.string xi.s) ∧ V.cell? ⟨bx, ox + k * 5 + 4, none⟩ = some (.slice Ax xi.l.length ex) ∧ V.cell? ⟨by_, oy + j * 5, none⟩ = some (.int .i64 yj.kind) ∧ V.cell? ⟨by_, oy + j * 5 + 1, none⟩ = some (.int .i64 yj.n) ∧ V.cell? ⟨by_, oy + j * 5 + 2, none⟩ = some (.int .i64 yj.d) ∧ V.cell? ⟨by_, oy + j * 5 + 3, none⟩ = some (.string yj.s) ∧ V.cell? ⟨by_, oy + j * 5 + 4, none⟩ = some (.slice Ay yj.l.length ey) ∧ Ext w3 V))
            refine wp_region_held_drew (S := (fun V => V.cell? ⟨bx, ox + k * 5, none⟩ = some (.int .i64 kd) ∧ V.cell? ⟨bx, ox + k * 5 + 1, none⟩ = some (.int .i64 xi.n) ∧ V.cell? ⟨bx, ox + k * 5 + 2, none⟩ = some (.int .i64 xi.d) ∧ V.cell? ⟨bx, ox + k * 5 + 3, none⟩ = some (.string xi.s) ∧ V.cell? ⟨bx, ox + k * 5 + 4, none⟩ = some (.slice Ax xi.l.length ex) ∧ V.cell? ⟨by_, oy + j * 5, none⟩ = some (.int .i64 yj.kind) ∧ V.cell? ⟨by_, oy + j * 5 + 1, none⟩ = some (.int .i64 yj.n) ∧ V.cell? ⟨by_, oy + j * 5 + 2, none⟩ = some (.int .i64 yj.d) ∧ V.cell? ⟨by_, oy + j * 5 + 3, none⟩ = some (.string yj.s) ∧ V.cell? ⟨by_, oy + j * 5 + 4, none⟩ = some (.slice Ay yj.l.length ey) ∧ Ext w3 V)) (by kernel_rfl) ?hs317 (fun hHeld => ?go317)
            case hs317 => (exact MKR18.out _ (by repeat (first | with_reducible exact Ext.refl _ | with_reducible assumption | with_reducible refine Ext.drew ?_ | with_reducible refine Ext.drewN ?_ _ | with_reducible refine Ext.alloc ?_ _)))
            refine wpAnyH_take (i := 0) (oi := ⟨(some 26), (.move (.tmp 10)), 3, "ref.go:46", #[], none⟩) (v := ?v318) rfl (by kernel_rfl) (by kernel_rfl) (by kernel_rfl) (fun _ _ _ h => h) (Or.inl ⟨rfl, ?hy318⟩) hHeld ?rest318
            case hy318 => (intro w hSw; (try dsimp only at hSw); go_simp <;> first | with_reducible rfl | rw [if_neg (by omega)] | rw [if_pos (by omega)])
            (try simp only [Act.put]); (try simp only [List.setIfInBounds_toArray]); (try simp only [List.set_cons_succ]); (try simp only [List.set_cons_zero])
            refine wpAnyH_take (i := 1) (oi := ⟨(some 27), (.binOp .geq 3 (.tmp 26) (.const (.int .i64 0)) 3), 4, "ref.go:46", #[⟨0, .data⟩], none⟩) (v := ?v319) rfl (by kernel_rfl) (by kernel_rfl) (by kernel_rfl) (fun _ _ _ h => h) (Or.inl ⟨rfl, ?hy319⟩) hHeld ?rest319
            case hy319 => (intro w hSw; (try dsimp only at hSw); go_simp <;> first | with_reducible rfl | rw [if_neg (by omega)] | rw [if_pos (by omega)])
            (try simp only [Act.put]); (try simp only [List.setIfInBounds_toArray]); (try simp only [List.set_cons_succ]); (try simp only [List.set_cons_zero])
            refine wpAnyH_take (i := 2) (oi := ⟨(some 28), (.move (.tmp 27)), 4, "ref.go:46", #[⟨1, .data⟩], none⟩) (v := ?v320) rfl (by kernel_rfl) (by kernel_rfl) (by kernel_rfl) (fun _ _ _ h => h) (Or.inl ⟨rfl, ?hy320⟩) hHeld ?rest320
            case hy320 => (intro w hSw; (try dsimp only at hSw); go_simp <;> first | with_reducible rfl | rw [if_neg (by omega)] | rw [if_pos (by omega)])
            (try simp only [Act.put]); (try simp only [List.setIfInBounds_toArray]); (try simp only [List.set_cons_succ]); (try simp only [List.set_cons_zero])
            refine wpAnyH_take (i := 3) (oi := ⟨(some 29), (.move (.tmp 2)), 37, "ref.go:46", #[⟨2, .guard⟩], (some (2, true))⟩) (v := ?v321) rfl (by kernel_rfl) (by kernel_rfl) (by kernel_rfl) (fun _ _ _ h => h) (Or.inl ⟨rfl, ?hy321⟩) hHeld ?rest321
            case hy321 => (intro w hSw; (try dsimp only at hSw); go_simp <;> first | with_reducible rfl | rw [if_neg (by omega)] | rw [if_pos (by omega)])
            (try simp only [Act.put]); (try simp only [List.setIfInBounds_toArray]); (try simp only [List.set_cons_succ]); (try simp only [List.set_cons_zero])
            refine wpAnyH_take (i := 4) (oi := ⟨(some 30), (.move (.tmp 9)), 3, "ref.go:46", #[⟨2, .guard⟩], (some (2, true))⟩) (v := ?v322) rfl (by kernel_rfl) (by kernel_rfl) (by kernel_rfl) (fun _ _ _ h => h) (Or.inl ⟨rfl, ?hy322⟩) hHeld ?rest322
            case hy322 => (intro w hSw; (try dsimp only at hSw); go_simp <;> first | with_reducible rfl | rw [if_neg (by omega)] | rw [if_pos (by omega)])
            (try simp only [Act.put]); (try simp only [List.setIfInBounds_toArray]); (try simp only [List.set_cons_succ]); (try simp only [List.set_cons_zero])
            refine wpAnyH_take (i := 5) (oi := ⟨(some 31), (.indexAddr 37 (.tmp 29) (.tmp 30)), 0, "ref.go:46", #[⟨3, .data⟩, ⟨4, .data⟩, ⟨2, .guard⟩], (some (2, true))⟩) (v := ?v323) rfl (by kernel_rfl) (by kernel_rfl) (by kernel_rfl) (fun _ _ _ h => h) (Or.inl ⟨rfl, ?hy323⟩) hHeld ?rest323
            case hy323 => (intro w hSw; (try dsimp only at hSw); go_simp <;> first | with_reducible rfl | rw [if_neg (by omega)] | rw [if_pos (by omega)])
            (try simp only [Act.put]); (try simp only [List.setIfInBounds_toArray]); (try simp only [List.set_cons_succ]); (try simp only [List.set_cons_zero])
            refine wpAnyH_take (i := 6) (oi := ⟨(some 32), (.fieldAddr 40 (.tmp 31) 0), 0, "ref.go:46", #[⟨5, .data⟩, ⟨2, .guard⟩], (some (2, true))⟩) (v := ?v324) rfl (by kernel_rfl) (by kernel_rfl) (by kernel_rfl) (fun _ _ _ h => h) (Or.inl ⟨rfl, ?hy324⟩) hHeld ?rest324
            case hy324 => (intro w hSw; (try dsimp only at hSw); go_simp <;> first | with_reducible rfl | rw [if_neg (by omega)] | rw [if_pos (by omega)])
            (try simp only [Act.put]); (try simp only [List.setIfInBounds_toArray]); (try simp only [List.set_cons_succ]); (try simp only [List.set_cons_zero])
            refine wpAnyH_take (i := 7) (oi := ⟨(some 33), (.load 3 (.tmp 32)), 3, "ref.go:46", #[⟨6, .data⟩, ⟨2, .guard⟩], (some (2, true))⟩) (v := ?v325) rfl (by kernel_rfl) (by kernel_rfl) (by kernel_rfl) (fun _ _ _ h => h) (Or.inl ⟨rfl, ?hy325⟩) hHeld ?rest325
            case hy325 => (intro w hSw; (try dsimp only at hSw); go_simp <;> first | with_reducible rfl | rw [if_neg (by omega)] | rw [if_pos (by omega)])
            (try simp only [Act.put]); (try simp only [List.setIfInBounds_toArray]); (try simp only [List.set_cons_succ]); (try simp only [List.set_cons_zero])
            refine wpAnyH_take (i := 8) (oi := ⟨(some 34), (.binOp .eql 3 (.tmp 33) (.const (.int .i64 0)) 3), 4, "ref.go:46", #[⟨7, .data⟩, ⟨2, .guard⟩], (some (2, true))⟩) (v := ?v326) rfl (by kernel_rfl) (by kernel_rfl) (by kernel_rfl) (fun _ _ _ h => h) (Or.inl ⟨rfl, ?hy326⟩) hHeld ?rest326
            case hy326 => (intro w hSw; (try dsimp only at hSw); go_simp <;> first | rw [decide_eq_false hk0] | rw [beq_eq_false_iff_ne.2 hk0] | rw [decide_eq_true hk0] | rw [beq_iff_eq.2 hk0])
            (try simp only [Act.put]); (try simp only [List.setIfInBounds_toArray]); (try simp only [List.set_cons_succ]); (try simp only [List.set_cons_zero])
            refine wpAnyH_take (i := 9) (oi := ⟨(some 35), (.move (.tmp 34)), 4, "ref.go:46", #[⟨8, .data⟩, ⟨2, .chain⟩, ⟨2, .guard⟩], (some (2, true))⟩) (v := ?v327) rfl (by kernel_rfl) (by kernel_rfl) (by kernel_rfl) (fun _ _ _ h => h) (Or.inl ⟨rfl, ?hy327⟩) hHeld ?rest327
            case hy327 => (intro w hSw; (try dsimp only at hSw); go_simp <;> first | with_reducible rfl | rw [if_neg (by omega)] | rw [if_pos (by omega)])
            (try simp only [Act.put]); (try simp only [List.setIfInBounds_toArray]); (try simp only [List.set_cons_succ]); (try simp only [List.set_cons_zero])
            refine wpAnyH_take (i := 10) (oi := ⟨(some 36), (.move (.tmp 2)), 37, "ref.go:46", #[⟨9, .guard⟩], (some (9, true))⟩) (v := undef) rfl (by kernel_rfl) (by kernel_rfl) (by kernel_rfl) (fun _ _ _ h => h) (Or.inr ⟨rfl, rfl⟩) hHeld ?rest328
            (try simp only [Act.put]); (try simp only [List.setIfInBounds_toArray]); (try simp only [List.set_cons_succ]); (try simp only [List.set_cons_zero])
            refine wpAnyH_take (i := 11) (oi := ⟨(some 37), (.move (.tmp 9)), 3, "ref.go:46", #[⟨9, .guard⟩], (some (9, true))⟩) (v := undef) rfl (by kernel_rfl) (by kernel_rfl) (by kernel_rfl) (fun _ _ _ h => h) (Or.inr ⟨rfl, rfl⟩) hHeld ?rest329
            (try simp only [Act.put]); (try simp only [List.setIfInBounds_toArray]); (try simp only [List.set_cons_succ]); (try simp only [List.set_cons_zero])
            refine wpAnyH_take (i := 12) (oi := ⟨(some 38), (.indexAddr 37 (.tmp 36) (.tmp 37)), 0, "ref.go:46", #[⟨10, .data⟩, ⟨11, .data⟩, ⟨9, .guard⟩], (some (9, true))⟩) (v := undef) rfl (by kernel_rfl) (by kernel_rfl) (by kernel_rfl) (fun _ _ _ h => h) (Or.inr ⟨rfl, rfl⟩) hHeld ?rest330
            (try simp only [Act.put]); (try simp only [List.setIfInBounds_toArray]); (try simp only [List.set_cons_succ]); (try simp only [List.set_cons_zero])
            refine wpAnyH_take (i := 13) (oi := ⟨(some 39), (.load 40 (.tmp 38)), 40, "ref.go:46", #[⟨12, .data⟩, ⟨9, .guard⟩], (some (9, true))⟩) (v := undef) rfl (by kernel_rfl) (by kernel_rfl) (by kernel_rfl) (fun _ _ _ h => h) (Or.inr ⟨rfl, rfl⟩) hHeld ?rest331
            (try simp only [Act.put]); (try simp only [List.setIfInBounds_toArray]); (try simp only [List.set_cons_succ]); (try simp only [List.set_cons_zero])
            refine wpAnyH_take (i := 14) (oi := ⟨(some 40), (.call { callee := (.value (.func 43)), args := #[], argTypes := #[] }), 40, "ref.go:46", #[⟨9, .chain⟩, ⟨9, .guard⟩], (some (9, true))⟩) (v := undef) rfl (by kernel_rfl) (by kernel_rfl) (by kernel_rfl) (fun _ _ _ h => h) (Or.inr ⟨rfl, rfl⟩) hHeld ?rest332
            (try simp only [Act.put]); (try simp only [List.setIfInBounds_toArray]); (try simp only [List.set_cons_succ]); (try simp only [List.set_cons_zero])
            refine wpAnyH_take (i := 15) (oi := ⟨(some 41), (.call { callee := (.value (.func 68)), args := #[(.tmp 39), (.tmp 40)], argTypes := #[40, 40] }), 3, "ref.go:46", #[⟨13, .data⟩, ⟨14, .data⟩, ⟨14, .chain⟩, ⟨9, .guard⟩], (some (9, true))⟩) (v := undef) rfl (by kernel_rfl) (by kernel_rfl) (by kernel_rfl) (fun _ _ _ h => h) (Or.inr ⟨rfl, rfl⟩) hHeld ?rest333
            (try simp only [Act.put]); (try simp only [List.setIfInBounds_toArray]); (try simp only [List.set_cons_succ]); (try simp only [List.set_cons_zero])
            refine wpAnyH_take (i := 16) (oi := ⟨(some 42), (.binOp .eql 3 (.tmp 41) (.const (.int .i64 0)) 3), 4, "ref.go:46", #[⟨15, .data⟩, ⟨9, .guard⟩], (some (9, true))⟩) (v := undef) rfl (by kernel_rfl) (by kernel_rfl) (by kernel_rfl) (fun _ _ _ h => h) (Or.inr ⟨rfl, rfl⟩) hHeld ?rest334
            (try simp only [Act.put]); (try simp only [List.setIfInBounds_toArray]); (try simp only [List.set_cons_succ]); (try simp only [List.set_cons_zero])
            refine wpAnyH_take (i := 17) (oi := ⟨(some 43), (.pick (.tmp 35) (.tmp 42) (.const (.bool false))), 4, "ref.go:46", #[⟨9, .data⟩, ⟨16, .data⟩, ⟨2, .guard⟩], (some (2, true))⟩) (v := ?v335) rfl (by kernel_rfl) (by kernel_rfl) (by kernel_rfl) (fun _ _ _ h => h) (Or.inl ⟨rfl, ?hy335⟩) hHeld ?rest335
            case hy335 => (intro w hSw; (try dsimp only at hSw); go_simp <;> first | with_reducible rfl | rw [if_neg (by omega)] | rw [if_pos (by omega)])
            (try simp only [Act.put]); (try simp only [List.setIfInBounds_toArray]); (try simp only [List.set_cons_succ]); (try simp only [List.set_cons_zero])
            refine wpAnyH_take (i := 18) (oi := ⟨(some 44), (.move (.tmp 43)), 4, "ref.go:46", #[⟨17, .data⟩, ⟨15, .chain⟩, ⟨2, .guard⟩], (some (2, true))⟩) (v := ?v336) rfl (by kernel_rfl) (by kernel_rfl) (by kernel_rfl) (fun _ _ _ h => h) (Or.inl ⟨rfl, ?hy336⟩) hHeld ?rest336
            case hy336 => (intro w hSw; (try dsimp only at hSw); go_simp <;> first | with_reducible rfl | rw [if_neg (by omega)] | rw [if_pos (by omega)])
            (try simp only [Act.put]); (try simp only [List.setIfInBounds_toArray]); (try simp only [List.set_cons_succ]); (try simp only [List.set_cons_zero])
            refine wpAnyH_take (i := 19) (oi := ⟨(some 45), (.move (.tmp 2)), 37, "ref.go:46", #[⟨18, .guard⟩], (some (18, false))⟩) (v := ?v337) rfl (by kernel_rfl) (by kernel_rfl) (by kernel_rfl) (fun _ _ _ h => h) (Or.inl ⟨rfl, ?hy337⟩) hHeld ?rest337
            case hy337 => (intro w hSw; (try dsimp only at hSw); go_simp <;> first | with_reducible rfl | rw [if_neg (by omega)] | rw [if_pos (by omega)])
            (try simp only [Act.put]); (try simp only [List.setIfInBounds_toArray]); (try simp only [List.set_cons_succ]); (try simp only [List.set_cons_zero])
            refine wpAnyH_take (i := 20) (oi := ⟨(some 46), (.move (.tmp 9)), 3, "ref.go:46", #[⟨18, .guard⟩], (some (18, false))⟩) (v := ?v338) rfl (by kernel_rfl) (by kernel_rfl) (by kernel_rfl) (fun _ _ _ h => h) (Or.inl ⟨rfl, ?hy338⟩) hHeld ?rest338
            case hy338 => (intro w hSw; (try dsimp only at hSw); go_simp <;> first | with_reducible rfl | rw [if_neg (by omega)] | rw [if_pos (by omega)])
            (try simp only [Act.put]); (try simp only [List.setIfInBounds_toArray]); (try simp only [List.set_cons_succ]); (try simp only [List.set_cons_zero])
            refine wpAnyH_take (i := 21) (oi := ⟨(some 47), (.indexAddr 37 (.tmp 45) (.tmp 46)), 0, "ref.go:46", #[⟨19, .data⟩, ⟨20, .data⟩, ⟨18, .guard⟩], (some (18, false))⟩) (v := ?v339) rfl (by kernel_rfl) (by kernel_rfl) (by kernel_rfl) (fun _ _ _ h => h) (Or.inl ⟨rfl, ?hy339⟩) hHeld ?rest339
            case hy339 => (intro w hSw; (try dsimp only at hSw); go_simp <;> first | with_reducible rfl | rw [if_neg (by omega)] | rw [if_pos (by omega)])
            (try simp only [Act.put]); (try simp only [List.setIfInBounds_toArray]); (try simp only [List.set_cons_succ]); (try simp only [List.set_cons_zero])
            refine wpAnyH_take (i := 22) (oi := ⟨(some 48), (.load 40 (.tmp 47)), 40, "ref.go:46", #[⟨21, .data⟩, ⟨18, .guard⟩], (some (18, false))⟩) (v := ?v340) rfl (by kernel_rfl) (by kernel_rfl) (by kernel_rfl) (fun _ _ _ h => h) (Or.inl ⟨rfl, ?hy340⟩) hHeld ?rest340
            case hy340 => (intro w hSw; (try dsimp only at hSw); go_simp <;> first | with_reducible rfl | rw [if_neg (by omega)] | rw [if_pos (by omega)])
            (try simp only [Act.put]); (try simp only [List.setIfInBounds_toArray]); (try simp only [List.set_cons_succ]); (try simp only [List.set_cons_zero])
            refine wpAnyH_take (i := 23) (oi := ⟨(some 49), (.move (.tmp 3)), 37, "ref.go:46", #[⟨18, .guard⟩], (some (18, false))⟩) (v := ?v341) rfl (by kernel_rfl) (by kernel_rfl) (by kernel_rfl) (fun _ _ _ h => h) (Or.inl ⟨rfl, ?hy341⟩) hHeld ?rest341
            case hy341 => (intro w hSw; (try dsimp only at hSw); go_simp <;> first | with_reducible rfl | rw [if_neg (by omega)] | rw [if_pos (by omega)])
            (try simp only [Act.put]); (try simp only [List.setIfInBounds_toArray]); (try simp only [List.set_cons_succ]); (try simp only [List.set_cons_zero])
            refine wpAnyH_take (i := 24) (oi := ⟨(some 50), (.move (.tmp 10)), 3, "ref.go:46", #[⟨18, .guard⟩], (some (18, false))⟩) (v := ?v342) rfl (by kernel_rfl) (by kernel_rfl) (by kernel_rfl) (fun _ _ _ h => h) (Or.inl ⟨rfl, ?hy342⟩) hHeld ?rest342
            case hy342 => (intro w hSw; (try dsimp only at hSw); go_simp <;> first | with_reducible rfl | rw [if_neg (by omega)] | rw [if_pos (by omega)])
            (try simp only [Act.put]); (try simp only [List.setIfInBounds_toArray]); (try simp only [List.set_cons_succ]); (try simp only [List.set_cons_zero])
            refine wpAnyH_take (i := 25) (oi := ⟨(some 51), (.indexAddr 37 (.tmp 49) (.tmp 50)), 0, "ref.go:46", #[⟨23, .data⟩, ⟨24, .data⟩, ⟨18, .guard⟩], (some (18, false))⟩) (v := ?v343) rfl (by kernel_rfl) (by kernel_rfl) (by kernel_rfl) (fun _ _ _ h => h) (Or.inl ⟨rfl, ?hy343⟩) hHeld ?rest343
            case hy343 => (intro w hSw; (try dsimp only at hSw); go_simp <;> first | with_reducible rfl | rw [if_neg (by omega)] | rw [if_pos (by omega)])
            (try simp only [Act.put]); (try simp only [List.setIfInBounds_toArray]); (try simp only [List.set_cons_succ]); (try simp only [List.set_cons_zero])
            refine wpAnyH_take (i := 26) (oi := ⟨(some 52), (.load 40 (.tmp 51)), 40, "ref.go:46", #[⟨25, .data⟩, ⟨18, .guard⟩], (some (18, false))⟩) (v := ?v344) rfl (by kernel_rfl) (by kernel_rfl) (by kernel_rfl) (fun _ _ _ h => h) (Or.inl ⟨rfl, ?hy344⟩) hHeld ?rest344
            case hy344 => (intro w hSw; (try dsimp only at hSw); go_simp <;> first | with_reducible rfl | rw [if_neg (by omega)] | rw [if_pos (by omega)])
            (try simp only [Act.put]); (try simp only [List.setIfInBounds_toArray]); (try simp only [List.set_cons_succ]); (try simp only [List.set_cons_zero])
            refine wpAnyH_ready (rs := [27]) (by kernel_rfl) (by simp) ?_
            refine AllReadyH.cons (o := ⟨(some 53), (.call { callee := (.value (.func 68)), args := #[(.tmp 48), (.tmp 52)], argTypes := #[40, 40] }), 3, "ref.go:46", #[⟨22, .data⟩, ⟨26, .data⟩, ⟨18, .chain⟩, ⟨18, .guard⟩], (some (18, false))⟩) rfl (fun K hK => ?step345x0) ?more345x0
            case more345x0 => exact AllReadyH.nil
            go_simp
            (refine (H2.out _ (by repeat (first | with_reducible exact Ext.refl _ | with_reducible assumption | with_reducible refine Ext.drew ?_ | with_reducible refine Ext.drewN ?_ _ | with_reducible refine Ext.alloc ?_ _))).mono ?_; rintro e w6 ⟨rfl, hx6⟩; replace hx6 : Ext w3 w6 := Ext.trans (by repeat (first | with_reducible exact Ext.refl _ | with_reducible assumption | with_reducible refine Ext.drew ?_ | with_reducible refine Ext.drewN ?_ _ | with_reducible refine Ext.alloc ?_ _)) hx6)
            refine hK.out _ _ ?hS345x0 (fun hHeld345 => ?rest345x0)
            case hS345x0 => first | (exact MKR18.out _ (by repeat (first | with_reducible exact Ext.refl _ | with_reducible assumption | with_reducible refine Ext.drew ?_ | with_reducible refine Ext.drewN ?_ _ | with_reducible refine Ext.alloc ?_ _))) | ((try dsimp only); (exact MKR18.out _ (by repeat (first | with_reducible exact Ext.refl _ | with_reducible assumption | with_reducible refine Ext.drew ?_ | with_reducible refine Ext.drewN ?_ _ | with_reducible refine Ext.alloc ?_ _))))
            clear hK K
            clear hHeld
            (try simp only [Act.put]); (try simp only [List.setIfInBounds_toArray]); (try simp only [List.set_cons_succ]); (try simp only [List.set_cons_zero])
            refine wpAnyH_take (i := 28) (oi := ⟨(some 54), (.binOp .neq 3 (.tmp 53) (.const (.int .i64 0)) 3), 4, "ref.go:46", #[⟨27, .data⟩, ⟨18, .guard⟩], (some (18, false))⟩) (v := ?v346) rfl (by kernel_rfl) (by kernel_rfl) (by kernel_rfl) (fun _ _ _ h => h) (Or.inl ⟨rfl, ?hy346⟩) hHeld345 ?rest346
            case hy346 => (intro w hSw; (try dsimp only at hSw); go_simp <;> first | with_reducible rfl | rw [if_neg (by omega)] | rw [if_pos (by omega)])
            (try simp only [Act.put]); (try simp only [List.setIfInBounds_toArray]); (try simp only [List.set_cons_succ]); (try simp only [List.set_cons_zero])
            refine wpAnyH_take (i := 29) (oi := ⟨(some 55), (.pick (.tmp 44) (.const (.bool true)) (.tmp 54)), 4, "ref.go:46", #[⟨18, .data⟩, ⟨28, .data⟩, ⟨2, .guard⟩], (some (2, true))⟩) (v := ?v347) rfl (by kernel_rfl) (by kernel_rfl) (by kernel_rfl) (fun _ _ _ h => h) (Or.inl ⟨rfl, ?hy347⟩) hHeld345 ?rest347
            case hy347 => (intro w hSw; (try dsimp only at hSw); go_simp <;> first | with_reducible rfl | rw [if_neg (by omega)] | rw [if_pos (by omega)])
            (try simp only [Act.put]); (try simp only [List.setIfInBounds_toArray]); (try simp only [List.set_cons_succ]); (try simp only [List.set_cons_zero])
            refine wpAnyH_take (i := 30) (oi := ⟨(some 56), (.pick (.tmp 28) (.tmp 55) (.const (.bool false))), 4, "ref.go:46", #[⟨2, .data⟩, ⟨29, .data⟩], none⟩) (v := ?v348) rfl (by kernel_rfl) (by kernel_rfl) (by kernel_rfl) (fun _ _ _ h => h) (Or.inl ⟨rfl, ?hy348⟩) hHeld345 ?rest348
            case hy348 => (intro w hSw; (try dsimp only at hSw); go_simp <;> first | with_reducible rfl | rw [if_neg (by omega)] | rw [if_pos (by omega)])
            (try simp only [Act.put]); (try simp only [List.setIfInBounds_toArray]); (try simp only [List.set_cons_succ]); (try simp only [List.set_cons_zero])
            refine wpAnyH_done (by kernel_rfl) ?_ _
            clear hHeld345
            clear MKR18
            go_wp2_with fail
            go_roundw
            case rel => exact ⟨k + 1, by go_num, by omega, HX, hE3.trans hx6⟩
            case measure => simp [intOf]; omega
          · have hz2 : ¬ z2 = 0 := fun h => he (HO2.out.1 h)
            have HX := Lib.hid (HFF.out (fun h => he h.2))
            clear hn he HO1 HO2
            go_upto_region 5 with (fail)
            have MKR19 := Lib.hid (fun V (e : Ext w3 V) => (⟨e.cell e0, e.cell e1, e.cell e2, e.cell e3, e.cell e4, e.cell f0, e.cell f1, e.cell f2, e.cell f3, e.cell f4, e⟩ : V.cell? ⟨bx, ox + k * 5, none⟩ = some (.int .i64 kd) ∧ V.cell? ⟨bx, ox + k * 5 + 1, none⟩ = some (.int .i64 xi.n) ∧ V.cell? ⟨bx, ox + k * 5 + 2, none⟩ = some (.int .i64 xi.d) ∧ V.cell? ⟨bx, ox + k * 5 + 3, none⟩ = some (.string xi.s) ∧ V.cell? ⟨bx, ox + k * 5 + 4, none⟩ = some (.slice Ax xi.l.length ex) ∧ V.cell? ⟨by_, oy + j * 5, none⟩ = some (.int .i64 yj.kind) ∧ V.cell? ⟨by_, oy + j * 5 + 1, none⟩ = some (.int .i64 yj.n) ∧ V.cell? ⟨by_, oy + j * 5 + 2, none⟩ = some (.int .i64 yj.d) ∧ V.cell? ⟨by_, oy + j * 5 + 3, none⟩ = some (.string yj.s) ∧ V.cell? ⟨by_, oy + j * 5 + 4, none⟩ = some (.slice Ay yj.l.length ey) ∧ Ext w3 V))
            refine wp_region_held_drew (S := (fun V => V.cell? ⟨bx, ox + k * 5, none⟩ = some (.int .i64 kd) ∧ V.cell? ⟨bx, ox + k * 5 + 1, none⟩ = some (.int .i64 xi.n) ∧ V.cell? ⟨bx, ox + k * 5 + 2, none⟩ = some (.int .i64 xi.d) ∧ V.cell? ⟨bx, ox + k * 5 + 3, none⟩ = some (.string xi.s) ∧ V.cell? ⟨bx, ox + k * 5 + 4, none⟩ = some (.slice Ax xi.l.length ex) ∧ V.cell? ⟨by_, oy + j * 5, none⟩ = some (.int .i64 yj.kind) ∧ V.cell? ⟨by_, oy + j * 5 + 1, none⟩ = some (.int .i64 yj.n) ∧ V.cell? ⟨by_, oy + j * 5 + 2, none⟩ = some (.int .i64 yj.d) ∧ V.cell? ⟨by_, oy + j * 5 + 3, none⟩ = some (.string yj.s) ∧ V.cell? ⟨by_, oy + j * 5 + 4, none⟩ = some (.slice Ay yj.l.length ey) ∧ Ext w3 V)) (by kernel_rfl) ?hs349 (fun hHeld => ?go349)
            case hs349 => (exact MKR19.out _ (by repeat (first | with_reducible exact Ext.refl _ | with_reducible assumption | with_reducible refine Ext.drew ?_ | with_reducible refine Ext.drewN ?_ _ | with_reducible refine Ext.alloc ?_ _)))
            refine wpAnyH_take (i := 0) (oi := ⟨(some 26), (.move (.tmp 10)), 3, "ref.go:46", #[], none⟩) (v := ?v350) rfl (by kernel_rfl) (by kernel_rfl) (by kernel_rfl) (fun _ _ _ h => h) (Or.inl ⟨rfl, ?hy350⟩) hHeld ?rest350
            case hy350 => (intro w hSw; (try dsimp only at hSw); go_simp <;> first | with_reducible rfl | rw [if_neg (by omega)] | rw [if_pos (by omega)])
            (try simp only [Act.put]); (try simp only [List.setIfInBounds_toArray]); (try simp only [List.set_cons_succ]); (try simp only [List.set_cons_zero])
            refine wpAnyH_take (i := 1) (oi := ⟨(some 27), (.binOp .geq 3 (.tmp 26) (.const (.int .i64 0)) 3), 4, "ref.go:46", #[⟨0, .data⟩], none⟩) (v := ?v351) rfl (by kernel_rfl) (by kernel_rfl) (by kernel_rfl) (fun _ _ _ h => h) (Or.inl ⟨rfl, ?hy351⟩) hHeld ?rest351
            case hy351 => (intro w hSw; (try dsimp only at hSw); go_simp <;> first | with_reducible rfl | rw [if_neg (by omega)] | rw [if_pos (by omega)])
            (try simp only [Act.put]); (try simp only [List.setIfInBounds_toArray]); (try simp only [List.set_cons_succ]); (try simp only [List.set_cons_zero])
            refine wpAnyH_take (i := 2) (oi := ⟨(some 28), (.move (.tmp 27)), 4, "ref.go:46", #[⟨1, .data⟩], none⟩) (v := ?v352) rfl (by kernel_rfl) (by kernel_rfl) (by kernel_rfl) (fun _ _ _ h => h) (Or.inl ⟨rfl, ?hy352⟩) hHeld ?rest352
            case hy352 => (intro w hSw; (try dsimp only at hSw); go_simp <;> first | with_reducible rfl | rw [if_neg (by omega)] | rw [if_pos (by omega)])
            (try simp only [Act.put]); (try simp only [List.setIfInBounds_toArray]); (try simp only [List.set_cons_succ]); (try simp only [List.set_cons_zero])
            refine wpAnyH_take (i := 3) (oi := ⟨(some 29), (.move (.tmp 2)), 37, "ref.go:46", #[⟨2, .guard⟩], (some (2, true))⟩) (v := ?v353) rfl (by kernel_rfl) (by kernel_rfl) (by kernel_rfl) (fun _ _ _ h => h) (Or.inl ⟨rfl, ?hy353⟩) hHeld ?rest353
            case hy353 => (intro w hSw; (try dsimp only at hSw); go_simp <;> first | with_reducible rfl | rw [if_neg (by omega)] | rw [if_pos (by omega)])
            (try simp only [Act.put]); (try simp only [List.setIfInBounds_toArray]); (try simp only [List.set_cons_succ]); (try simp only [List.set_cons_zero])
            refine wpAnyH_take (i := 4) (oi := ⟨(some 30), (.move (.tmp 9)), 3, "ref.go:46", #[⟨2, .guard⟩], (some (2, true))⟩) (v := ?v354) rfl (by kernel_rfl) (by kernel_rfl) (by kernel_rfl) (fun _ _ _ h => h) (Or.inl ⟨rfl, ?hy354⟩) hHeld ?rest354
            case hy354 => (intro w hSw; (try dsimp only at hSw); go_simp <;> first | with_reducible rfl | rw [if_neg (by omega)] | rw [if_pos (by omega)])
            (try simp only [Act.put]); (try simp only [List.setIfInBounds_toArray]); (try simp only [List.set_cons_succ]); (try simp only [List.set_cons_zero])
            refine wpAnyH_take (i := 5) (oi := ⟨(some 31), (.indexAddr 37 (.tmp 29) (.tmp 30)), 0, "ref.go:46", #[⟨3, .data⟩, ⟨4, .data⟩, ⟨2, .guard⟩], (some (2, true))⟩) (v := ?v355) rfl (by kernel_rfl) (by kernel_rfl) (by kernel_rfl) (fun _ _ _ h => h) (Or.inl ⟨rfl, ?hy355⟩) hHeld ?rest355
            case hy355 => (intro w hSw; (try dsimp only at hSw); go_simp <;> first | with_reducible rfl | rw [if_neg (by omega)] | rw [if_pos (by omega)])
            (try simp only [Act.put]); (try simp only [List.setIfInBounds_toArray]); (try simp only [List.set_cons_succ]); (try simp only [List.set_cons_zero])
            refine wpAnyH_take (i := 6) (oi := ⟨(some 32), (.fieldAddr 40 (.tmp 31) 0), 0, "ref.go:46", #[⟨5, .data⟩, ⟨2, .guard⟩], (some (2, true))⟩) (v := ?v356) rfl (by kernel_rfl) (by kernel_rfl) (by kernel_rfl) (fun _ _ _ h => h) (Or.inl ⟨rfl, ?hy356⟩) hHeld ?rest356
            case hy356 => (intro w hSw; (try dsimp only at hSw); go_simp <;> first | with_reducible rfl | rw [if_neg (by omega)] | rw [if_pos (by omega)])
            (try simp only [Act.put]); (try simp only [List.setIfInBounds_toArray]); (try simp only [List.set_cons_succ]); (try simp only [List.set_cons_zero])
            refine wpAnyH_take (i := 7) (oi := ⟨(some 33), (.load 3 (.tmp 32)), 3, "ref.go:46", #[⟨6, .data⟩, ⟨2, .guard⟩], (some (2, true))⟩) (v := ?v357) rfl (by kernel_rfl) (by kernel_rfl) (by kernel_rfl) (fun _ _ _ h => h) (Or.inl ⟨rfl, ?hy357⟩) hHeld ?rest357
            case hy357 => (intro w hSw; (try dsimp only at hSw); go_simp <;> first | with_reducible rfl | rw [if_neg (by omega)] | rw [if_pos (by omega)])
            (try simp only [Act.put]); (try simp only [List.setIfInBounds_toArray]); (try simp only [List.set_cons_succ]); (try simp only [List.set_cons_zero])
            refine wpAnyH_take (i := 8) (oi := ⟨(some 34), (.binOp .eql 3 (.tmp 33) (.const (.int .i64 0)) 3), 4, "ref.go:46", #[⟨7, .data⟩, ⟨2, .guard⟩], (some (2, true))⟩) (v := ?v358) rfl (by kernel_rfl) (by kernel_rfl) (by kernel_rfl) (fun _ _ _ h => h) (Or.inl ⟨rfl, ?hy358⟩) hHeld ?rest358
            case hy358 => (intro w hSw; (try dsimp only at hSw); go_simp <;> first | rw [decide_eq_false hk0] | rw [beq_eq_false_iff_ne.2 hk0] | rw [decide_eq_true hk0] | rw [beq_iff_eq.2 hk0])
            (try simp only [Act.put]); (try simp only [List.setIfInBounds_toArray]); (try simp only [List.set_cons_succ]); (try simp only [List.set_cons_zero])
            refine wpAnyH_take (i := 9) (oi := ⟨(some 35), (.move (.tmp 34)), 4, "ref.go:46", #[⟨8, .data⟩, ⟨2, .chain⟩, ⟨2, .guard⟩], (some (2, true))⟩) (v := ?v359) rfl (by kernel_rfl) (by kernel_rfl) (by kernel_rfl) (fun _ _ _ h => h) (Or.inl ⟨rfl, ?hy359⟩) hHeld ?rest359
            case hy359 => (intro w hSw; (try dsimp only at hSw); go_simp <;> first | with_reducible rfl | rw [if_neg (by omega)] | rw [if_pos (by omega)])
            (try simp only [Act.put]); (try simp only [List.setIfInBounds_toArray]); (try simp only [List.set_cons_succ]); (try simp only [List.set_cons_zero])
            refine wpAnyH_take (i := 10) (oi := ⟨(some 36), (.move (.tmp 2)), 37, "ref.go:46", #[⟨9, .guard⟩], (some (9, true))⟩) (v := undef) rfl (by kernel_rfl) (by kernel_rfl) (by kernel_rfl) (fun _ _ _ h => h) (Or.inr ⟨rfl, rfl⟩) hHeld ?rest360
            (try simp only [Act.put]); (try simp only [List.setIfInBounds_toArray]); (try simp only [List.set_cons_succ]); (try simp only [List.set_cons_zero])
            refine wpAnyH_take (i := 11) (oi := ⟨(some 37), (.move (.tmp 9)), 3, "ref.go:46", #[⟨9, .guard⟩], (some (9, true))⟩) (v := undef) rfl (by kernel_rfl) (by kernel_rfl) (by kernel_rfl) (fun _ _ _ h => h) (Or.inr ⟨rfl, rfl⟩) hHeld ?rest361
            (try simp only [Act.put]); (try simp only [List.setIfInBounds_toArray]); (try simp only [List.set_cons_succ]); (try simp only [List.set_cons_zero])
            refine wpAnyH_take (i := 12) (oi := ⟨(some 38), (.indexAddr 37 (.tmp 36) (.tmp 37)), 0, "ref.go:46", #[⟨10, .data⟩, ⟨11, .data⟩, ⟨9, .guard⟩], (some (9, true))⟩) (v := undef) rfl (by kernel_rfl) (by kernel_rfl) (by kernel_rfl) (fun _ _ _ h => h) (Or.inr ⟨rfl, rfl⟩) hHeld ?rest362
            (try simp only [Act.put]); (try simp only [List.setIfInBounds_toArray]); (try simp only [List.set_cons_succ]); (try simp only [List.set_cons_zero])
            refine wpAnyH_take (i := 13) (oi := ⟨(some 39), (.load 40 (.tmp 38)), 40, "ref.go:46", #[⟨12, .data⟩, ⟨9, .guard⟩], (some (9, true))⟩) (v := undef) rfl (by kernel_rfl) (by kernel_rfl) (by kernel_rfl) (fun _ _ _ h => h) (Or.inr ⟨rfl, rfl⟩) hHeld ?rest363
            (try simp only [Act.put]); (try simp only [List.setIfInBounds_toArray]); (try simp only [List.set_cons_succ]); (try simp only [List.set_cons_zero])
            refine wpAnyH_take (i := 14) (oi := ⟨(some 40), (.call { callee := (.value (.func 43)), args := #[], argTypes := #[] }), 40, "ref.go:46", #[⟨9, .chain⟩, ⟨9, .guard⟩], (some (9, true))⟩) (v := undef) rfl (by kernel_rfl) (by kernel_rfl) (by kernel_rfl) (fun _ _ _ h => h) (Or.inr ⟨rfl, rfl⟩) hHeld ?rest364
            (try simp only [Act.put]); (try simp only [List.setIfInBounds_toArray]); (try simp only [List.set_cons_succ]); (try simp only [List.set_cons_zero])
            refine wpAnyH_take (i := 15) (oi := ⟨(some 41), (.call { callee := (.value (.func 68)), args := #[(.tmp 39), (.tmp 40)], argTypes := #[40, 40] }), 3, "ref.go:46", #[⟨13, .data⟩, ⟨14, .data⟩, ⟨14, .chain⟩, ⟨9, .guard⟩], (some (9, true))⟩) (v := undef) rfl (by kernel_rfl) (by kernel_rfl) (by kernel_rfl) (fun _ _ _ h => h) (Or.inr ⟨rfl, rfl⟩) hHeld ?rest365
            (try simp only [Act.put]); (try simp only [List.setIfInBounds_toArray]); (try simp only [List.set_cons_succ]); (try simp only [List.set_cons_zero])
            refine wpAnyH_take (i := 16) (oi := ⟨(some 42), (.binOp .eql 3 (.tmp 41) (.const (.int .i64 0)) 3), 4, "ref.go:46", #[⟨15, .data⟩, ⟨9, .guard⟩], (some (9, true))⟩) (v := undef) rfl (by kernel_rfl) (by kernel_rfl) (by kernel_rfl) (fun _ _ _ h => h) (Or.inr ⟨rfl, rfl⟩) hHeld ?rest366
            (try simp only [Act.put]); (try simp only [List.setIfInBounds_toArray]); (try simp only [List.set_cons_succ]); (try simp only [List.set_cons_zero])
            refine wpAnyH_take (i := 17) (oi := ⟨(some 43), (.pick (.tmp 35) (.tmp 42) (.const (.bool false))), 4, "ref.go:46", #[⟨9, .data⟩, ⟨16, .data⟩, ⟨2, .guard⟩], (some (2, true))⟩) (v := ?v367) rfl (by kernel_rfl) (by kernel_rfl) (by kernel_rfl) (fun _ _ _ h => h) (Or.inl ⟨rfl, ?hy367⟩) hHeld ?rest367
            case hy367 => (intro w hSw; (try dsimp only at hSw); go_simp <;> first | with_reducible rfl | rw [if_neg (by omega)] | rw [if_pos (by omega)])
            (try simp only [Act.put]); (try simp only [List.setIfInBounds_toArray]); (try simp only [List.set_cons_succ]); (try simp only [List.set_cons_zero])
            refine wpAnyH_take (i := 18) (oi := ⟨(some 44), (.move (.tmp 43)), 4, "ref.go:46", #[⟨17, .data⟩, ⟨15, .chain⟩, ⟨2, .guard⟩], (some (2, true))⟩) (v := ?v368) rfl (by kernel_rfl) (by kernel_rfl) (by kernel_rfl) (fun _ _ _ h => h) (Or.inl ⟨rfl, ?hy368⟩) hHeld ?rest368
            case hy368 => (intro w hSw; (try dsimp only at hSw); go_simp <;> first | with_reducible rfl | rw [if_neg (by omega)] | rw [if_pos (by omega)])
            (try simp only [Act.put]); (try simp only [List.setIfInBounds_toArray]); (try simp only [List.set_cons_succ]); (try simp only [List.set_cons_zero])
            refine wpAnyH_take (i := 19) (oi := ⟨(some 45), (.move (.tmp 2)), 37, "ref.go:46", #[⟨18, .guard⟩], (some (18, false))⟩) (v := ?v369) rfl (by kernel_rfl) (by kernel_rfl) (by kernel_rfl) (fun _ _ _ h => h) (Or.inl ⟨rfl, ?hy369⟩) hHeld ?rest369
            case hy369 => (intro w hSw; (try dsimp only at hSw); go_simp <;> first | with_reducible rfl | rw [if_neg (by omega)] | rw [if_pos (by omega)])
            (try simp only [Act.put]); (try simp only [List.setIfInBounds_toArray]); (try simp only [List.set_cons_succ]); (try simp only [List.set_cons_zero])
            refine wpAnyH_take (i := 20) (oi := ⟨(some 46), (.move (.tmp 9)), 3, "ref.go:46", #[⟨18, .guard⟩], (some (18, false))⟩) (v := ?v370) rfl (by kernel_rfl) (by kernel_rfl) (by kernel_rfl) (fun _ _ _ h => h) (Or.inl ⟨rfl, ?hy370⟩) hHeld ?rest370
            case hy370 => (intro w hSw; (try dsimp only at hSw); go_simp <;> first | with_reducible rfl | rw [if_neg (by omega)] | rw [if_pos (by omega)])
            (try simp only [Act.put]); (try simp only [List.setIfInBounds_toArray]); (try simp only [List.set_cons_succ]); (try simp only [List.set_cons_zero])
            refine wpAnyH_take (i := 21) (oi := ⟨(some 47), (.indexAddr 37 (.tmp 45) (.tmp 46)), 0, "ref.go:46", #[⟨19, .data⟩, ⟨20, .data⟩, ⟨18, .guard⟩], (some (18, false))⟩) (v := ?v371) rfl (by kernel_rfl) (by kernel_rfl) (by kernel_rfl) (fun _ _ _ h => h) (Or.inl ⟨rfl, ?hy371⟩) hHeld ?rest371
            case hy371 => (intro w hSw; (try dsimp only at hSw); go_simp <;> first | with_reducible rfl | rw [if_neg (by omega)] | rw [if_pos (by omega)])
            (try simp only [Act.put]); (try simp only [List.setIfInBounds_toArray]); (try simp only [List.set_cons_succ]); (try simp only [List.set_cons_zero])
            refine wpAnyH_take (i := 22) (oi := ⟨(some 48), (.load 40 (.tmp 47)), 40, "ref.go:46", #[⟨21, .data⟩, ⟨18, .guard⟩], (some (18, false))⟩) (v := ?v372) rfl (by kernel_rfl) (by kernel_rfl) (by kernel_rfl) (fun _ _ _ h => h) (Or.inl ⟨rfl, ?hy372⟩) hHeld ?rest372
            case hy372 => (intro w hSw; (try dsimp only at hSw); go_simp <;> first | with_reducible rfl | rw [if_neg (by omega)] | rw [if_pos (by omega)])
            (try simp only [Act.put]); (try simp only [List.setIfInBounds_toArray]); (try simp only [List.set_cons_succ]); (try simp only [List.set_cons_zero])
            refine wpAnyH_take (i := 23) (oi := ⟨(some 49), (.move (.tmp 3)), 37, "ref.go:46", #[⟨18, .guard⟩], (some (18, false))⟩) (v := ?v373) rfl (by kernel_rfl) (by kernel_rfl) (by kernel_rfl) (fun _ _ _ h => h) (Or.inl ⟨rfl, ?hy373⟩) hHeld ?rest373
            case hy373 => (intro w hSw; (try dsimp only at hSw); go_simp <;> first | with_reducible rfl | rw [if_neg (by omega)] | rw [if_pos (by omega)])
            (try simp only [Act.put]); (try simp only [List.setIfInBounds_toArray]); (try simp only [List.set_cons_succ]); (try simp only [List.set_cons_zero])
            refine wpAnyH_take (i := 24) (oi := ⟨(some 50), (.move (.tmp 10)), 3, "ref.go:46", #[⟨18, .guard⟩], (some (18, false))⟩) (v := ?v374) rfl (by kernel_rfl) (by kernel_rfl) (by kernel_rfl) (fun _ _ _ h => h) (Or.inl ⟨rfl, ?hy374⟩) hHeld ?rest374
            case hy374 => (intro w hSw; (try dsimp only at hSw); go_simp <;> first | with_reducible rfl | rw [if_neg (by omega)] | rw [if_pos (by omega)])
            (try simp only [Act.put]); (try simp only [List.setIfInBounds_toArray]); (try simp only [List.set_cons_succ]); (try simp only [List.set_cons_zero])
            refine wpAnyH_take (i := 25) (oi := ⟨(some 51), (.indexAddr 37 (.tmp 49) (.tmp 50)), 0, "ref.go:46", #[⟨23, .data⟩, ⟨24, .data⟩, ⟨18, .guard⟩], (some (18, false))⟩) (v := ?v375) rfl (by kernel_rfl) (by kernel_rfl) (by kernel_rfl) (fun _ _ _ h => h) (Or.inl ⟨rfl, ?hy375⟩) hHeld ?rest375
            case hy375 => (intro w hSw; (try dsimp only at hSw); go_simp <;> first | with_reducible rfl | rw [if_neg (by omega)] | rw [if_pos (by omega)])
            (try simp only [Act.put]); (try simp only [List.setIfInBounds_toArray]); (try simp only [List.set_cons_succ]); (try simp only [List.set_cons_zero])
            refine wpAnyH_take (i := 26) (oi := ⟨(some 52), (.load 40 (.tmp 51)), 40, "ref.go:46", #[⟨25, .data⟩, ⟨18, .guard⟩], (some (18, false))⟩) (v := ?v376) rfl (by kernel_rfl) (by kernel_rfl) (by kernel_rfl) (fun _ _ _ h => h) (Or.inl ⟨rfl, ?hy376⟩) hHeld ?rest376
            case hy376 => (intro w hSw; (try dsimp only at hSw); go_simp <;> first | with_reducible rfl | rw [if_neg (by omega)] | rw [if_pos (by omega)])
            (try simp only [Act.put]); (try simp only [List.setIfInBounds_toArray]); (try simp only [List.set_cons_succ]); (try simp only [List.set_cons_zero])
            refine wpAnyH_ready (rs := [27]) (by kernel_rfl) (by simp) ?_
            refine AllReadyH.cons (o := ⟨(some 53), (.call { callee := (.value (.func 68)), args := #[(.tmp 48), (.tmp 52)], argTypes := #[40, 40] }), 3, "ref.go:46", #[⟨22, .data⟩, ⟨26, .data⟩, ⟨18, .chain⟩, ⟨18, .guard⟩], (some (18, false))⟩) rfl (fun K hK => ?step377x0) ?more377x0
            case more377x0 => exact AllReadyH.nil
            go_simp
            (refine (H2.out _ (by repeat (first | with_reducible exact Ext.refl _ | with_reducible assumption | with_reducible refine Ext.drew ?_ | with_reducible refine Ext.drewN ?_ _ | with_reducible refine Ext.alloc ?_ _))).mono ?_; rintro e w6 ⟨rfl, hx6⟩; replace hx6 : Ext w3 w6 := Ext.trans (by repeat (first | with_reducible exact Ext.refl _ | with_reducible assumption | with_reducible refine Ext.drew ?_ | with_reducible refine Ext.drewN ?_ _ | with_reducible refine Ext.alloc ?_ _)) hx6)
            refine hK.out _ _ ?hS377x0 (fun hHeld377 => ?rest377x0)
            case hS377x0 => first | (exact MKR19.out _ (by repeat (first | with_reducible exact Ext.refl _ | with_reducible assumption | with_reducible refine Ext.drew ?_ | with_reducible refine Ext.drewN ?_ _ | with_reducible refine Ext.alloc ?_ _))) | ((try dsimp only); (exact MKR19.out _ (by repeat (first | with_reducible exact Ext.refl _ | with_reducible assumption | with_reducible refine Ext.drew ?_ | with_reducible refine Ext.drewN ?_ _ | with_reducible refine Ext.alloc ?_ _))))
            clear hK K
            clear hHeld
            (try simp only [Act.put]); (try simp only [List.setIfInBounds_toArray]); (try simp only [List.set_cons_succ]); (try simp only [List.set_cons_zero])
            refine wpAnyH_take (i := 28) (oi := ⟨(some 54), (.binOp .neq 3 (.tmp 53) (.const (.int .i64 0)) 3), 4, "ref.go:46", #[⟨27, .data⟩, ⟨18, .guard⟩], (some (18, false))⟩) (v := ?v378) rfl (by kernel_rfl) (by kernel_rfl) (by kernel_rfl) (fun _ _ _ h => h) (Or.inl ⟨rfl, ?hy378⟩) hHeld377 ?rest378
            case hy378 => (intro w hSw; (try dsimp only at hSw); go_simp <;> first | with_reducible rfl | rw [if_neg (by omega)] | rw [if_pos (by omega)])
            (try simp only [Act.put]); (try simp only [List.setIfInBounds_toArray]); (try simp only [List.set_cons_succ]); (try simp only [List.set_cons_zero])
            refine wpAnyH_take (i := 29) (oi := ⟨(some 55), (.pick (.tmp 44) (.const (.bool true)) (.tmp 54)), 4, "ref.go:46", #[⟨18, .data⟩, ⟨28, .data⟩, ⟨2, .guard⟩], (some (2, true))⟩) (v := ?v379) rfl (by kernel_rfl) (by kernel_rfl) (by kernel_rfl) (fun _ _ _ h => h) (Or.inl ⟨rfl, ?hy379⟩) hHeld377 ?rest379
            case hy379 => (intro w hSw; (try dsimp only at hSw); go_simp <;> first | with_reducible rfl | rw [if_neg (by omega)] | rw [if_pos (by omega)])
            (try simp only [Act.put]); (try simp only [List.setIfInBounds_toArray]); (try simp only [List.set_cons_succ]); (try simp only [List.set_cons_zero])
            refine wpAnyH_take (i := 30) (oi := ⟨(some 56), (.pick (.tmp 28) (.tmp 55) (.const (.bool false))), 4, "ref.go:46", #[⟨2, .data⟩, ⟨29, .data⟩], none⟩) (v := ?v380) rfl (by kernel_rfl) (by kernel_rfl) (by kernel_rfl) (fun _ _ _ h => h) (Or.inl ⟨rfl, ?hy380⟩) hHeld377 ?rest380
            case hy380 => (intro w hSw; (try dsimp only at hSw); go_simp <;> first | with_reducible rfl | rw [if_neg (by omega)] | rw [if_pos (by omega)])
            (try simp only [Act.put]); (try simp only [List.setIfInBounds_toArray]); (try simp only [List.set_cons_succ]); (try simp only [List.set_cons_zero])
            refine wpAnyH_done (by kernel_rfl) ?_ _
            clear hHeld377
            clear MKR19
            go_wp2_with fail
            go_ret
            exact ⟨ret_bool HX.out.symm, hxw.trans (hE3.trans hx6)⟩
    · have HX := Lib.hid (HT.out (fun i hi => hgd.out i (by omega)))
      go_wp2_with fail
      go_ret
      exact ⟨ret_bool HX.out.symm, hxw.trans hE⟩
end Go.Proofs.YtbjddimafilflaaGreatDoor
