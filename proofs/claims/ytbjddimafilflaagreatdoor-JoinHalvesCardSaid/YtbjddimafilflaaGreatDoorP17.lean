/- PARTS OF THE WALKS, joined: Ja, Jb, PlainJ. -/
import Derived.Test.YtbjddimafilflaaGreatDoorP16
import Derived.Deep.RegionHeld3
/- THE WALKS over join.part, join.void and what they call; slices.IndexFunc and ContainsFunc at values and rows. -/
namespace Go.Proofs.YtbjddimafilflaaGreatDoor
open Go.RowKit Go.Sort
def nullV : Val := .mk 0 0 0 ByteArray.empty []
instance : Inhabited Val := ⟨nullV⟩
/-- the values of a row at some positions -/
def partJ (r : List Val) (at_ : List Nat) : List Val := at_.map (fun i => r[i]!)
def ints (l : List Nat) : List Int := l.map (fun (i : Nat) => (i : Int))
theorem ints_len (l : List Nat) : (ints l).length = l.length := by simp [ints]
theorem ints_get (l : List Nat) (k : Nat) (h : k < (ints l).length) (h' : k < l.length) : (ints l)[k] = ((l[k] : Nat) : Int) := by simp [ints]
theorem T_rowV : ElT Tryz.prog 37 40 5 64 :=
  ⟨Tryz.underlying37, ⟨.agg #[.int .i64 0, .int .i64 0, .int .i64 0, .string ⟨#[]⟩, .slice none 0 0], by kernel_rfl, rfl⟩, by decide⟩
theorem CopyTo.any {w : World} {ok : Nat → Prop} {base : Nat} {v : Value} {l : List Val} {cs : List (List Value)} (h : CopyTo w ok l cs) (hown : w.ownsRow base 40 5 v l.length cs.flatten) (hl : cs.length = l.length) (hm : l.length ≤ 140737488355328) :
    ∃ A c, v = .slice A l.length c ∧ l.length ≤ c ∧ Vals w (fun _ => True) A l := by
  refine own_sliceR hown rfl hl h.size hm (fun g hg _ k hk hk' hcell => ?_)
  obtain ⟨h', A, c, e, h2, h3⟩ := h k hk'
  rw [e] at hcell
  refine VCells.iff.2 ⟨trivial, A, c, ⟨?_, ?_, ?_, ?_, ?_⟩, h2, h3.to (fun _ _ => trivial)⟩
  · exact hcell 0 _ rfl
  · exact hcell 1 _ rfl
  · exact hcell 2 _ rfl
  · exact hcell 3 _ rfl
  · exact hcell 4 _ rfl
set_option maxRecDepth 100000 in
set_option maxHeartbeats 3200000 in
theorem j_part (r : List Val) (at_ : List Nat) (ok ok' : Nat → Prop) (A B : Option Addr) (c d : Nat) (w : World) (hv : Vals w ok A r) (hn : Nums w ok' B (ints at_)) (hat : ∀ i ∈ at_, i < r.length) (hl : at_.length ≤ 8000000) :
    Calls Tryz.prog 55 #[.slice A r.length c, .slice B at_.length d] w fun e w' => ∃ A' c', e = .returned (.slice A' (partJ r at_).length c') ∧ (partJ r at_).length ≤ c' ∧ Vals w' (fun _ => True) A' (partJ r at_) ∧ Ext w w' := by
  have HV := Lib.hid hv
  have HN := Lib.hid hn
  have HA := Lib.hid hat
  have hrl := hv.len
  have HPL := Lib.hid (show (partJ r at_).length = at_.length by unfold partJ; rw [List.length_map])
  clear hv hn hat
  go_enter Tryz.func55, Tryz.ntmps55
  go_wp2_with fail
  go_loopw [5, 10] (fun v u W => ∃ (k : Nat) (cs : List (List Value)), u = .int .i64 k ∧ k ≤ at_.length ∧ Hid (W.ownsRow w.heap.size 40 5 v k cs.flatten) ∧ Hid (cs.length = k) ∧ Hid (CopyTo w ok (partJ r at_) cs) ∧ Hid (Ext w W)) (fun _ u _ => at_.length - (intOf u).toNat)
  case atStart => exact ⟨0, [], rfl, Nat.zero_le _, Lib.hid (World.ownsRow_nil _ _ _ _), Lib.hid rfl, Lib.hid (CopyTo.nil _ _ _), Lib.hid (Ext.refl _)⟩
  case round =>
    obtain ⟨k, cs, rfl, hk, hown, hcl, hct, hE⟩ := hrel
    by_cases hlt : k < at_.length
    · obtain ⟨b2, o2, rfl, hnc⟩ := HN.out.2 (by rw [ints_len]; omega)
      have hk1 : k < (ints at_).length := by rw [ints_len]; exact hlt
      have q1 := hE.out.cell (hnc k hk1).2
      rw [Nat.mul_one, ints_get at_ k hk1 hlt] at q1
      have hp := HA.out at_[k] (List.getElem_mem hlt)
      have hx : (partJ r at_)[k]'(by rw [HPL.out]; exact hlt) = r[at_[k]] := by unfold partJ; rw [List.getElem_map, getElem!_pos r _ hp]
      obtain ⟨b, o, rfl, hc⟩ := HV.out.2 (by omega)
      obtain ⟨-, A', c', h5, hle, hv'⟩ := VCells.iff.1 (hc at_[k] hp)
      obtain ⟨d0, d1, d2, d3, d4⟩ := h5.ext hE.out
      have HP := Lib.hid (show CopyTo w ok (partJ r at_) (cs ++ [(r[at_[k]]).cells A' c']) by
        have hk' := hcl.out
        subst hk'
        rw [← hx]
        exact hct.out.push (by rw [HPL.out]; exact hlt) (by rw [hx]; exact hle) (by rw [hx]; exact hv'))
      have hpi : (at_[k] : Int) < (r.length : Int) := by omega
      clear hc h5 hv' hnc hk1 hx hle
      generalize r[at_[k]] = x at *
      generalize at_[k] = p at *
      have hown' := hown.out
      have hE' := hE.out
      have hkb : k + 1 ≤ 8388608 := by omega
      go_wp2_with (at_builtin; refine own_pushF T_rowV rfl (.tmp 14) (.tmp 19) rfl w wr _ k _ (x.cells A' c') rfl hown' hE' rfl rfl rfl (Val.cells_one _ _ _) hkb (by decide) ?_; intro v2 w9 hown2 hE9 hF9)
      clear hF9
      have HO2 := Lib.hid (show w9.ownsRow w.heap.size 40 5 v2 (k + 1) (cs ++ [x.cells A' c']).flatten by rw [List.flatten_append]; simpa using hown2)
      have HE9 := Lib.hid hE9
      go_roundw
      case rel => exact ⟨k + 1, cs ++ [x.cells A' c'], by go_num, by omega, HO2, Lib.hid (by rw [List.length_append, hcl.out]; rfl), HP, HE9⟩
      case measure => simp [intOf]; omega
    · have HD := Lib.hid ((hct.out.ext hE.out).any (by rw [HPL.out, show at_.length = k by omega]; exact hown.out) (by rw [HPL.out, hcl.out]; omega) (by rw [HPL.out]; omega))
      have HE := Lib.hid hE.out
      clear hown hct hcl hE
      go_wp2_with fail
      obtain ⟨A9, c9, e9, h9, hV9⟩ := HD.out
      subst e9
      go_ret
      exact ⟨A9, c9, rfl, h9, hV9, HE.out⟩
/-- the first place whose element is told, or -1 -/
def idxF {α : Type} (p : α → Bool) (l : List α) : Int := match l.findIdx? p with | some i => (i : Int) | none => -1
theorem idxF_none {α : Type} {p : α → Bool} {l : List α} (h : ∀ i (hi : i < l.length), p l[i] = false) : idxF p l = -1 := by
  have : l.findIdx? p = none := List.findIdx?_eq_none_iff.2 (fun x hx => by obtain ⟨i, hi, rfl⟩ := List.getElem_of_mem hx; exact h i hi)
  unfold idxF; rw [this]
theorem idxF_at {α : Type} {p : α → Bool} {l : List α} (i : Nat) (hi : i < l.length) (h1 : ∀ j (hj : j < l.length), j < i → p l[j] = false) (h2 : p l[i] = true) : idxF p l = (i : Int) := by
  have : l.findIdx? p = some i := List.findIdx?_eq_some_iff_getElem.2 ⟨hi, h2, fun j hj => by rw [h1 j (by omega) hj]; exact Bool.false_ne_true⟩
  unfold idxF; rw [this]
theorem idxF_any {α : Type} (p : α → Bool) (l : List α) : decide (idxF p l ≥ 0) = l.any p := by
  unfold idxF
  cases h : l.findIdx? p with
  | none => rw [show l.any p = false by rw [List.any_eq_false]; exact fun x hx => by rw [List.findIdx?_eq_none_iff.1 h x hx]; exact Bool.false_ne_true]; rfl
  | some i =>
    obtain ⟨hi, h2, -⟩ := List.findIdx?_eq_some_iff_getElem.1 h
    rw [List.any_eq_true.2 ⟨l[i], List.getElem_mem hi, h2⟩]
    exact decide_eq_true (Int.natCast_nonneg i)
set_option maxRecDepth 100000 in
set_option maxHeartbeats 1600000 in
theorem j_IndexV (l : List Val) (p : Val → Bool) (ok : Nat → Prop) (A : Option Addr) (c : Nat) (f : Nat) (cb : Array Value) (w : World) (hv : Vals w ok A l) (eg : ∀ args w, (callFunc f args).run Tryz.prog w = .ok (.enter f args) w)
    (hf : ∀ x ∈ l, ∀ (Ax : Option Addr) (cx : Nat) (W : World), Ext w W → Vals W ok Ax x.l → x.l.length ≤ cx → Calls Tryz.prog f (#[.agg #[.int .i64 x.kind, .int .i64 x.n, .int .i64 x.d, .string x.s, .slice Ax x.l.length cx]] ++ cb) W fun e W' => e = .returned (.bool (p x)) ∧ Ext W W') :
    Calls Tryz.prog 88 #[.slice A l.length c, .func (.func f) #[] cb] w fun e w' => e = .returned (.int .i64 (idxF p l)) ∧ Ext w w' := by
  have hm := hv.len
  have HV := Lib.hid hv
  have HF := Lib.hid hf
  have HY := Lib.hid (fun h => idxF_none (p := p) (l := l) h)
  have HB := Lib.hid (fun i (hi : i < l.length) h1 h2 => idxF_at (p := p) i hi h1 h2)
  obtain ⟨R, hR⟩ : ∃ R, R = idxF p l := ⟨_, rfl⟩
  rw [← hR] at HY HB ⊢
  clear hv hf hR
  go_enter Tryz.func88, Tryz.ntmps88
  go_wp2_with fail
  go_loopw [8] (fun u W => ∃ k : Nat, u = .int .i64 k ∧ k ≤ l.length ∧ Hid (∀ i (hi : i < l.length), i < k → p l[i] = false) ∧ Ext w W) (fun u _ => l.length - (intOf u).toNat)
  case atStart => exact ⟨0, rfl, Nat.zero_le _, Lib.hid (fun i _ hi => absurd hi (Nat.not_lt_zero _)), Ext.refl _⟩
  case round =>
    obtain ⟨k, rfl, hk, hgd, hE⟩ := hrel
    by_cases hlt : k < l.length
    · obtain ⟨b, o, rfl, hc⟩ := HV.out.2 (by omega)
      obtain ⟨-, A', c', h5, hle, hv'⟩ := VCells.iff.1 (hc k hlt)
      obtain ⟨d0, d1, d2, d3, d4⟩ := h5.ext hE
      clear h5
      have HS := Lib.hid (fun (h : p l[k] = false) i hi (hj : i < k + 1) => (if e : i = k then (by subst e; exact h) else hgd.out i hi (by omega) : p l[i] = false))
      have HB' := Lib.hid (HB.out k hlt hgd.out)
      have C := fun W (e : Ext wr W) => HF.out l[k] (List.getElem_mem hlt) A' c' W (hE.trans e) (hv'.ext (hE.trans e)) hle
      clear hc hv' HB hgd
      generalize l[k] = x at *
      have HC := Lib.hid C
      clear C
      generalize p x = q at *
      cases q
      · have HT := Lib.hid (HS.out rfl)
        go_wp2_with fail
        refine (HC.out wr (Ext.refl _)).mono ?_
        rintro e w' ⟨rfl, hb'⟩
        go_wp2_with fail
        go_roundw
        case rel => exact ⟨k + 1, by go_num, by omega, HT, hE.trans hb'⟩
        case measure => simp [intOf]; omega
      · have HT := Lib.hid (HB'.out rfl)
        go_wp2_with fail
        refine (HC.out wr (Ext.refl _)).mono ?_
        rintro e w' ⟨rfl, hb'⟩
        go_wp2_with fail
        go_ret
        exact ⟨ret_int HT.out.symm, hE.trans hb'⟩
    · have HT := Lib.hid (HY.out (fun i hi => hgd.out i hi (by omega)))
      go_wp2_with fail
      go_ret
      exact ⟨ret_int HT.out.symm, hE⟩
set_option maxRecDepth 100000 in
theorem j_ContainsV (l : List Val) (p : Val → Bool) (ok : Nat → Prop) (A : Option Addr) (c : Nat) (f : Nat) (cb : Array Value) (w : World) (hv : Vals w ok A l) (eg : ∀ args w, (callFunc f args).run Tryz.prog w = .ok (.enter f args) w)
    (hf : ∀ x ∈ l, ∀ (Ax : Option Addr) (cx : Nat) (W : World), Ext w W → Vals W ok Ax x.l → x.l.length ≤ cx → Calls Tryz.prog f (#[.agg #[.int .i64 x.kind, .int .i64 x.n, .int .i64 x.d, .string x.s, .slice Ax x.l.length cx]] ++ cb) W fun e W' => e = .returned (.bool (p x)) ∧ Ext W W') :
    Calls Tryz.prog 70 #[.slice A l.length c, .func (.func f) #[] cb] w fun e w' => e = .returned (.bool (l.any p)) ∧ Ext w w' := by
  have HC := Lib.hid (j_IndexV l p ok A c f cb w hv eg hf)
  have HQ := Lib.hid (idxF_any p l)
  generalize l.any p = q at *
  generalize idxF p l = z at *
  clear hv hf
  go_enter Tryz.func70, Tryz.ntmps70
  go_wp2_with (go_at_call 88; ((with_reducible refine (HC.out).mono ?_); rintro e w' ⟨rfl, hb⟩))
  go_ret
  exact ⟨ret_bool HQ.out, hb⟩
set_option maxRecDepth 100000 in
set_option maxHeartbeats 1600000 in
theorem j_IndexR (l : List (List Val)) (p : (List Val) → Bool) (ok : Nat → Prop) (A : Option Addr) (c : Nat) (f : Nat) (cb : Array Value) (w : World) (hv : Rows w ok A l) (eg : ∀ args w, (callFunc f args).run Tryz.prog w = .ok (.enter f args) w)
    (hf : ∀ x ∈ l, ∀ (Ax : Option Addr) (cx : Nat) (W : World), Ext w W → Vals W ok Ax x → x.length ≤ cx → Calls Tryz.prog f (#[.slice Ax x.length cx] ++ cb) W fun e W' => e = .returned (.bool (p x)) ∧ Ext W W') :
    Calls Tryz.prog 74 #[.slice A l.length c, .func (.func f) #[] cb] w fun e w' => e = .returned (.int .i64 (idxF p l)) ∧ Ext w w' := by
  have hm := hv.len
  have HV := Lib.hid hv
  have HF := Lib.hid hf
  have HY := Lib.hid (fun h => idxF_none (p := p) (l := l) h)
  have HB := Lib.hid (fun i (hi : i < l.length) h1 h2 => idxF_at (p := p) i hi h1 h2)
  obtain ⟨R, hR⟩ : ∃ R, R = idxF p l := ⟨_, rfl⟩
  rw [← hR] at HY HB ⊢
  clear hv hf hR
  go_enter Tryz.func74, Tryz.ntmps74
  go_wp2_with fail
  go_loopw [8] (fun u W => ∃ k : Nat, u = .int .i64 k ∧ k ≤ l.length ∧ Hid (∀ i (hi : i < l.length), i < k → p l[i] = false) ∧ Ext w W) (fun u _ => l.length - (intOf u).toNat)
  case atStart => exact ⟨0, rfl, Nat.zero_le _, Lib.hid (fun i _ hi => absurd hi (Nat.not_lt_zero _)), Ext.refl _⟩
  case round =>
    obtain ⟨k, rfl, hk, hgd, hE⟩ := hrel
    by_cases hlt : k < l.length
    · obtain ⟨b, o, rfl, hc⟩ := HV.out.2 (by omega)
      obtain ⟨-, A', c', h5, hle, hv'⟩ := hc k hlt
      rw [Nat.mul_one] at h5
      have d0 := hE.cell h5
      clear h5
      have HS := Lib.hid (fun (h : p l[k] = false) i hi (hj : i < k + 1) => (if e : i = k then (by subst e; exact h) else hgd.out i hi (by omega) : p l[i] = false))
      have HB' := Lib.hid (HB.out k hlt hgd.out)
      have C := fun W (e : Ext wr W) => HF.out l[k] (List.getElem_mem hlt) A' c' W (hE.trans e) (hv'.ext (hE.trans e)) hle
      clear hc hv' HB hgd
      generalize l[k] = x at *
      have HC := Lib.hid C
      clear C
      generalize p x = q at *
      cases q
      · have HT := Lib.hid (HS.out rfl)
        go_wp2_with fail
        refine (HC.out wr (Ext.refl _)).mono ?_
        rintro e w' ⟨rfl, hb'⟩
        go_wp2_with fail
        go_roundw
        case rel => exact ⟨k + 1, by go_num, by omega, HT, hE.trans hb'⟩
        case measure => simp [intOf]; omega
      · have HT := Lib.hid (HB'.out rfl)
        go_wp2_with fail
        refine (HC.out wr (Ext.refl _)).mono ?_
        rintro e w' ⟨rfl, hb'⟩
        go_wp2_with fail
        go_ret
        exact ⟨ret_int HT.out.symm, hE.trans hb'⟩
    · have HT := Lib.hid (HY.out (fun i hi => hgd.out i hi (by omega)))
      go_wp2_with fail
      go_ret
      exact ⟨ret_int HT.out.symm, hE⟩
set_option maxRecDepth 100000 in
theorem j_ContainsR (l : List (List Val)) (p : (List Val) → Bool) (ok : Nat → Prop) (A : Option Addr) (c : Nat) (f : Nat) (cb : Array Value) (w : World) (hv : Rows w ok A l) (eg : ∀ args w, (callFunc f args).run Tryz.prog w = .ok (.enter f args) w)
    (hf : ∀ x ∈ l, ∀ (Ax : Option Addr) (cx : Nat) (W : World), Ext w W → Vals W ok Ax x → x.length ≤ cx → Calls Tryz.prog f (#[.slice Ax x.length cx] ++ cb) W fun e W' => e = .returned (.bool (p x)) ∧ Ext W W') :
    Calls Tryz.prog 60 #[.slice A l.length c, .func (.func f) #[] cb] w fun e w' => e = .returned (.bool (l.any p)) ∧ Ext w w' := by
  have HC := Lib.hid (j_IndexR l p ok A c f cb w hv eg hf)
  have HQ := Lib.hid (idxF_any p l)
  generalize l.any p = q at *
  generalize idxF p l = z at *
  clear hv hf
  go_enter Tryz.func60, Tryz.ntmps60
  go_wp2_with (go_at_call 74; ((with_reducible refine (HC.out).mono ?_); rintro e w' ⟨rfl, hb⟩))
  go_ret
  exact ⟨ret_bool HQ.out, hb⟩
end Go.Proofs.YtbjddimafilflaaGreatDoor

/- THE WALKS over join.void, the closures of join.sorted, slices.Index at strings, slices.DeleteFunc at rows. -/
namespace Go.Proofs.YtbjddimafilflaaGreatDoor
open Go.RowKit Go.Sort
def voidJ (r : List Val) : Bool := r.any (fun x => decide (x = nullV))
set_option maxRecDepth 100000 in
theorem j_voidV (x : Val) (ok : Nat → Prop) (A : Option Addr) (c : Nat) (w : World) (hz : ZeroAt w) (hv : Vals w ok A x.l) :
    Calls Tryz.prog 71 #[.agg #[.int .i64 x.kind, .int .i64 x.n, .int .i64 x.d, .string x.s, .slice A x.l.length c]] w fun e w' => e = .returned (.bool (decide (x = nullV))) ∧ Ext w w' := by
  obtain ⟨g, w1, hg, hw1, ⟨p0, p1, p2, p3, p4⟩, hx, -⟩ := box_val w x A c 40
  have HW1 := Lib.hid hw1
  have HG := Lib.hid hg
  have HQ := Lib.hid (show (ordV x nullV == 0) = decide (x = nullV) by rw [Bool.eq_iff_iff, beq_iff_eq, decide_eq_true_iff]; exact ordV_zero _ _)
  have HN := Lib.hid (fun W => v_Null W)
  have HC := Lib.hid (fun W (h : Ext w1 W) => v_Order x nullV ok (fun _ => True) A none c 0 W (hz.ext (hx.trans h)) (hv.ext (hx.trans h)) (SliceR.nil _ _ _))
  have MK := Lib.hid (fun V (e : Ext w1 V) => (⟨e.cell p0, e.cell p1, e.cell p2, e.cell p3, e.cell p4, e⟩ : V.cell? ⟨g, 0, none⟩ = some (.int .i64 x.kind) ∧ V.cell? ⟨g, 1, none⟩ = some (.int .i64 x.n) ∧ V.cell? ⟨g, 2, none⟩ = some (.int .i64 x.d) ∧ V.cell? ⟨g, 3, none⟩ = some (.string x.s) ∧ V.cell? ⟨g, 4, none⟩ = some (.slice A x.l.length c) ∧ Ext w1 V))
  generalize decide (x = nullV) = R at *
  change Hid (∀ W, Ext w1 W → Calls _ _ #[.agg #[.int .i64 x.kind, .int .i64 x.n, .int .i64 x.d, .string x.s, .slice A x.l.length c], .agg #[.int .i64 0, .int .i64 0, .int .i64 0, .string ByteArray.empty, .slice none 0 0]] W _) at HC
  generalize ordV x nullV = z at *
  clear hw1 hg p0 p1 p2 p3 p4 hv hz
  go_enter Tryz.func71, Tryz.ntmps71
  go_upto_region 1 with (fail)
  rw [← HW1.out, ← HG.out]
  clear HW1 HG
  go_region_held3 (fun V => V.cell? ⟨g, 0, none⟩ = some (.int .i64 x.kind) ∧ V.cell? ⟨g, 1, none⟩ = some (.int .i64 x.n) ∧ V.cell? ⟨g, 2, none⟩ = some (.int .i64 x.d) ∧ V.cell? ⟨g, 3, none⟩ = some (.string x.s) ∧ V.cell? ⟨g, 4, none⟩ = some (.slice A x.l.length c) ∧ Ext w1 V) ((exact MK.out _ (by repeat (first | with_reducible exact Ext.refl _ | with_reducible assumption | with_reducible refine Ext.drew ?_ | with_reducible refine Ext.drewN ?_ _ | with_reducible refine Ext.alloc ?_ _)))) ((first | (with_reducible refine (HN.out _).mono ?_; rintro e w' ⟨rfl, hb⟩; replace hb : Ext w1 w' := Ext.trans (by repeat (first | with_reducible exact Ext.refl _ | with_reducible assumption | with_reducible refine Ext.drew ?_ | with_reducible refine Ext.drewN ?_ _ | with_reducible refine Ext.alloc ?_ _)) hb) | (with_reducible refine (HC.out _ (by repeat (first | with_reducible exact Ext.refl _ | with_reducible assumption | with_reducible refine Ext.drew ?_ | with_reducible refine Ext.drewN ?_ _ | with_reducible refine Ext.alloc ?_ _))).mono ?_; rintro e w'' ⟨rfl, hb2⟩; replace hb2 : Ext w1 w'' := Ext.trans (by repeat (first | with_reducible exact Ext.refl _ | with_reducible assumption | with_reducible refine Ext.drew ?_ | with_reducible refine Ext.drewN ?_ _ | with_reducible refine Ext.alloc ?_ _)) hb2)))
  clear HN HC MK
  go_wp2_with fail
  go_ret
  exact ⟨ret_bool HQ.out, hx.trans (by first | exact hb2 | assumption)⟩
theorem eg_voidV (args : Array Value) (w : World) : (callFunc 71 args).run Tryz.prog w = .ok (.enter 71 args) w :=
  run_enter (c := Tryz.f71.body.get!) Tryz.func71 (by kernel_rfl) (by kernel_rfl) args w
set_option maxRecDepth 100000 in
theorem j_void (r : List Val) (ok : Nat → Prop) (A : Option Addr) (c : Nat) (w : World) (hz : ZeroAt w) (hv : Vals w ok A r) :
    Calls Tryz.prog 59 #[.slice A r.length c] w fun e w' => e = .returned (.bool (voidJ r)) ∧ Ext w w' := by
  have HC := Lib.hid (j_ContainsV r (fun x => decide (x = nullV)) ok A c 71 #[] w hv eg_voidV (fun x _ Ax cx W hE hVx _ => j_voidV x ok Ax cx W (hz.ext hE) hVx))
  clear hz hv
  change Hid (Calls _ _ _ _ (fun e w' => e = .returned (.bool (voidJ r)) ∧ Ext w w')) at HC
  generalize voidJ r = q at *
  go_enter Tryz.func59, Tryz.ntmps59
  go_wp2_with (go_at_call 70; ((with_reducible refine (HC.out).mono ?_); rintro e w' ⟨rfl, hb⟩))
  go_ret
  exact ⟨rfl, hb⟩
set_option maxRecDepth 100000 in
theorem j_sorted1 (r : List Val) (at_ : List Nat) (ok ok' : Nat → Prop) (A B : Option Addr) (c d q : Nat) (w : World) (hz : ZeroAt w) (hq : w.cell? ⟨q, 0, none⟩ = some (.slice B at_.length d)) (hv : Vals w ok A r) (hn : Nums w ok' B (ints at_)) (hat : ∀ i ∈ at_, i < r.length) (hl : at_.length ≤ 8000000) :
    Calls Tryz.prog 80 #[.slice A r.length c, .pointer (some ⟨q, 0, none⟩)] w fun e w' => e = .returned (.bool (voidJ (partJ r at_))) ∧ Ext w w' := by
  have H1 := Lib.hid (j_part r at_ ok ok' A B c d w hv hn hat hl)
  have H2 := Lib.hid (fun (ok : Nat → Prop) A c W (h : ZeroAt W) => j_void (partJ r at_) ok A c W h)
  have HZ := Lib.hid hz
  clear hv hn hat hz
  generalize voidJ (partJ r at_) = R at *
  generalize partJ r at_ = y at *
  go_enter Tryz.func80, Tryz.ntmps80
  go_wp2_with (first | (go_at_call 55; ((with_reducible refine (H1.out).mono ?_); rintro e w1 ⟨A1, c1, rfl, -, hV1, hx1⟩)) | (go_at_call 59; ((with_reducible refine (H2.out _ A1 c1 w1 (HZ.out.ext hx1) hV1).mono ?_); rintro e w2 ⟨rfl, hx2⟩)))
  go_ret
  exact ⟨rfl, hx1.trans hx2⟩
set_option maxRecDepth 100000 in
theorem j_sorted2 (r s : List Val) (at_ : List Nat) (ok okr ok' : Nat → Prop) (A A' B : Option Addr) (c c' d q : Nat) (w : World) (hz : ZeroAt w) (hq : w.cell? ⟨q, 0, none⟩ = some (.slice B at_.length d)) (hv : Vals w ok A r) (hv' : Vals w okr A' s) (hn : Nums w ok' B (ints at_)) (hat : ∀ i ∈ at_, i < r.length) (hat' : ∀ i ∈ at_, i < s.length) (hl : at_.length ≤ 8000000) :
    Calls Tryz.prog 81 #[.slice A r.length c, .slice A' s.length c', .pointer (some ⟨q, 0, none⟩)] w fun e w' => e = .returned (.int .i64 (ordL (partJ r at_) (partJ s at_))) ∧ Ext w w' := by
  have H1 := Lib.hid (fun W (h : Ext w W) => j_part r at_ ok ok' A B c d W (hv.ext h) (hn.ext h) hat hl)
  have H2 := Lib.hid (fun W (h : Ext w W) => j_part s at_ okr ok' A' B c' d W (hv'.ext h) (hn.ext h) hat' hl)
  have H3 := Lib.hid (fun A1 c1 A2 c2 W (h : Ext w W) h1 h2 => v_OrderRows (partJ r at_) (partJ s at_) (fun _ => True) (fun _ => True) A1 A2 c1 c2 W (hz.ext h) h1 h2)
  have MK := Lib.hid (fun V (e : Ext w V) => (⟨e.cell hq, e⟩ : V.cell? ⟨q, 0, none⟩ = some (.slice B at_.length d) ∧ Ext w V))
  clear hv hv' hn hat hat' hz
  generalize ordL (partJ r at_) (partJ s at_) = R at *
  generalize partJ r at_ = y at *
  generalize partJ s at_ = z at *
  go_enter Tryz.func81, Tryz.ntmps81
  go_upto_region 1 with (fail)
  go_region_held3 (fun V => V.cell? ⟨q, 0, none⟩ = some (.slice B at_.length d) ∧ Ext w V) ((exact MK.out _ (by repeat (first | with_reducible exact Ext.refl _ | with_reducible assumption | with_reducible refine Ext.drew ?_ | with_reducible refine Ext.drewN ?_ _ | with_reducible refine Ext.alloc ?_ _)))) ((first | (with_reducible refine (H1.out _ (by repeat (first | with_reducible exact Ext.refl _ | with_reducible assumption | with_reducible refine Ext.drew ?_ | with_reducible refine Ext.drewN ?_ _ | with_reducible refine Ext.alloc ?_ _))).mono ?_; rintro e w1 ⟨A1, c1, rfl, -, hV1, hx1⟩; replace hx1 : Ext w w1 := Ext.trans (by repeat (first | with_reducible exact Ext.refl _ | with_reducible assumption | with_reducible refine Ext.drew ?_ | with_reducible refine Ext.drewN ?_ _ | with_reducible refine Ext.alloc ?_ _)) hx1) | (with_reducible refine (H2.out _ (by repeat (first | with_reducible exact Ext.refl _ | with_reducible assumption | with_reducible refine Ext.drew ?_ | with_reducible refine Ext.drewN ?_ _ | with_reducible refine Ext.alloc ?_ _))).mono ?_; rintro e w2 ⟨A2, c2, rfl, -, hV2, hx2⟩; have hx2' := hx2; replace hx2 : Ext w w2 := Ext.trans (by repeat (first | with_reducible exact Ext.refl _ | with_reducible assumption | with_reducible refine Ext.drew ?_ | with_reducible refine Ext.drewN ?_ _ | with_reducible refine Ext.alloc ?_ _)) hx2) | (with_reducible refine (H3.out A1 c1 A2 c2 _ (by repeat (first | with_reducible exact Ext.refl _ | with_reducible assumption | with_reducible refine Ext.drew ?_ | with_reducible refine Ext.drewN ?_ _ | with_reducible refine Ext.alloc ?_ _)) (hV1.ext (by repeat (first | with_reducible exact Ext.refl _ | with_reducible assumption | with_reducible refine Ext.drew ?_ | with_reducible refine Ext.drewN ?_ _ | with_reducible refine Ext.alloc ?_ _))) (hV2.ext (by repeat (first | with_reducible exact Ext.refl _ | with_reducible assumption | with_reducible refine Ext.drew ?_ | with_reducible refine Ext.drewN ?_ _ | with_reducible refine Ext.alloc ?_ _)))).mono ?_; rintro e w3 ⟨rfl, hx3⟩; replace hx3 : Ext w w3 := Ext.trans (by repeat (first | with_reducible exact Ext.refl _ | with_reducible assumption | with_reducible refine Ext.drew ?_ | with_reducible refine Ext.drewN ?_ _ | with_reducible refine Ext.alloc ?_ _)) hx3)))
  go_wp2_with fail
  go_ret
  exact ⟨rfl, hx3⟩
theorem str_eq {a b : ByteArray} (h : a = b) : (a.toList == b.toList) = true := by rw [h]; simp
theorem str_ne {a b : ByteArray} (h : a ≠ b) : (a.toList == b.toList) = false := by
  rw [beq_eq_false_iff_ne]
  intro e
  exact h (bytes_eq e)
set_option maxRecDepth 100000 in
theorem j_IndexS (l : List ByteArray) (s : ByteArray) (ok : Nat → Prop) (A : Option Addr) (c : Nat) (w : World) (hv : Strs w ok A l) :
    Calls Tryz.prog 50 #[.slice A l.length c, .string s] w fun e w' => e = .returned (.int .i64 (idxF (fun t => decide (s = t)) l)) ∧ Ext w w' := by
  have hm := hv.len
  have HV := Lib.hid hv
  have HY := Lib.hid (fun h => idxF_none (p := fun t => decide (s = t)) (l := l) h)
  have HB := Lib.hid (fun i (hi : i < l.length) h1 h2 => idxF_at (p := fun t => decide (s = t)) i hi h1 h2)
  obtain ⟨R, hR⟩ : ∃ R, R = idxF (fun t => decide (s = t)) l := ⟨_, rfl⟩
  rw [← hR] at HY HB ⊢
  clear hv hR
  go_enter Tryz.func50, Tryz.ntmps50
  go_wp2_with fail
  go_loopw [8] (fun u W => ∃ k : Nat, u = .int .i64 k ∧ k ≤ l.length ∧ Hid (∀ i (hi : i < l.length), i < k → decide (s = l[i]) = false) ∧ Ext w W) (fun u _ => l.length - (intOf u).toNat)
  case atStart => exact ⟨0, rfl, Nat.zero_le _, Lib.hid (fun i _ hi => absurd hi (Nat.not_lt_zero _)), Ext.refl _⟩
  case round =>
    obtain ⟨k, rfl, hk, hgd, hE⟩ := hrel
    by_cases hlt : k < l.length
    · obtain ⟨b, o, rfl, hc⟩ := HV.out.2 (by omega)
      have h5 := (hc k hlt).2
      rw [Nat.mul_one] at h5
      have d0 := hE.cell h5
      have HS := Lib.hid (fun (h : decide (s = l[k]) = false) i hi (hj : i < k + 1) => (if e : i = k then (by subst e; exact h) else hgd.out i hi (by omega) : decide (s = l[i]) = false))
      have HB' := Lib.hid (HB.out k hlt hgd.out)
      clear hc h5 HB hgd
      generalize l[k] = x at *
      by_cases hq : s = x
      · have HT := Lib.hid (HB'.out (decide_eq_true hq))
        have hq2 := str_eq hq
        clear hq
        go_wp2_with fail
        go_ret
        exact ⟨ret_int HT.out.symm, hE⟩
      · have HT := Lib.hid (HS.out (decide_eq_false hq))
        have hq2 := str_ne hq
        clear hq
        go_wp2_with fail
        go_roundw
        case rel => exact ⟨k + 1, by go_num, by omega, HT, hE⟩
        case measure => simp [intOf]; omega
    · have HT := Lib.hid (HY.out (fun i hi => hgd.out i hi (by omega)))
      go_wp2_with fail
      go_ret
      exact ⟨ret_int HT.out.symm, hE⟩
end Go.Proofs.YtbjddimafilflaaGreatDoor

/- THE PLAIN LAW OF JOINS: tables, common columns, natural rows. -/
namespace Go.Proofs.YtbjddimafilflaaGreatDoor
open Go.RowKit Go.Sort
structure Tab where
  cols : List ByteArray
  rows : List (List Val)
def posJ (l : List ByteArray) (c : ByteArray) : Option Nat := l.findIdx? (fun t => decide (c = t))
theorem idxF_pos (l : List ByteArray) (c : ByteArray) : idxF (fun t => decide (c = t)) l = match posJ l c with | some i => (i : Int) | none => -1 := rfl
theorem posJ_some {l : List ByteArray} {c : ByteArray} {i : Nat} (h : posJ l c = some i) : i < l.length ∧ l[i]! = c := by
  obtain ⟨hi, h2, -⟩ := List.findIdx?_eq_some_iff_getElem.1 h
  exact ⟨hi, by rw [getElem!_pos l i hi]; exact (of_decide_eq_true h2).symm⟩
theorem posJ_none {l : List ByteArray} {c : ByteArray} : posJ l c = none ↔ c ∉ l := by
  unfold posJ
  rw [List.findIdx?_eq_none_iff]
  constructor
  · intro h hc; have := h c hc; simp at this
  · intro h x hx; exact decide_eq_false (fun e => h (e ▸ hx))
theorem posJ_iff {l : List ByteArray} (hl : l.Nodup) {c : ByteArray} {i : Nat} : posJ l c = some i ↔ i < l.length ∧ l[i]! = c := by
  refine ⟨posJ_some, fun ⟨hi, h2⟩ => ?_⟩
  cases h : posJ l c with
  | none => exact absurd (by rw [← h2, getElem!_pos l i hi]; exact List.getElem_mem hi) (posJ_none.1 h)
  | some j =>
    obtain ⟨hj, h3⟩ := posJ_some h
    rw [getElem!_pos l i hi] at h2
    rw [getElem!_pos l j hj] at h3
    exact congrArg some ((List.getElem_inj hl).1 (h3.trans h2.symm))
def leftK (a b : List ByteArray) (k : Nat) : List Nat := (List.range k).filterMap (fun i => posJ a b[i]!)
def rightK (a b : List ByteArray) (k : Nat) : List Nat := (List.range k).filter (fun i => (posJ a b[i]!).isSome)
def othersK (a b : List ByteArray) (k : Nat) : List Nat := (List.range k).filter (fun i => (posJ a b[i]!).isNone)
section
variable {a b : List ByteArray} {k i : Nat}
theorem leftK_some (h : posJ a b[k]! = some i) : leftK a b (k + 1) = leftK a b k ++ [i] := by
  unfold leftK; rw [List.range_succ, List.filterMap_append]; simp only [List.filterMap_cons, h, List.filterMap_nil]
theorem leftK_none (h : posJ a b[k]! = none) : leftK a b (k + 1) = leftK a b k := by
  unfold leftK; rw [List.range_succ, List.filterMap_append]; simp only [List.filterMap_cons, h, List.filterMap_nil, List.append_nil]
theorem rightK_some (h : posJ a b[k]! = some i) : rightK a b (k + 1) = rightK a b k ++ [k] := by
  unfold rightK; rw [List.range_succ, List.filter_append]; simp only [List.filter_cons, h, List.filter_nil, Option.isSome_some, if_true]
theorem rightK_none (h : posJ a b[k]! = none) : rightK a b (k + 1) = rightK a b k := by
  unfold rightK; rw [List.range_succ, List.filter_append]; simp only [List.filter_cons, h, List.filter_nil, Option.isSome_none, Bool.false_eq_true, if_false, List.append_nil]
theorem othersK_some (h : posJ a b[k]! = some i) : othersK a b (k + 1) = othersK a b k := by
  unfold othersK; rw [List.range_succ, List.filter_append]; simp only [List.filter_cons, h, List.filter_nil, Option.isNone_some, Bool.false_eq_true, if_false, List.append_nil]
theorem othersK_none (h : posJ a b[k]! = none) : othersK a b (k + 1) = othersK a b k ++ [k] := by
  unfold othersK; rw [List.range_succ, List.filter_append]; simp only [List.filter_cons, h, List.filter_nil, Option.isNone_none, if_true]
theorem leftK_lt (h : i ∈ leftK a b k) : i < a.length := by
  obtain ⟨j, -, h2⟩ := List.mem_filterMap.1 h
  exact (posJ_some h2).1
theorem rightK_lt (h : i ∈ rightK a b k) : i < k := List.mem_range.1 (List.mem_filter.1 h).1
theorem othersK_lt (h : i ∈ othersK a b k) : i < k := List.mem_range.1 (List.mem_filter.1 h).1
theorem leftK_len : (leftK a b k).length ≤ k := by
  unfold leftK; exact Nat.le_trans (List.length_filterMap_le _ _) (by simp)
theorem rightK_len : (rightK a b k).length ≤ k := by
  unfold rightK; exact Nat.le_trans (List.length_filter_le _ _) (by simp)
theorem othersK_len : (othersK a b k).length ≤ k := by
  unfold othersK; exact Nat.le_trans (List.length_filter_le _ _) (by simp)
theorem left_right_len (a b : List ByteArray) : ∀ k, (leftK a b k).length = (rightK a b k).length
  | 0 => rfl
  | k + 1 => by
    cases h : posJ a b[k]! with
    | none => rw [leftK_none h, rightK_none h]; exact left_right_len a b k
    | some i => rw [leftK_some h, rightK_some h, List.length_append, List.length_append, left_right_len a b k]; rfl
end
/-- two rows agree on the common columns -/
def agreeJ (a b : List ByteArray) (x y : List Val) : Bool := (List.range a.length).all fun i => match posJ b a[i]! with | none => true | some k => !(decide (x[i]! = nullV)) && decide (x[i]! = y[k]!)
theorem agreeJ_iff {a b : List ByteArray} {x y : List Val} : agreeJ a b x y = true ↔ ∀ i, i < a.length → ∀ k, posJ b a[i]! = some k → x[i]! ≠ nullV ∧ x[i]! = y[k]! := by
  unfold agreeJ
  rw [List.all_eq_true]
  constructor
  · intro h i hi k hk
    have := h i (List.mem_range.2 hi)
    rw [hk] at this
    simpa using this
  · intro h i hi
    have h1 := h i (List.mem_range.1 hi)
    cases hk : posJ b a[i]! with
    | none => rfl
    | some k => simpa using h1 k hk
theorem part_eq (a b : List ByteArray) (x y : List Val) : ∀ k, partJ x (leftK a b k) = partJ y (rightK a b k) ↔ ∀ j, j < k → ∀ i, posJ a b[j]! = some i → x[i]! = y[j]!
  | 0 => ⟨fun _ j hj => absurd hj (Nat.not_lt_zero _), fun _ => rfl⟩
  | k + 1 => by
    have ih := part_eq a b x y k
    cases h : posJ a b[k]! with
    | none =>
      rw [leftK_none h, rightK_none h, ih]
      refine ⟨fun h1 j hj i hi => ?_, fun h1 j hj => h1 j (by omega)⟩
      rcases Nat.lt_or_ge j k with h2 | h2
      · exact h1 j h2 i hi
      · rw [show j = k by omega, h] at hi; cases hi
    | some i =>
      rw [leftK_some h, rightK_some h]
      unfold partJ at ih ⊢
      rw [List.map_append, List.map_append]
      constructor
      · intro h1
        obtain ⟨h2, h3⟩ := List.append_inj h1 (by rw [List.length_map, List.length_map, left_right_len])
        intro j hj i' hi
        rcases Nat.lt_or_ge j k with h4 | h4
        · exact ih.1 h2 j h4 i' hi
        · have : j = k := by omega
          subst this
          rw [h] at hi
          cases hi
          simpa using h3
      · intro h1
        rw [ih.2 (fun j hj => h1 j (by omega))]
        congr 1
        simpa using h1 k (by omega) i h
theorem void_iff {x : List Val} {at_ : List Nat} : voidJ (partJ x at_) = false ↔ ∀ i ∈ at_, x[i]! ≠ nullV := by
  unfold voidJ partJ
  rw [List.any_eq_false]
  simp
theorem agree_key {a b : List ByteArray} (ha : a.Nodup) (hb : b.Nodup) (x y : List Val) :
    agreeJ a b x y = (!voidJ (partJ x (leftK a b b.length)) && decide (partJ x (leftK a b b.length) = partJ y (rightK a b b.length))) := by
  rw [Bool.eq_iff_iff, agreeJ_iff, Bool.and_eq_true, Bool.not_eq_true', decide_eq_true_iff, void_iff, part_eq]
  constructor
  · intro h
    refine ⟨fun i hi => ?_, fun j hj i hi => ?_⟩
    · obtain ⟨j, hj, h2⟩ := List.mem_filterMap.1 hi
      obtain ⟨h3, h4⟩ := posJ_some h2
      exact (h i h3 j ((posJ_iff hb).2 ⟨List.mem_range.1 hj, h4.symm⟩)).1
    · obtain ⟨h3, h4⟩ := posJ_some hi
      exact (h i h3 j ((posJ_iff hb).2 ⟨hj, h4.symm⟩)).2
  · rintro ⟨h1, h2⟩ i hi k hk
    obtain ⟨h3, h4⟩ := posJ_some hk
    have h5 : posJ a b[k]! = some i := (posJ_iff ha).2 ⟨hi, h4.symm⟩
    exact ⟨h1 i (List.mem_filterMap.2 ⟨k, List.mem_range.2 h3, h5⟩), h2 k h3 i h5⟩
/-- the rows of the natural join, as the reference lists them -/
def restJ (a b : List ByteArray) (y : List Val) : List Val := partJ y (othersK a b b.length)
def natR (a b : Tab) : List (List Val) := a.rows.flatMap fun x => (b.rows.filter (agreeJ a.cols b.cols x)).map fun y => x ++ restJ a.cols b.cols y
def colsJ (a b : List ByteArray) : List ByteArray := a ++ (othersK a b b.length).map (b[·]!)
/-- and as two sorted lists give them -/
def natP (K K' R : List Val → List Val) (x y : List (List Val)) : List (List Val) := x.flatMap fun r => (y.filter (fun s => decide (K r = K' s))).map (fun s => r ++ R s)
theorem flat_perm {α β : Type} (l : List α) {f g : α → List β} (h : ∀ a ∈ l, (f a).Perm (g a)) : (l.flatMap f).Perm (l.flatMap g) := by
  induction l with
  | nil => exact List.Perm.refl _
  | cons a l ih =>
    rw [List.flatMap_cons, List.flatMap_cons]
    exact (h a (by simp)).append (ih (fun b hb => h b (by simp [hb])))
theorem flat_congr {α β : Type} (l : List α) {f g : α → List β} (h : ∀ a ∈ l, f a = g a) : l.flatMap f = l.flatMap g := by
  induction l with
  | nil => rfl
  | cons a l ih => rw [List.flatMap_cons, List.flatMap_cons, h a (by simp), ih (fun b hb => h b (by simp [hb]))]
theorem natP_congr {K K' R : List Val → List Val} {x y x' y' : List (List Val)} (hx : x.Perm x') (hy : y.Perm y') : (natP K K' R x y).Perm (natP K K' R x' y') :=
  (hx.flatMap_right _).trans (flat_perm _ fun _ _ => (hy.filter _).map _)
theorem flat_filter {α β : Type} (p : α → Bool) (f g : α → List β) (h1 : ∀ x, p x = true → f x = g x) (h2 : ∀ x, p x = false → g x = []) : ∀ l : List α, (l.filter p).flatMap f = l.flatMap g
  | [] => rfl
  | x :: l => by
    rw [List.flatMap_cons]
    cases h : p x with
    | true => rw [List.filter_cons_of_pos h, List.flatMap_cons, h1 x h, flat_filter p f g h1 h2 l]
    | false => rw [List.filter_cons_of_neg (by rw [h]; exact Bool.false_ne_true), h2 x h, List.nil_append]; exact flat_filter p f g h1 h2 l
theorem natP_natR {a b : Tab} (ha : a.cols.Nodup) (hb : b.cols.Nodup) {x y : List (List Val)}
    (hx : x.Perm (a.rows.filter (fun r => !voidJ (partJ r (leftK a.cols b.cols b.cols.length)))))
    (hy : y.Perm (b.rows.filter (fun r => !voidJ (partJ r (rightK a.cols b.cols b.cols.length))))) :
    (natP (fun r => partJ r (leftK a.cols b.cols b.cols.length)) (fun r => partJ r (rightK a.cols b.cols b.cols.length)) (restJ a.cols b.cols) x y).Perm (natR a b) := by
  refine (natP_congr hx hy).trans (List.Perm.of_eq ?_)
  unfold natP natR
  refine flat_filter _ _ _ (fun r hr => ?_) (fun r hr => ?_) _
  · rw [List.filter_filter]
    congr 1
    refine List.filter_congr (fun s _ => ?_)
    rw [agree_key ha hb, hr, Bool.true_and]
    cases h : decide (partJ r (leftK a.cols b.cols b.cols.length) = partJ s (rightK a.cols b.cols b.cols.length)) with
    | false => rfl
    | true => rw [← of_decide_eq_true h, hr]; rfl
  · rw [List.filter_eq_nil_iff.2, List.map_nil]
    intro s _
    rw [agree_key ha hb, hr]
    simp
/-- the steps of the merge -/
theorem natP_lt {K K' R : List Val → List Val} {r : List Val} {x y : List (List Val)} (h : ∀ s ∈ y, K r ≠ K' s) : natP K K' R (r :: x) y = natP K K' R x y := by
  unfold natP
  rw [List.flatMap_cons, List.filter_eq_nil_iff.2 (fun s hs => by simp [h s hs])]
  rfl
theorem natP_gt {K K' R : List Val → List Val} {s : List Val} {x y : List (List Val)} (h : ∀ r ∈ x, K r ≠ K' s) : natP K K' R x (s :: y) = natP K K' R x y := by
  unfold natP
  induction x with
  | nil => rfl
  | cons r x ih =>
    rw [List.flatMap_cons, List.flatMap_cons, ih (fun r hr => h r (by simp [hr])), List.filter_cons_of_neg (by simp [h r (by simp)])]
theorem natP_eq {K K' R : List Val → List Val} {k : List Val} {x1 x2 y1 y2 : List (List Val)} (h1 : ∀ r ∈ x1, K r = k) (h2 : ∀ r ∈ x2, K r ≠ k) (h3 : ∀ s ∈ y1, K' s = k) (h4 : ∀ s ∈ y2, K' s ≠ k) :
    natP K K' R (x1 ++ x2) (y1 ++ y2) = (x1.flatMap fun r => y1.map fun s => r ++ R s) ++ natP K K' R x2 y2 := by
  unfold natP
  rw [List.flatMap_append]
  congr 1
  · refine flat_congr _ (fun r hr => ?_)
    rw [List.filter_append, List.filter_eq_self.2 (fun s hs => by simp [h1 r hr, h3 s hs]), List.filter_eq_nil_iff.2 (fun s hs => by simpa [h1 r hr] using fun e => h4 s hs e.symm), List.append_nil]
  · refine flat_congr _ (fun r hr => ?_)
    rw [List.filter_append, List.filter_eq_nil_iff.2 (fun s hs => by simpa [h3 s hs] using h2 r hr), List.nil_append]
theorem sortO_of_perm {l m : List (List Val)} (h : l.Perm m) : sortO ordL l = sortO ordL m :=
  sortO_eq TotC.row ((sortO_perm TotC.row l).trans h) (sortO_rise TotC.row l)
end Go.Proofs.YtbjddimafilflaaGreatDoor
