/- PARTS OF THE WALKS, joined: Jb, PlainJ, Jd, Jc. -/
import Derived.Test.YtbjddimafilflaaGreatDoorV12
import Derived.Lib.AppendZerosOnto
/- THE WALKS over join.void, the closures of join.sorted, slices.Index at strings, slices.DeleteFunc at rows. -/
namespace Go.Proofs.YtbjddimafilflaaGreatDoor
open Go.RowKit Go.Sort
def voidJ (r : List Val) : Bool := r.any (fun x => decide (x = nullV))
set_option maxRecDepth 100000 in
theorem j_voidV (x : Val) (ok : Nat → Prop) (A : Option Addr) (c : Nat) (w : World) (hz : ZeroAt w) (hv : Vals w ok A x.l) :
    Calls Tryz.prog 71 #[.agg #[.int .i64 x.kind, .int .i64 x.n, .int .i64 x.d, .string x.s, .slice A x.l.length c]] w fun e w' => e = .returned (.bool (decide (x = nullV))) ∧ Ext w w' := by
  obtain ⟨g, w1, hg, hw1, ⟨p0, p1, p2, p3, p4⟩, hx, -⟩ := box_val w x A c 40
  have HW1 := Lib.hid hw1
  have HG := Lib.hid hg
  have HQ := Lib.hid (show (ordV x nullV == 0) = decide (x = nullV) by rw [Bool.eq_iff_iff, beq_iff_eq, decide_eq_true_iff]; exact ordV_zero _ _)
  have HN := Lib.hid (fun W => v_Null W)
  have HC := Lib.hid (fun W (h : Ext w1 W) => v_Order x nullV ok (fun _ => True) A none c 0 W (hz.ext (hx.trans h)) (hv.ext (hx.trans h)) (SliceR.nil _ _ _))
  have MK := Lib.hid (fun V (e : Ext w1 V) => (⟨e.cell p0, e.cell p1, e.cell p2, e.cell p3, e.cell p4, e⟩ : V.cell? ⟨g, 0, none⟩ = some (.int .i64 x.kind) ∧ V.cell? ⟨g, 1, none⟩ = some (.int .i64 x.n) ∧ V.cell? ⟨g, 2, none⟩ = some (.int .i64 x.d) ∧ V.cell? ⟨g, 3, none⟩ = some (.string x.s) ∧ V.cell? ⟨g, 4, none⟩ = some (.slice A x.l.length c) ∧ Ext w1 V))
  generalize decide (x = nullV) = R at *
  change Hid (∀ W, Ext w1 W → Calls _ _ #[.agg #[.int .i64 x.kind, .int .i64 x.n, .int .i64 x.d, .string x.s, .slice A x.l.length c], .agg #[.int .i64 0, .int .i64 0, .int .i64 0, .string ByteArray.empty, .slice none 0 0]] W _) at HC
  generalize ordV x nullV = z at *
  clear hw1 hg p0 p1 p2 p3 p4 hv hz
  go_enter Tryz.func71, Tryz.ntmps71
  go_upto_region 1 with (fail)
  rw [← HW1.out, ← HG.out]
  clear HW1 HG
  go_region_held3 (fun V => V.cell? ⟨g, 0, none⟩ = some (.int .i64 x.kind) ∧ V.cell? ⟨g, 1, none⟩ = some (.int .i64 x.n) ∧ V.cell? ⟨g, 2, none⟩ = some (.int .i64 x.d) ∧ V.cell? ⟨g, 3, none⟩ = some (.string x.s) ∧ V.cell? ⟨g, 4, none⟩ = some (.slice A x.l.length c) ∧ Ext w1 V) ((exact MK.out _ (by repeat (first | with_reducible exact Ext.refl _ | with_reducible assumption | with_reducible refine Ext.drew ?_ | with_reducible refine Ext.drewN ?_ _ | with_reducible refine Ext.alloc ?_ _)))) ((first | (with_reducible refine (HN.out _).mono ?_; rintro e w' ⟨rfl, hb⟩; replace hb : Ext w1 w' := Ext.trans (by repeat (first | with_reducible exact Ext.refl _ | with_reducible assumption | with_reducible refine Ext.drew ?_ | with_reducible refine Ext.drewN ?_ _ | with_reducible refine Ext.alloc ?_ _)) hb) | (with_reducible refine (HC.out _ (by repeat (first | with_reducible exact Ext.refl _ | with_reducible assumption | with_reducible refine Ext.drew ?_ | with_reducible refine Ext.drewN ?_ _ | with_reducible refine Ext.alloc ?_ _))).mono ?_; rintro e w'' ⟨rfl, hb2⟩; replace hb2 : Ext w1 w'' := Ext.trans (by repeat (first | with_reducible exact Ext.refl _ | with_reducible assumption | with_reducible refine Ext.drew ?_ | with_reducible refine Ext.drewN ?_ _ | with_reducible refine Ext.alloc ?_ _)) hb2)))
  clear HN HC MK
  go_wp2_with fail
  go_ret
  exact ⟨ret_bool HQ.out, hx.trans (by first | exact hb2 | assumption)⟩
theorem eg_voidV (args : Array Value) (w : World) : (callFunc 71 args).run Tryz.prog w = .ok (.enter 71 args) w :=
  run_enter (c := Tryz.f71.body.get!) Tryz.func71 (by kernel_rfl) (by kernel_rfl) args w
set_option maxRecDepth 100000 in
theorem j_void (r : List Val) (ok : Nat → Prop) (A : Option Addr) (c : Nat) (w : World) (hz : ZeroAt w) (hv : Vals w ok A r) :
    Calls Tryz.prog 59 #[.slice A r.length c] w fun e w' => e = .returned (.bool (voidJ r)) ∧ Ext w w' := by
  have HC := Lib.hid (j_ContainsV r (fun x => decide (x = nullV)) ok A c 71 #[] w hv eg_voidV (fun x _ Ax cx W hE hVx _ => j_voidV x ok Ax cx W (hz.ext hE) hVx))
  clear hz hv
  change Hid (Calls _ _ _ _ (fun e w' => e = .returned (.bool (voidJ r)) ∧ Ext w w')) at HC
  generalize voidJ r = q at *
  go_enter Tryz.func59, Tryz.ntmps59
  go_wp2_with (go_at_call 70; ((with_reducible refine (HC.out).mono ?_); rintro e w' ⟨rfl, hb⟩))
  go_ret
  exact ⟨rfl, hb⟩
set_option maxRecDepth 100000 in
theorem j_sorted1 (r : List Val) (at_ : List Nat) (ok ok' : Nat → Prop) (A B : Option Addr) (c d q : Nat) (w : World) (hz : ZeroAt w) (hq : w.cell? ⟨q, 0, none⟩ = some (.slice B at_.length d)) (hv : Vals w ok A r) (hn : Nums w ok' B (ints at_)) (hat : ∀ i ∈ at_, i < r.length) (hl : at_.length ≤ 8000000) :
    Calls Tryz.prog 80 #[.slice A r.length c, .pointer (some ⟨q, 0, none⟩)] w fun e w' => e = .returned (.bool (voidJ (partJ r at_))) ∧ Ext w w' := by
  have H1 := Lib.hid (j_part r at_ ok ok' A B c d w hv hn hat hl)
  have H2 := Lib.hid (fun (ok : Nat → Prop) A c W (h : ZeroAt W) => j_void (partJ r at_) ok A c W h)
  have HZ := Lib.hid hz
  clear hv hn hat hz
  generalize voidJ (partJ r at_) = R at *
  generalize partJ r at_ = y at *
  go_enter Tryz.func80, Tryz.ntmps80
  go_wp2_with (first | (go_at_call 55; ((with_reducible refine (H1.out).mono ?_); rintro e w1 ⟨A1, c1, rfl, -, hV1, hx1⟩)) | (go_at_call 59; ((with_reducible refine (H2.out _ A1 c1 w1 (HZ.out.ext hx1) hV1).mono ?_); rintro e w2 ⟨rfl, hx2⟩)))
  go_ret
  exact ⟨rfl, hx1.trans hx2⟩
set_option maxRecDepth 100000 in
theorem j_sorted2 (r s : List Val) (at_ : List Nat) (ok okr ok' : Nat → Prop) (A A' B : Option Addr) (c c' d q : Nat) (w : World) (hz : ZeroAt w) (hq : w.cell? ⟨q, 0, none⟩ = some (.slice B at_.length d)) (hv : Vals w ok A r) (hv' : Vals w okr A' s) (hn : Nums w ok' B (ints at_)) (hat : ∀ i ∈ at_, i < r.length) (hat' : ∀ i ∈ at_, i < s.length) (hl : at_.length ≤ 8000000) :
    Calls Tryz.prog 81 #[.slice A r.length c, .slice A' s.length c', .pointer (some ⟨q, 0, none⟩)] w fun e w' => e = .returned (.int .i64 (ordL (partJ r at_) (partJ s at_))) ∧ Ext w w' := by
  have H1 := Lib.hid (fun W (h : Ext w W) => j_part r at_ ok ok' A B c d W (hv.ext h) (hn.ext h) hat hl)
  have H2 := Lib.hid (fun W (h : Ext w W) => j_part s at_ okr ok' A' B c' d W (hv'.ext h) (hn.ext h) hat' hl)
  have H3 := Lib.hid (fun A1 c1 A2 c2 W (h : Ext w W) h1 h2 => v_OrderRows (partJ r at_) (partJ s at_) (fun _ => True) (fun _ => True) A1 A2 c1 c2 W (hz.ext h) h1 h2)
  have MK := Lib.hid (fun V (e : Ext w V) => (⟨e.cell hq, e⟩ : V.cell? ⟨q, 0, none⟩ = some (.slice B at_.length d) ∧ Ext w V))
  clear hv hv' hn hat hat' hz
  generalize ordL (partJ r at_) (partJ s at_) = R at *
  generalize partJ r at_ = y at *
  generalize partJ s at_ = z at *
  go_enter Tryz.func81, Tryz.ntmps81
  go_upto_region 1 with (fail)
  go_region_held3 (fun V => V.cell? ⟨q, 0, none⟩ = some (.slice B at_.length d) ∧ Ext w V) ((exact MK.out _ (by repeat (first | with_reducible exact Ext.refl _ | with_reducible assumption | with_reducible refine Ext.drew ?_ | with_reducible refine Ext.drewN ?_ _ | with_reducible refine Ext.alloc ?_ _)))) ((first | (with_reducible refine (H1.out _ (by repeat (first | with_reducible exact Ext.refl _ | with_reducible assumption | with_reducible refine Ext.drew ?_ | with_reducible refine Ext.drewN ?_ _ | with_reducible refine Ext.alloc ?_ _))).mono ?_; rintro e w1 ⟨A1, c1, rfl, -, hV1, hx1⟩; replace hx1 : Ext w w1 := Ext.trans (by repeat (first | with_reducible exact Ext.refl _ | with_reducible assumption | with_reducible refine Ext.drew ?_ | with_reducible refine Ext.drewN ?_ _ | with_reducible refine Ext.alloc ?_ _)) hx1) | (with_reducible refine (H2.out _ (by repeat (first | with_reducible exact Ext.refl _ | with_reducible assumption | with_reducible refine Ext.drew ?_ | with_reducible refine Ext.drewN ?_ _ | with_reducible refine Ext.alloc ?_ _))).mono ?_; rintro e w2 ⟨A2, c2, rfl, -, hV2, hx2⟩; have hx2' := hx2; replace hx2 : Ext w w2 := Ext.trans (by repeat (first | with_reducible exact Ext.refl _ | with_reducible assumption | with_reducible refine Ext.drew ?_ | with_reducible refine Ext.drewN ?_ _ | with_reducible refine Ext.alloc ?_ _)) hx2) | (with_reducible refine (H3.out A1 c1 A2 c2 _ (by repeat (first | with_reducible exact Ext.refl _ | with_reducible assumption | with_reducible refine Ext.drew ?_ | with_reducible refine Ext.drewN ?_ _ | with_reducible refine Ext.alloc ?_ _)) (hV1.ext (by repeat (first | with_reducible exact Ext.refl _ | with_reducible assumption | with_reducible refine Ext.drew ?_ | with_reducible refine Ext.drewN ?_ _ | with_reducible refine Ext.alloc ?_ _))) (hV2.ext (by repeat (first | with_reducible exact Ext.refl _ | with_reducible assumption | with_reducible refine Ext.drew ?_ | with_reducible refine Ext.drewN ?_ _ | with_reducible refine Ext.alloc ?_ _)))).mono ?_; rintro e w3 ⟨rfl, hx3⟩; replace hx3 : Ext w w3 := Ext.trans (by repeat (first | with_reducible exact Ext.refl _ | with_reducible assumption | with_reducible refine Ext.drew ?_ | with_reducible refine Ext.drewN ?_ _ | with_reducible refine Ext.alloc ?_ _)) hx3)))
  go_wp2_with fail
  go_ret
  exact ⟨rfl, hx3⟩
theorem str_eq {a b : ByteArray} (h : a = b) : (a.toList == b.toList) = true := by rw [h]; simp
theorem str_ne {a b : ByteArray} (h : a ≠ b) : (a.toList == b.toList) = false := by
  rw [beq_eq_false_iff_ne]
  intro e
  exact h (bytes_eq e)
set_option maxRecDepth 100000 in
theorem j_IndexS (l : List ByteArray) (s : ByteArray) (ok : Nat → Prop) (A : Option Addr) (c : Nat) (w : World) (hv : Strs w ok A l) :
    Calls Tryz.prog 50 #[.slice A l.length c, .string s] w fun e w' => e = .returned (.int .i64 (idxF (fun t => decide (s = t)) l)) ∧ Ext w w' := by
  have hm := hv.len
  have HV := Lib.hid hv
  have HY := Lib.hid (fun h => idxF_none (p := fun t => decide (s = t)) (l := l) h)
  have HB := Lib.hid (fun i (hi : i < l.length) h1 h2 => idxF_at (p := fun t => decide (s = t)) i hi h1 h2)
  obtain ⟨R, hR⟩ : ∃ R, R = idxF (fun t => decide (s = t)) l := ⟨_, rfl⟩
  rw [← hR] at HY HB ⊢
  clear hv hR
  go_enter Tryz.func50, Tryz.ntmps50
  go_wp2_with fail
  go_loopw [8] (fun u W => ∃ k : Nat, u = .int .i64 k ∧ k ≤ l.length ∧ Hid (∀ i (hi : i < l.length), i < k → decide (s = l[i]) = false) ∧ Ext w W) (fun u _ => l.length - (intOf u).toNat)
  case atStart => exact ⟨0, rfl, Nat.zero_le _, Lib.hid (fun i _ hi => absurd hi (Nat.not_lt_zero _)), Ext.refl _⟩
  case round =>
    obtain ⟨k, rfl, hk, hgd, hE⟩ := hrel
    by_cases hlt : k < l.length
    · obtain ⟨b, o, rfl, hc⟩ := HV.out.2 (by omega)
      have h5 := (hc k hlt).2
      rw [Nat.mul_one] at h5
      have d0 := hE.cell h5
      have HS := Lib.hid (fun (h : decide (s = l[k]) = false) i hi (hj : i < k + 1) => (if e : i = k then (by subst e; exact h) else hgd.out i hi (by omega) : decide (s = l[i]) = false))
      have HB' := Lib.hid (HB.out k hlt hgd.out)
      clear hc h5 HB hgd
      generalize l[k] = x at *
      by_cases hq : s = x
      · have HT := Lib.hid (HB'.out (decide_eq_true hq))
        have hq2 := str_eq hq
        clear hq
        go_wp2_with fail
        go_ret
        exact ⟨ret_int HT.out.symm, hE⟩
      · have HT := Lib.hid (HS.out (decide_eq_false hq))
        have hq2 := str_ne hq
        clear hq
        go_wp2_with fail
        go_roundw
        case rel => exact ⟨k + 1, by go_num, by omega, HT, hE⟩
        case measure => simp [intOf]; omega
    · have HT := Lib.hid (HY.out (fun i hi => hgd.out i hi (by omega)))
      go_wp2_with fail
      go_ret
      exact ⟨ret_int HT.out.symm, hE⟩
end Go.Proofs.YtbjddimafilflaaGreatDoor

/- THE PLAIN LAW OF JOINS: tables, common columns, natural rows. -/
namespace Go.Proofs.YtbjddimafilflaaGreatDoor
open Go.RowKit Go.Sort
structure Tab where
  cols : List ByteArray
  rows : List (List Val)
def posJ (l : List ByteArray) (c : ByteArray) : Option Nat := l.findIdx? (fun t => decide (c = t))
theorem idxF_pos (l : List ByteArray) (c : ByteArray) : idxF (fun t => decide (c = t)) l = match posJ l c with | some i => (i : Int) | none => -1 := rfl
theorem posJ_some {l : List ByteArray} {c : ByteArray} {i : Nat} (h : posJ l c = some i) : i < l.length ∧ l[i]! = c := by
  obtain ⟨hi, h2, -⟩ := List.findIdx?_eq_some_iff_getElem.1 h
  exact ⟨hi, by rw [getElem!_pos l i hi]; exact (of_decide_eq_true h2).symm⟩
theorem posJ_none {l : List ByteArray} {c : ByteArray} : posJ l c = none ↔ c ∉ l := by
  unfold posJ
  rw [List.findIdx?_eq_none_iff]
  constructor
  · intro h hc; have := h c hc; simp at this
  · intro h x hx; exact decide_eq_false (fun e => h (e ▸ hx))
theorem posJ_iff {l : List ByteArray} (hl : l.Nodup) {c : ByteArray} {i : Nat} : posJ l c = some i ↔ i < l.length ∧ l[i]! = c := by
  refine ⟨posJ_some, fun ⟨hi, h2⟩ => ?_⟩
  cases h : posJ l c with
  | none => exact absurd (by rw [← h2, getElem!_pos l i hi]; exact List.getElem_mem hi) (posJ_none.1 h)
  | some j =>
    obtain ⟨hj, h3⟩ := posJ_some h
    rw [getElem!_pos l i hi] at h2
    rw [getElem!_pos l j hj] at h3
    exact congrArg some ((List.getElem_inj hl).1 (h3.trans h2.symm))
def leftK (a b : List ByteArray) (k : Nat) : List Nat := (List.range k).filterMap (fun i => posJ a b[i]!)
def rightK (a b : List ByteArray) (k : Nat) : List Nat := (List.range k).filter (fun i => (posJ a b[i]!).isSome)
def othersK (a b : List ByteArray) (k : Nat) : List Nat := (List.range k).filter (fun i => (posJ a b[i]!).isNone)
section
variable {a b : List ByteArray} {k i : Nat}
theorem leftK_some (h : posJ a b[k]! = some i) : leftK a b (k + 1) = leftK a b k ++ [i] := by
  unfold leftK; rw [List.range_succ, List.filterMap_append]; simp only [List.filterMap_cons, h, List.filterMap_nil]
theorem leftK_none (h : posJ a b[k]! = none) : leftK a b (k + 1) = leftK a b k := by
  unfold leftK; rw [List.range_succ, List.filterMap_append]; simp only [List.filterMap_cons, h, List.filterMap_nil, List.append_nil]
theorem rightK_some (h : posJ a b[k]! = some i) : rightK a b (k + 1) = rightK a b k ++ [k] := by
  unfold rightK; rw [List.range_succ, List.filter_append]; simp only [List.filter_cons, h, List.filter_nil, Option.isSome_some, if_true]
theorem rightK_none (h : posJ a b[k]! = none) : rightK a b (k + 1) = rightK a b k := by
  unfold rightK; rw [List.range_succ, List.filter_append]; simp only [List.filter_cons, h, List.filter_nil, Option.isSome_none, Bool.false_eq_true, if_false, List.append_nil]
theorem othersK_some (h : posJ a b[k]! = some i) : othersK a b (k + 1) = othersK a b k := by
  unfold othersK; rw [List.range_succ, List.filter_append]; simp only [List.filter_cons, h, List.filter_nil, Option.isNone_some, Bool.false_eq_true, if_false, List.append_nil]
theorem othersK_none (h : posJ a b[k]! = none) : othersK a b (k + 1) = othersK a b k ++ [k] := by
  unfold othersK; rw [List.range_succ, List.filter_append]; simp only [List.filter_cons, h, List.filter_nil, Option.isNone_none, if_true]
theorem leftK_lt (h : i ∈ leftK a b k) : i < a.length := by
  obtain ⟨j, -, h2⟩ := List.mem_filterMap.1 h
  exact (posJ_some h2).1
theorem rightK_lt (h : i ∈ rightK a b k) : i < k := List.mem_range.1 (List.mem_filter.1 h).1
theorem othersK_lt (h : i ∈ othersK a b k) : i < k := List.mem_range.1 (List.mem_filter.1 h).1
theorem leftK_len : (leftK a b k).length ≤ k := by
  unfold leftK; exact Nat.le_trans (List.length_filterMap_le _ _) (by simp)
theorem rightK_len : (rightK a b k).length ≤ k := by
  unfold rightK; exact Nat.le_trans (List.length_filter_le _ _) (by simp)
theorem othersK_len : (othersK a b k).length ≤ k := by
  unfold othersK; exact Nat.le_trans (List.length_filter_le _ _) (by simp)
theorem left_right_len (a b : List ByteArray) : ∀ k, (leftK a b k).length = (rightK a b k).length
  | 0 => rfl
  | k + 1 => by
    cases h : posJ a b[k]! with
    | none => rw [leftK_none h, rightK_none h]; exact left_right_len a b k
    | some i => rw [leftK_some h, rightK_some h, List.length_append, List.length_append, left_right_len a b k]; rfl
end
/-- two rows agree on the common columns -/
def agreeJ (a b : List ByteArray) (x y : List Val) : Bool := (List.range a.length).all fun i => match posJ b a[i]! with | none => true | some k => !(decide (x[i]! = nullV)) && decide (x[i]! = y[k]!)
theorem agreeJ_iff {a b : List ByteArray} {x y : List Val} : agreeJ a b x y = true ↔ ∀ i, i < a.length → ∀ k, posJ b a[i]! = some k → x[i]! ≠ nullV ∧ x[i]! = y[k]! := by
  unfold agreeJ
  rw [List.all_eq_true]
  constructor
  · intro h i hi k hk
    have := h i (List.mem_range.2 hi)
    rw [hk] at this
    simpa using this
  · intro h i hi
    have h1 := h i (List.mem_range.1 hi)
    cases hk : posJ b a[i]! with
    | none => rfl
    | some k => simpa using h1 k hk
theorem part_eq (a b : List ByteArray) (x y : List Val) : ∀ k, partJ x (leftK a b k) = partJ y (rightK a b k) ↔ ∀ j, j < k → ∀ i, posJ a b[j]! = some i → x[i]! = y[j]!
  | 0 => ⟨fun _ j hj => absurd hj (Nat.not_lt_zero _), fun _ => rfl⟩
  | k + 1 => by
    have ih := part_eq a b x y k
    cases h : posJ a b[k]! with
    | none =>
      rw [leftK_none h, rightK_none h, ih]
      refine ⟨fun h1 j hj i hi => ?_, fun h1 j hj => h1 j (by omega)⟩
      rcases Nat.lt_or_ge j k with h2 | h2
      · exact h1 j h2 i hi
      · rw [show j = k by omega, h] at hi; cases hi
    | some i =>
      rw [leftK_some h, rightK_some h]
      unfold partJ at ih ⊢
      rw [List.map_append, List.map_append]
      constructor
      · intro h1
        obtain ⟨h2, h3⟩ := List.append_inj h1 (by rw [List.length_map, List.length_map, left_right_len])
        intro j hj i' hi
        rcases Nat.lt_or_ge j k with h4 | h4
        · exact ih.1 h2 j h4 i' hi
        · have : j = k := by omega
          subst this
          rw [h] at hi
          cases hi
          simpa using h3
      · intro h1
        rw [ih.2 (fun j hj => h1 j (by omega))]
        congr 1
        simpa using h1 k (by omega) i h
theorem void_iff {x : List Val} {at_ : List Nat} : voidJ (partJ x at_) = false ↔ ∀ i ∈ at_, x[i]! ≠ nullV := by
  unfold voidJ partJ
  rw [List.any_eq_false]
  simp
theorem agree_key {a b : List ByteArray} (ha : a.Nodup) (hb : b.Nodup) (x y : List Val) :
    agreeJ a b x y = (!voidJ (partJ x (leftK a b b.length)) && decide (partJ x (leftK a b b.length) = partJ y (rightK a b b.length))) := by
  rw [Bool.eq_iff_iff, agreeJ_iff, Bool.and_eq_true, Bool.not_eq_true', decide_eq_true_iff, void_iff, part_eq]
  constructor
  · intro h
    refine ⟨fun i hi => ?_, fun j hj i hi => ?_⟩
    · obtain ⟨j, hj, h2⟩ := List.mem_filterMap.1 hi
      obtain ⟨h3, h4⟩ := posJ_some h2
      exact (h i h3 j ((posJ_iff hb).2 ⟨List.mem_range.1 hj, h4.symm⟩)).1
    · obtain ⟨h3, h4⟩ := posJ_some hi
      exact (h i h3 j ((posJ_iff hb).2 ⟨hj, h4.symm⟩)).2
  · rintro ⟨h1, h2⟩ i hi k hk
    obtain ⟨h3, h4⟩ := posJ_some hk
    have h5 : posJ a b[k]! = some i := (posJ_iff ha).2 ⟨hi, h4.symm⟩
    exact ⟨h1 i (List.mem_filterMap.2 ⟨k, List.mem_range.2 h3, h5⟩), h2 k h3 i h5⟩
/-- the rows of the natural join, as the reference lists them -/
def restJ (a b : List ByteArray) (y : List Val) : List Val := partJ y (othersK a b b.length)
def natR (a b : Tab) : List (List Val) := a.rows.flatMap fun x => (b.rows.filter (agreeJ a.cols b.cols x)).map fun y => x ++ restJ a.cols b.cols y
def colsJ (a b : List ByteArray) : List ByteArray := a ++ (othersK a b b.length).map (b[·]!)
/-- and as two sorted lists give them -/
def natP (K K' R : List Val → List Val) (x y : List (List Val)) : List (List Val) := x.flatMap fun r => (y.filter (fun s => decide (K r = K' s))).map (fun s => r ++ R s)
theorem flat_perm {α β : Type} (l : List α) {f g : α → List β} (h : ∀ a ∈ l, (f a).Perm (g a)) : (l.flatMap f).Perm (l.flatMap g) := by
  induction l with
  | nil => exact List.Perm.refl _
  | cons a l ih =>
    rw [List.flatMap_cons, List.flatMap_cons]
    exact (h a (by simp)).append (ih (fun b hb => h b (by simp [hb])))
theorem flat_congr {α β : Type} (l : List α) {f g : α → List β} (h : ∀ a ∈ l, f a = g a) : l.flatMap f = l.flatMap g := by
  induction l with
  | nil => rfl
  | cons a l ih => rw [List.flatMap_cons, List.flatMap_cons, h a (by simp), ih (fun b hb => h b (by simp [hb]))]
theorem natP_congr {K K' R : List Val → List Val} {x y x' y' : List (List Val)} (hx : x.Perm x') (hy : y.Perm y') : (natP K K' R x y).Perm (natP K K' R x' y') :=
  (hx.flatMap_right _).trans (flat_perm _ fun _ _ => (hy.filter _).map _)
theorem flat_filter {α β : Type} (p : α → Bool) (f g : α → List β) (h1 : ∀ x, p x = true → f x = g x) (h2 : ∀ x, p x = false → g x = []) : ∀ l : List α, (l.filter p).flatMap f = l.flatMap g
  | [] => rfl
  | x :: l => by
    rw [List.flatMap_cons]
    cases h : p x with
    | true => rw [List.filter_cons_of_pos h, List.flatMap_cons, h1 x h, flat_filter p f g h1 h2 l]
    | false => rw [List.filter_cons_of_neg (by rw [h]; exact Bool.false_ne_true), h2 x h, List.nil_append]; exact flat_filter p f g h1 h2 l
theorem natP_natR {a b : Tab} (ha : a.cols.Nodup) (hb : b.cols.Nodup) {x y : List (List Val)}
    (hx : x.Perm (a.rows.filter (fun r => !voidJ (partJ r (leftK a.cols b.cols b.cols.length)))))
    (hy : y.Perm (b.rows.filter (fun r => !voidJ (partJ r (rightK a.cols b.cols b.cols.length))))) :
    (natP (fun r => partJ r (leftK a.cols b.cols b.cols.length)) (fun r => partJ r (rightK a.cols b.cols b.cols.length)) (restJ a.cols b.cols) x y).Perm (natR a b) := by
  refine (natP_congr hx hy).trans (List.Perm.of_eq ?_)
  unfold natP natR
  refine flat_filter _ _ _ (fun r hr => ?_) (fun r hr => ?_) _
  · rw [List.filter_filter]
    congr 1
    refine List.filter_congr (fun s _ => ?_)
    rw [agree_key ha hb, hr, Bool.true_and]
    cases h : decide (partJ r (leftK a.cols b.cols b.cols.length) = partJ s (rightK a.cols b.cols b.cols.length)) with
    | false => rfl
    | true => rw [← of_decide_eq_true h, hr]; rfl
  · rw [List.filter_eq_nil_iff.2, List.map_nil]
    intro s _
    rw [agree_key ha hb, hr]
    simp
/-- the steps of the merge -/
theorem natP_lt {K K' R : List Val → List Val} {r : List Val} {x y : List (List Val)} (h : ∀ s ∈ y, K r ≠ K' s) : natP K K' R (r :: x) y = natP K K' R x y := by
  unfold natP
  rw [List.flatMap_cons, List.filter_eq_nil_iff.2 (fun s hs => by simp [h s hs])]
  rfl
theorem natP_gt {K K' R : List Val → List Val} {s : List Val} {x y : List (List Val)} (h : ∀ r ∈ x, K r ≠ K' s) : natP K K' R x (s :: y) = natP K K' R x y := by
  unfold natP
  induction x with
  | nil => rfl
  | cons r x ih =>
    rw [List.flatMap_cons, List.flatMap_cons, ih (fun r hr => h r (by simp [hr])), List.filter_cons_of_neg (by simp [h r (by simp)])]
theorem natP_eq {K K' R : List Val → List Val} {k : List Val} {x1 x2 y1 y2 : List (List Val)} (h1 : ∀ r ∈ x1, K r = k) (h2 : ∀ r ∈ x2, K r ≠ k) (h3 : ∀ s ∈ y1, K' s = k) (h4 : ∀ s ∈ y2, K' s ≠ k) :
    natP K K' R (x1 ++ x2) (y1 ++ y2) = (x1.flatMap fun r => y1.map fun s => r ++ R s) ++ natP K K' R x2 y2 := by
  unfold natP
  rw [List.flatMap_append]
  congr 1
  · refine flat_congr _ (fun r hr => ?_)
    rw [List.filter_append, List.filter_eq_self.2 (fun s hs => by simp [h1 r hr, h3 s hs]), List.filter_eq_nil_iff.2 (fun s hs => by simpa [h1 r hr] using fun e => h4 s hs e.symm), List.append_nil]
  · refine flat_congr _ (fun r hr => ?_)
    rw [List.filter_append, List.filter_eq_nil_iff.2 (fun s hs => by simpa [h3 s hs] using h2 r hr), List.nil_append]
theorem sortO_of_perm {l m : List (List Val)} (h : l.Perm m) : sortO ordL l = sortO ordL m :=
  sortO_eq TotC.row ((sortO_perm TotC.row l).trans h) (sortO_rise TotC.row l)
end Go.Proofs.YtbjddimafilflaaGreatDoor

/- THE WALKS over slices.Grow and slices.Concat at rows of values; join.part with what it points to. -/
namespace Go.Proofs.YtbjddimafilflaaGreatDoor
open Go.RowKit Go.Sort
theorem run_append_none {P : Program} {w : World} (base : Nat) (t ty e : TypeId) (i : TypeInfo) (size : Nat) (ht : P.underlying t = some (.slice e)) (hi : P.info? e = some i)
    (v : Value) (n c : Nat) (xs : List Value) (hown : w.ownsRow base e size v n xs) :
    (Builtin.append_ #[t, t] ty #[v, .slice none 0 c]).run P w = .ok v w := by
  rcases hown.2 with ⟨rfl, rfl⟩ | ⟨g, cap, cur, rfl, _, _, hnc, _⟩
  · simp [Builtin.append_, run_underlying ht, sizeOf, typeInfo, hi, Builtin.lenOf, Builtin.firstCells]
  · simp [Builtin.append_, run_underlying ht, sizeOf, typeInfo, hi, Builtin.lenOf, Builtin.firstCells, hnc, storeCells]
theorem wpList_append_run' {P : Program} {w : World} {ops : Array Oper} {rest : List Oper} {o : Oper} {a : Act} {Q : Exit → Act → World → Prop} (hgd : o.guard = none) (s x : Operand) (t t' : TypeId)
    (ho : o.op = .call { callee := .builtin .append, args := #[s, x], argTypes := #[t, t'] }) (v u : Value) (hs : a.eval s = v) (hx : a.eval x = u) {v' : Value} {w' : World}
    (hr : ∀ ty, (Builtin.append_ #[t, t'] ty #[v, u]).run P w = .ok v' w') (h : wpList P ops Q rest (a.put o.dst v') w') : wpList P ops Q (o :: rest) a w :=
  wpList_plain hgd fun _ hK => by
    unfold Oper.wp execOp
    simp only [ho, resolve, invoke, builtin, Sem.run_bind, Sem.run_pure, Result.andThen_ok, List.map_toArray, List.map_cons, List.map_nil, hs, hx, hr]
    exact hK _ _ h
theorem own_appendA {P : Program} {t e size bytes : Nat} (T : ElT P t e size bytes) {ops : Array Oper} {rest : List Oper} {o : Oper} {a : Act} {Q : Exit → Act → World → Prop} {w : World} (hgd : o.guard = none) (s x : Operand)
    (ho : o.op = .call { callee := .builtin .append, args := #[s, x], argTypes := #[t, t] }) (wb : World) (v : Value) (n : Nat) (xs : List Value) (hs : a.eval s = v) (hown : w.ownsRow wb.heap.size e size v n xs) (hE : Ext wb w)
    (A : Option Addr) (m c : Nat) (news : List Value) (hx : a.eval x = .slice A m c) (hA : A = none → m = 0) (hl : news.length = m * size) (hnews : ∀ ad, A = some ad → ∀ j u, news[j]? = some u → w.cell? (ad.add j) = some u) (h1 : ∀ u ∈ news, u.oneCell' = true)
    (h63 : n + m ≤ 8388608) (hbytes : bytes ≤ 1000000)
    (h : ∀ v' w', w'.ownsRow wb.heap.size e size v' (n + m) (xs ++ news) → Ext wb w' → wpList P ops Q rest (a.put o.dst v') w') : wpList P ops Q (o :: rest) a w := by
  cases A with
  | some ad => exact own_append T hgd s x ho wb v n xs hs hown hE ad m c news hx hl (hnews ad rfl) h1 h63 hbytes h
  | none =>
    have h0 := hA rfl
    subst h0
    obtain ⟨z, hz, hzc⟩ := T.hi
    obtain ⟨i, hi, hz0, hz1, hz2⟩ := info_parts hz
    have hn : news = [] := List.eq_nil_of_length_eq_zero (by omega)
    subst hn
    have hr := run_append_none (P := P) (w := w) wb.heap.size t o.type e i size T.ht hi v n c xs hown
    refine wpList_plain hgd fun _ hK => ?_
    unfold Oper.wp execOp
    simp only [ho, resolve, invoke, builtin, Sem.run_bind, Sem.run_pure, Result.andThen_ok, List.map_toArray, List.map_cons, List.map_nil, hs, hx, hr]
    exact hK _ _ (h v w (by simpa using hown) hE)
theorem CopyTo.fin {w : World} {ok ok' : Nat → Prop} {base : Nat} {v : Value} {l : List Val} {cs : List (List Value)} (h : CopyTo w ok l cs) (hown : w.ownsRow base 40 5 v l.length cs.flatten) (hl : cs.length = l.length) (hm : l.length ≤ 140737488355328) (h1 : ∀ b, ok b → ok' b) (h2 : ∀ b, base ≤ b → ok' b) :
    ∃ A c, v = .slice A l.length c ∧ l.length ≤ c ∧ Vals w ok' A l := by
  refine own_sliceR hown rfl hl h.size hm (fun g hg _ k hk hk' hcell => ?_)
  obtain ⟨h', A, c, e, h3, h4⟩ := h k hk'
  rw [e] at hcell
  refine VCells.iff.2 ⟨h2 g hg, A, c, ⟨?_, ?_, ?_, ?_, ?_⟩, h3, h4.to h1⟩
  · exact hcell 0 _ rfl
  · exact hcell 1 _ rfl
  · exact hcell 2 _ rfl
  · exact hcell 3 _ rfl
  · exact hcell 4 _ rfl
theorem CopyTo.app {w : World} {ok ok1 ok2 : Nat → Prop} {l l' : List Val} {cs cs' : List (List Value)} (h : CopyTo w ok1 l cs) (h' : CopyTo w ok2 l' cs') (hl : cs.length = l.length) (h1 : ∀ b, ok1 b → ok b) (h2 : ∀ b, ok2 b → ok b) : CopyTo w ok (l ++ l') (cs ++ cs') := fun i hi => by
  rcases Nat.lt_or_ge i cs.length with hlt | hge
  · obtain ⟨q, A, c, e1, e2, e3⟩ := h i hlt
    refine ⟨by rw [List.length_append]; omega, A, c, ?_⟩
    rw [List.getElem_append_left hlt, List.getElem_append_left q]
    exact ⟨e1, e2, e3.to h1⟩
  · have hi' : i - cs.length < cs'.length := by rw [List.length_append] at hi; omega
    obtain ⟨q, A, c, e1, e2, e3⟩ := h' (i - cs.length) hi'
    refine ⟨by rw [List.length_append]; omega, A, c, ?_⟩
    have ea : (l ++ l')[i]'(by rw [List.length_append]; omega) = l'[i - cs.length] := by
      rw [List.getElem_append_right (by omega)]
      congr 1; omega
    rw [List.getElem_append_right hge, ea]
    exact ⟨e1, e2, e3.to h2⟩
set_option maxRecDepth 100000 in
theorem j_Grow (n : Nat) (hn : n ≤ 8000000) (w : World) :
    Calls Tryz.prog 63 #[.slice none 0 0, .int .i64 n] w fun e w' => ∃ v, e = .returned v ∧ w'.ownsRow w.heap.size 40 5 v 0 [] ∧ Ext w w' := by
  rcases Nat.eq_zero_or_pos n with rfl | hp
  · go_enter Tryz.func63, Tryz.ntmps63
    go_wp2_with fail
    go_ret
    exact ⟨_, rfl, World.ownsRow_nil _ _ _ _, Ext.refl _⟩
  · obtain ⟨z, hz, hzc⟩ := T_rowV.hi
    obtain ⟨i, hi, hz0, hz1, hz2⟩ := info_parts hz
    have hcap : Builtin.nextslicecap (0 + n) 0 = n := by unfold Builtin.nextslicecap; simp; omega
    obtain ⟨q, hq⟩ : ∃ q, q = grownCap w (0 + n) 0 40 := ⟨_, rfl⟩
    obtain ⟨W2, hW2⟩ : ∃ W2, W2 = (w.drew.alloc (.cells (#[] ++ Builtin.zeroCells z.cells n ++ Builtin.zeroCells z.cells (grownCap w (0 + n) 0 40 - (0 + n))) 40)) := ⟨_, rfl⟩
    have hap : ∀ ty, (Builtin.append_ #[37, 3] ty #[.slice none 0 0, .int .i64 n]).run Tryz.prog w = .ok (.slice (some ⟨w.heap.size, 0, none⟩) n q) W2 := fun ty => by
      have h := Lib.run_append_grow_zeros (P := Tryz.prog) w 37 3 ty 40 i z .i64 .i64 T_rowV.ht Tryz.underlying3 hi hz0 none 0 0 [] (by simp [Builtin.firstCells]) n hp (by rw [hz1]; decide) (by omega) (by omega) (by rw [hz2]; omega) (by rw [hcap, hz2]; omega)
      rw [hW2, hq, ← Nat.zero_add n]
      simpa using h
    have hge := grownCap_ge w (0 + n) 0 40
    have hle := grownCap_le_maxLen w (0 + n) 0 40 (by unfold maxLen; omega)
    rw [← hq] at hge hle
    have HO := Lib.hid (show W2.ownsRow w.heap.size 40 5 (.slice (some ⟨w.heap.size, 0, none⟩) 0 q) 0 [] by
      refine ⟨rfl, .inr ⟨w.heap.size, q, _, rfl, Nat.le_refl _, by rw [hW2]; exact heap_alloc_new w.drew _, Nat.zero_le _, hle, ?_, by simp⟩⟩
      rw [← hq]
      simp only [Array.size_append, size_zeroCells, hzc]
      simp; omega)
    have HE := Lib.hid (show Ext w W2 by rw [hW2]; exact ((Ext.refl _).drew).alloc _)
    have hnq : n ≤ q := by omega
    clear hW2 hq hcap hz hi hz0 hz1 hz2 hzc hge
    go_enter Tryz.func63, Tryz.ntmps63
    go_wp2_with (at_builtin; refine wpList_append_run' rfl (.tmp 20) (.tmp 21) _ _ rfl _ _ rfl rfl hap ?_)
    go_ret
    exact ⟨_, rfl, HO.out, HE.out⟩
set_option maxRecDepth 100000 in
set_option maxHeartbeats 3200000 in
theorem j_Concat (r s : List Val) (g : Nat) (ok ok' : Nat → Prop) (A B : Option Addr) (c d : Nat) (w : World) (h0 : w.cell? ⟨g, 0, none⟩ = some (.slice A r.length c)) (h1 : w.cell? ⟨g, 1, none⟩ = some (.slice B s.length d)) (hr : Vals w ok A r) (hs : Vals w ok' B s) (hlr : r.length ≤ 4000000) (hls : s.length ≤ 4000000) :
    Calls Tryz.prog 41 #[.slice (some ⟨g, 0, none⟩) 2 2] w fun e w' => ∃ A2 c2, e = .returned (.slice A2 (r ++ s).length c2) ∧ (r ++ s).length ≤ c2 ∧ Vals w' (fun b => (ok b ∨ ok' b) ∨ w.heap.size ≤ b) A2 (r ++ s) ∧ Ext w w' := by
  obtain ⟨cs, hcl, hct, hcc⟩ := hr.flat
  obtain ⟨ds, hdl, hdt, hdc⟩ := hs.flat
  have HC := Lib.hid hcc
  have HD := Lib.hid hdc
  have HT := Lib.hid (hct.app (ok := fun b => ok b ∨ ok' b) hdt hcl (fun _ h => .inl h) (fun _ h => .inr h))
  have HCL := Lib.hid (show cs.flatten.length = r.length * 5 by rw [flatten_len hct.size, hcl])
  have HDL := Lib.hid (show ds.flatten.length = s.length * 5 by rw [flatten_len hdt.size, hdl])
  have HC1 := Lib.hid hct.one
  have HD1 := Lib.hid hdt.one
  have HLL := Lib.hid (show (cs ++ ds).length = (r ++ s).length by rw [List.length_append, List.length_append, hcl, hdl])
  have hA0 := Lib.hid (fun e => hr.none_ e)
  have hB0 := Lib.hid (fun e => hs.none_ e)
  have HRS := Lib.hid (show (r ++ s).length = r.length + s.length from by rw [List.length_append])
  obtain ⟨n, hn⟩ : ∃ n, n = r.length := ⟨_, rfl⟩
  obtain ⟨m, hm⟩ : ∃ m, m = s.length := ⟨_, rfl⟩
  rw [← hn] at h0 HCL hlr HRS hA0
  rw [← hm] at h1 HDL hls HRS hB0
  clear hct hdt hcc hdc hr hs hcl hdl hn hm
  generalize r ++ s = rs at *
  have hG := Lib.hid (fun W => j_Grow (n + m) (by omega) W)
  go_enter Tryz.func41, Tryz.ntmps41
  go_wp2_with fail
  go_loopw [3, 11] (fun t u W => (t = .int .i64 0 ∧ u = .int .i64 0 ∨ t = .int .i64 n ∧ u = .int .i64 1 ∨ t = .int .i64 (n + m) ∧ u = .int .i64 2) ∧ Ext w W) (fun _ u _ => 2 - (intOf u).toNat)
  case atStart => exact ⟨.inl ⟨rfl, rfl⟩, Ext.refl _⟩
  case round =>
    obtain ⟨hrel, hE⟩ := hrel
    have q0 := hE.cell h0
    have q1 := hE.cell h1
    rcases hrel with ⟨rfl, rfl⟩ | ⟨rfl, rfl⟩ | ⟨rfl, rfl⟩
    · go_wp2_with fail
      go_roundw
      case rel => exact ⟨.inr (.inl ⟨by go_num, by go_num⟩), hE⟩
      case measure => simp [intOf]
    · have hw1 : wrap64 ((n : Int) + (m : Int)) = (n : Int) + (m : Int) := by unfold wrap64; omega
      go_wp2_with fail
      go_roundw
      case rel => exact ⟨.inr (.inr ⟨by go_num, by go_num⟩), hE⟩
      case measure => simp [intOf]
    · have hnm : ((n + m : Nat) : Int) = (n : Int) + (m : Int) := by omega
      have hG2 := Lib.hid (hG.out wr)
      rw [hnm] at hG2
      clear hnm hG
      go_wp2_with (go_at_call 63; ((with_reducible refine (hG2.out).mono ?_); rintro e w2 ⟨v2, rfl, hO2, hx2⟩))
      have hO3 := own_mono hO2 hE.le
      replace hE := hE.trans hx2
      clear hO2 hx2 q0 q1 hG2
      go_loopw [6, 27] (fun v u W => ((u = .int .i64 0 ∧ W.ownsRow w.heap.size 40 5 v 0 []) ∨ (u = .int .i64 1 ∧ W.ownsRow w.heap.size 40 5 v n cs.flatten) ∨ (u = .int .i64 2 ∧ W.ownsRow w.heap.size 40 5 v (n + m) (cs.flatten ++ ds.flatten))) ∧ Ext w W) (fun _ u _ => 2 - (intOf u).toNat)
      case atStart => exact ⟨.inl ⟨rfl, hO3⟩, hE⟩
      case round =>
        obtain ⟨hrel, hE⟩ := hrel
        have q0 := hE.cell h0
        have q1 := hE.cell h1
        rcases hrel with ⟨rfl, hown⟩ | ⟨rfl, hown⟩ | ⟨rfl, hown⟩
        · go_wp2_with (at_builtin; refine own_appendA T_rowV rfl (.tmp 31) (.tmp 32) rfl w _ 0 [] rfl hown hE A n c cs.flatten rfl hA0.out HCL.out (fun ad e j u hu => hE.cell (HC.out ad e j u hu)) HC1.out (by omega) (by decide) ?_; intro v2 w9 hown2 hE9)
          go_roundw
          case rel => exact ⟨.inr (.inl ⟨by go_num, by rw [Nat.zero_add, List.nil_append] at hown2; exact hown2⟩), hE9⟩
          case measure => simp [intOf]
        · go_wp2_with (at_builtin; refine own_appendA T_rowV rfl (.tmp 31) (.tmp 32) rfl w _ n cs.flatten rfl hown hE B m d ds.flatten rfl hB0.out HDL.out (fun ad e j u hu => hE.cell (HD.out ad e j u hu)) HD1.out (by omega) (by decide) ?_; intro v2 w9 hown2 hE9)
          go_roundw
          case rel => exact ⟨.inr (.inr ⟨by go_num, hown2⟩), hE9⟩
          case measure => simp [intOf]
        · have HX := Lib.hid ((HT.out.ext hE).fin (ok' := fun b => (ok b ∨ ok' b) ∨ w.heap.size ≤ b) (by rw [HRS.out, List.flatten_append]; exact hown) HLL.out (by rw [HRS.out]; omega) (fun _ h => .inl h) (fun _ h => .inr h))
          clear hown
          go_wp2_with fail
          obtain ⟨A9, c9, e9, h9, hV9⟩ := HX.out
          subst e9
          go_ret
          exact ⟨A9, c9, rfl, h9, hV9, hE⟩
end Go.Proofs.YtbjddimafilflaaGreatDoor

/- THE WALKS over slices.DeleteFunc at rows and over join.sorted. -/
namespace Go.Proofs.YtbjddimafilflaaGreatDoor
open Go.RowKit Go.Sort
/-- what the call's own row holds: some rows, then what is left of the old ones -/
structure DelW (w0 : World) (B g cap n : Nat) (fs mid rest : List HRow) (W : World) : Prop where
  gr : w0.grownBy W (some g)
  own : W.ownsRow B 37 1 (.slice (some ⟨g, 0, none⟩) n cap) n (fs.map encP ++ (mid.map encP ++ rest.map encP))
  len : fs.length + mid.length + rest.length = n
theorem DelW.ext {w0 W W' : World} {B g cap n : Nat} {fs mid rest : List HRow} (h : DelW w0 B g cap n fs mid rest W) (e : Ext W W') : DelW w0 B g cap n fs mid rest W' := ⟨grown_trans h.gr (e.grownBy _), own_ext h.own e, h.len⟩
theorem DelW.at_ {w0 W : World} {B g cap n : Nat} {fs mid rest : List HRow} {p : HRow} (h : DelW w0 B g cap n fs mid (p :: rest) W) : W.cell? ⟨g, fs.length + mid.length, none⟩ = some (encP p) := by
  have hl := h.len
  rw [List.length_cons] at hl
  rw [h.own.cellAt _ (by omega), List.getElem?_append_right (by simp), List.getElem?_append_right (by simp)]
  simp
theorem DelW.at0 {w0 W : World} {B g cap n : Nat} {fs mid rest : List HRow} {m1 : HRow} (h : DelW w0 B g cap n fs (m1 :: mid) rest W) : W.cell? ⟨g, fs.length, none⟩ = some (encP m1) := by
  have hl := h.len
  rw [List.length_cons] at hl
  rw [h.own.cellAt _ (by omega), List.getElem?_append_right (by simp)]
  simp
theorem DelW.skip {w0 W : World} {B g cap n : Nat} {fs mid rest : List HRow} {p : HRow} (h : DelW w0 B g cap n fs mid (p :: rest) W) : DelW w0 B g cap n fs (mid ++ [p]) rest W := by
  refine ⟨h.gr, ?_, by have := h.len; simp at this ⊢; omega⟩
  have := h.own
  simpa using this
theorem DelW.take {w0 W : World} {B g cap n : Nat} {fs mid rest : List HRow} {p q : HRow} (h : DelW w0 B g cap n fs (q :: mid) (p :: rest) W) : DelW w0 B g cap n (fs ++ [p]) (mid ++ [p]) rest (W.setCell ⟨g, fs.length, none⟩ (encP p)) := by
  obtain ⟨h1, h2⟩ := h.own.stored fs.length (encP p)
  refine ⟨grown_trans h.gr h2, ?_, by have := h.len; simp at this ⊢; omega⟩
  rw [List.set_append_right _ _ (by simp)] at h1
  simpa using h1
theorem DelW.frozen {w0 W : World} {B g cap n : Nat} {fs mid rest : List HRow} (h : DelW w0 B g cap n fs mid rest W) (j : Nat) : W.frozen? ⟨g, j, none⟩ = false := h.own.frozenAt j
theorem zeros_row (n : Nat) : (Builtin.zeroCells (Value.slice none 0 0).cells n).size = n ∧ ∀ v ∈ (Builtin.zeroCells (Value.slice none 0 0).cells n).toList, v.oneCell' = true := by
  have h1 : (Value.slice none 0 0).cells = #[.slice none 0 0] := rfl
  refine ⟨by rw [size_zeroCells, h1]; simp, fun v hv => ?_⟩
  unfold Builtin.zeroCells at hv
  rw [h1] at hv
  simp at hv
  obtain ⟨k, -, rfl⟩ := hv
  simp [Nat.mod_one]; rfl
theorem zero_row (w : World) : (zeroValue 37).run Tryz.prog w = .ok (.slice none 0 0) w := by
  kernel_rfl
/-- clearing what is behind the rows that stay -/
theorem DelW.cleared {w0 W : World} {B g cap n : Nat} {fs mid : List HRow} (h : DelW w0 B g cap n fs mid [] W) (hm : 0 < mid.length) : ∃ W', (∀ ty c, (Builtin.clear_ #[23] ty #[.slice (some ⟨g, fs.length, none⟩) mid.length c]).run Tryz.prog W = .ok (.tuple #[]) W') ∧ w0.grownBy W' (some g) ∧ W'.ownsRow B 37 1 (.slice (some ⟨g, 0, none⟩) fs.length cap) fs.length (fs.map encP) := by
  have hl := h.len
  simp only [List.length_nil] at hl
  rcases h.own.2 with ⟨h', _⟩ | ⟨g', cap', cur, h', hB, hg, hnc, hcm, hsz, htake⟩
  · simp at h'
  · simp only [Value.slice.injEq, Option.some.injEq, Addr.mk.injEq, and_true, true_and] at h'
    obtain ⟨rfl, rfl⟩ := h'
    have hblk : Blk W g 37 cur.toList := by unfold Blk; rw [Array.toArray_toList]; exact hg
    have hcl : cur.toList.length = cap := by rw [Array.length_toList, hsz, Nat.mul_one]
    have hz := zeros_row mid.length
    have hz3 : (Builtin.zeroCells (Value.slice none 0 0).cells mid.length).toList.length = mid.length := by rw [Array.length_toList]; exact hz.1
    refine ⟨_, fun ty c => run_clearK (P := Tryz.prog) W 23 ty 37 g fs.length mid.length c (.slice none 0 0) cur.toList 37 Tryz.underlying23 zero_row hm hblk (by rw [hz.1, hcl]; omega) hz.2, ?_, ?_⟩
    · refine grown_trans h.gr ⟨rfl, rfl, rfl, by simp, fun k _ hk => setRow_other W g k _ (fun e => hk (by simp [e]))⟩
    · refine Blk.own (hblk.set _) hB (by omega) hcm ?_ ?_
      · rw [laidAt_len (by rw [hz3, hcl]; omega), hcl, Nat.mul_one]
      · rw [Nat.mul_one, take_laid_lt (by omega) (Nat.le_refl _)]
        have h2 : (cur.toList.take (n * 1)).take fs.length = (fs.map encP ++ (mid.map encP ++ ([] : List HRow).map encP)).take fs.length := by rw [htake]
        rw [List.take_take, Nat.min_eq_left (by omega)] at h2
        rw [h2, List.take_append_of_le_length (by simp), List.take_of_length_le (by simp)]
set_option maxRecDepth 100000 in
set_option maxHeartbeats 1000000 in
theorem d_Delete (ps : List HRow) (q : List Val → Bool) (B g cap : Nat) (ok : Nat → Prop) (f : Nat) (cb : Array Value) (w : World) (eg : ∀ args w, (callFunc f args).run Tryz.prog w = .ok (.enter f args) w)
    (hown : w.ownsRow B 37 1 (.slice (some ⟨g, 0, none⟩) ps.length cap) ps.length (ps.map encP)) (hgd : ∀ p ∈ ps, GoodRow w ok p) (hne : ∀ b, ok b → b ≠ g) (hl : ps.length ≤ 8000000)
    (hf : ∀ W, w.grownBy W (some g) → ∀ r ∈ ps.map Prod.snd, ∀ (ok' : Nat → Prop) (A : Option Addr) (c : Nat), Vals W ok' A r → r.length ≤ c → Calls Tryz.prog f (#[.slice A r.length c] ++ cb) W fun e W' => e = .returned (.bool (q r)) ∧ Ext W W') :
    Calls Tryz.prog 78 #[.slice (some ⟨g, 0, none⟩) ps.length cap, .func (.func f) #[] cb] w fun e w' => ∃ fs : List HRow, fs = ps.filter (fun p => !q p.2) ∧ e = .returned (.slice (some ⟨g, 0, none⟩) fs.length cap) ∧ w.grownBy w' (some g) ∧ w'.ownsRow B 37 1 (.slice (some ⟨g, 0, none⟩) fs.length cap) fs.length (fs.map encP) := by
  have hrows : Rows w (fun b => ok b ∨ b = g) (some ⟨g, 0, none⟩) (ps.map Prod.snd) := by
    have h1 := rows_of (W := w) (B := B) (g := g) (cap := cap) (ok := ok) (ok' := fun b => ok b ∨ b = g) (d := ps.toArray) (by simpa using hown) (fun m hm => by
      have hm' : m < ps.length := by simpa using hm
      rw [getElem!_pos ps.toArray m hm]
      exact hgd _ (by simp)) (fun _ h => .inl h) (.inr rfl) (by simp; omega)
    simpa using h1
  have HI := Lib.hid (j_IndexR (ps.map Prod.snd) q _ _ cap f cb w hrows eg (fun r hr A c W hE hv hc => hf W (hE.grownBy _) r hr _ A c hv hc))
  rw [List.length_map] at HI
  have HG := Lib.hid (fun W (hg : w.grownBy W (some g)) p (hp : p ∈ ps) => (by
    have h := (hgd p hp).keep (ok' := ok) (fun b o x hb hc => hg.cell hc (fun e => hne b hb (Option.some.inj e))) (fun _ h => h)
    rw [h.1]
    exact hf W hg p.2 (List.mem_map_of_mem hp) _ _ _ h.2.2 h.2.1 : Calls Tryz.prog f (#[.slice p.1.A p.1.n p.1.c] ++ cb) W fun e W' => e = .returned (.bool (q p.2)) ∧ Ext W W'))
  have HO := Lib.hid hown
  have EG := Lib.hid eg
  clear hgd hf hown hrows
  cases hx : (ps.map Prod.snd).findIdx? q with
  | none =>
    have HF := Lib.hid (show ps.filter (fun p => !q p.2) = ps by
      rw [List.findIdx?_eq_none_iff] at hx
      exact List.filter_eq_self.2 (fun p hp => by rw [hx p.2 (List.mem_map_of_mem hp)]; rfl))
    rw [show idxF q (ps.map Prod.snd) = -1 by unfold idxF; rw [hx]] at HI
    rw [HF.out]
    clear hx HF HG EG
    obtain ⟨n, hn⟩ : ∃ n, n = ps.length := ⟨_, rfl⟩
    have HN := Lib.hid hn
    rw [← hn] at HI HO hl ⊢
    clear hn
    go_enter Tryz.func78, Tryz.ntmps78
    go_wp2_with (go_at_call 74; ((with_reducible refine (HI.out).mono ?_); rintro e w' ⟨rfl, hx⟩))
    go_ret
    exact ⟨ps, rfl, by rw [← HN.out]; rfl, hx.grownBy _, by rw [← HN.out]; exact own_ext HO.out hx⟩
  | some i =>
    obtain ⟨hi, h2, h3⟩ := List.findIdx?_eq_some_iff_getElem.1 hx
    rw [List.length_map] at hi
    rw [show idxF q (ps.map Prod.snd) = (i : Int) by unfold idxF; rw [hx]] at HI
    have HS := Lib.hid (show ps.take i ++ (ps.drop (i + 1)).filter (fun p => !q p.2) = ps.filter (fun p => !q p.2) by
      have e1 : ps = ps.take i ++ ps[i] :: ps.drop (i + 1) := by rw [← List.drop_eq_getElem_cons hi, List.take_append_drop]
      have e2 : (ps.take i).filter (fun p => !q p.2) = ps.take i := List.filter_eq_self.2 (fun p hp => by
        obtain ⟨j, hj, rfl⟩ := List.getElem_of_mem hp
        rw [List.length_take] at hj
        have := h3 j (by omega)
        rw [List.getElem_map] at this
        rw [List.getElem_take]
        simpa using this)
      rw [List.getElem_map] at h2
      conv => rhs; rw [e1]
      rw [List.filter_append, List.filter_cons_of_neg (by rw [h2]; simp), e2])
    have HM := Lib.hid (show ∀ p ∈ ps.drop (i + 1), p ∈ ps from fun p hp => List.mem_of_mem_drop hp)
    have HD := Lib.hid (show DelW w B g cap ps.length (ps.take i) [ps[i]] (ps.drop (i + 1)) w by
      refine ⟨World.grownBy.refl _ _, ?_, by simp; omega⟩
      have e1 : ps = ps.take i ++ ([ps[i]] ++ ps.drop (i + 1)) := by rw [List.singleton_append, ← List.drop_eq_getElem_cons hi, List.take_append_drop]
      rw [← List.map_append, ← List.map_append, ← e1]
      exact HO.out)
    have HL1 := Lib.hid (show (ps.take i).length = i by simp; omega)
    obtain ⟨n, hn⟩ : ∃ n, n = ps.length := ⟨_, rfl⟩
    have HN := Lib.hid hn
    have hnc : n ≤ cap := by rw [hn]; exact own_cap HO.out
    rw [← hn] at HI HO HD hl hi ⊢
    clear hn hx h2 h3
    generalize ps.take i = fs0 at *
    generalize ps.drop (i + 1) = rest0 at *
    generalize ps[i] = m0 at *
    have hi1 : ((i : Int) == -1) = false := by rw [beq_eq_false_iff_ne]; omega
    go_enter Tryz.func78, Tryz.ntmps78
    go_wp2_with (go_at_call 74; ((with_reducible refine (HI.out).mono ?_); rintro e w1 ⟨rfl, hx1⟩))
    clear HI hi1
    go_loopw [5, 6] (fun t u W => ∃ (k j : Nat) (fs mid rest : List HRow), t = .int .i64 k ∧ u = .int .i64 j ∧ k < j ∧ j ≤ n ∧ Hid (fs.length = k) ∧ Hid (k + mid.length = j) ∧ Hid (DelW w B g cap n fs mid rest W) ∧ Hid (fs ++ rest.filter (fun p => !q p.2) = ps.filter (fun p => !q p.2)) ∧ Hid (∀ p ∈ rest, p ∈ ps)) (fun _ u _ => n - (intOf u).toNat)
    case atStart => exact ⟨i, i + 1, fs0, [m0], rest0, rfl, by go_num, by omega, by omega, HL1, Lib.hid rfl, Lib.hid (HD.out.ext hx1), HS, HM⟩
    case round =>
      obtain ⟨k, j, fs, mid, rest, rfl, rfl, hk, hj, h1, h2, hd, hs, hm⟩ := hrel
      by_cases hlt : j < n
      · cases rest with
        | nil => exact absurd hd.out.len (by have := h1.out; have := h2.out; simp only [List.length_nil]; omega)
        | cons p rest =>
          cases mid with
          | nil => exact absurd h2.out (by simp only [List.length_nil]; omega)
          | cons m1 mid =>
            have d0 := hd.out.at_
            have e0 : fs.length + (m1 :: mid).length = j := by rw [h1.out]; exact h2.out
            rw [e0] at d0
            clear e0
            change wr.cell? _ = some (.slice p.1.A p.1.n p.1.c) at d0
            have HC := Lib.hid (fun W (e : Ext wr W) => HG.out W (grown_trans hd.out.gr (e.grownBy _)) p (hm.out p (by simp)))
            have HF := Lib.hid (hs.out)
            have HR := Lib.hid (fun x (hx : x ∈ rest) => hm.out x (List.mem_cons_of_mem _ hx))
            have HLT := Lib.hid (show fs.length = k from h1.out)
            have HL2 := Lib.hid (show k + mid.length + 1 = j by have := h2.out; simp only [List.length_cons] at this; omega)
            clear h1 h2 hs hm
            cases hq : q p.2
            · rw [hq] at HC
              have HFF := Lib.hid (show (fs ++ [p]) ++ rest.filter (fun p => !q p.2) = ps.filter (fun p => !q p.2) by rw [← HF.out, List.filter_cons_of_pos (by rw [hq]; rfl)]; simp)
              clear hq HF
              go_wp2_with fail
              refine (HC.out wr (Ext.refl _)).mono ?_
              rintro e w2 ⟨rfl, hx2⟩
              have HDT := Lib.hid (hd.out.ext hx2)
              have hfr := HDT.out.frozen k
              have d1 := hx2.cell d0
              have d2 := HDT.out.at0
              rw [HLT.out] at d2
              change w2.cell? _ = some (.slice m1.1.A m1.1.n m1.1.c) at d2
              go_wp2_with fail
              have HT := Lib.hid (show DelW w B g cap n (fs ++ [p]) (mid ++ [p]) rest (w2.setCell ⟨g, k, none⟩ (.slice p.1.A p.1.n p.1.c)) by rw [← HLT.out]; exact HDT.out.take)
              go_roundw
              case rel => exact ⟨k + 1, j + 1, fs ++ [p], mid ++ [p], rest, by go_num, by go_num, by omega, by omega, Lib.hid (by rw [List.length_append, HLT.out]; rfl), Lib.hid (by have := HL2.out; rw [List.length_append]; simp only [List.length_cons, List.length_nil]; omega), HT, HFF, HR⟩
              case measure => simp [intOf]; omega
            · rw [hq] at HC
              have HFF := Lib.hid (show fs ++ rest.filter (fun p => !q p.2) = ps.filter (fun p => !q p.2) by rw [← HF.out, List.filter_cons_of_neg (by rw [hq]; simp)])
              clear hq HF
              go_wp2_with fail
              refine (HC.out wr (Ext.refl _)).mono ?_
              rintro e w2 ⟨rfl, hx2⟩
              have HDT := Lib.hid ((hd.out.ext hx2).skip)
              go_wp2_with fail
              go_roundw
              case rel => exact ⟨k, j + 1, fs, m1 :: mid ++ [p], rest, rfl, by go_num, by omega, by omega, HLT, Lib.hid (by have := HL2.out; rw [List.length_append]; simp only [List.length_cons, List.length_nil]; omega), HDT, HFF, HR⟩
              case measure => simp [intOf]; omega
      · cases rest with
        | cons p rest => exact absurd hd.out.len (by have := h1.out; have := h2.out; simp only [List.length_cons]; omega)
        | nil =>
          obtain ⟨W', hcl, hgr, how⟩ := hd.out.cleared (by have := h2.out; omega)
          rw [h1.out, show mid.length = n - k by have := h2.out; omega] at hcl
          rw [h1.out] at how
          have HW := Lib.hid how
          have HGR := Lib.hid hgr
          have HFS := Lib.hid (show fs = ps.filter (fun p => !q p.2) by rw [← hs.out]; simp)
          have HL := h1
          clear how hgr hd hs hm h1 h2
          go_wp2_with fail
          go_ret
          exact ⟨fs, HFS.out, by rw [HL.out]; rfl, HGR.out, by rw [HL.out]; exact HW.out⟩
end Go.Proofs.YtbjddimafilflaaGreatDoor
