/- PARTS OF THE WALKS, joined: Jh, Ka, Kb, Kd. -/
import Derived.Test.YtbjddimafilflaaGreatDoorV15
import Derived.OneCell
import Derived.Test.YtbjddimafilflaaGreatDoorV14
import Derived.Deep.RegionHeld3
/- THE WALKS over join.begin and joiner.columns. -/
namespace Go.Proofs.YtbjddimafilflaaGreatDoor
open Go.RowKit Go.Sort
def intV (i : Nat) : Value := .int .i64 (i : Int)
theorem own_grown {w w' : World} {base e size n : Nat} {v : Value} {xs : List Value} {row : Option Nat} (h : w.ownsRow base e size v n xs) (hg : w.grownBy w' row) (hne : ∀ g, v.ownBlock = some g → row ≠ some g) : w'.ownsRow base e size v n xs := by
  refine ⟨h.1, h.2.imp id (fun ⟨g, cap, cur, h1, h2, h3, h4⟩ => ⟨g, cap, cur, h1, h2, ?_, h4⟩)⟩
  subst h1
  refine (hg.block g ?_ (fun e => hne g rfl e.symm)).trans h3
  rcases Nat.lt_or_ge g w.heap.size with hlt | hge
  · exact hlt
  · rw [Array.getElem?_eq_none hge] at h3; cases h3
/-- three things by number -/
def t3 {α : Type} (x y z : α) : Nat → α
  | 0 => x
  | 1 => y
  | _ => z
def upd {α : Type} (f : Nat → α) (i : Nat) (x : α) (j : Nat) : α := if j = i then x else f j
theorem frozen_grown {W W' : World} {row : Option Nat} (hg : W.grownBy W' row) {b : Nat} {x : Value} {i : Nat} (hc : W.cell? ⟨b, i, none⟩ = some x) (hne : row ≠ some b) (j : Nat) (h : W.frozen? ⟨b, j, none⟩ = false) : W'.frozen? ⟨b, j, none⟩ = false := by
  have hb := hg.block b (block_lt_of_cell hc) (fun e => hne e.symm)
  unfold World.frozen? at h ⊢
  rw [hb]; exact h
/-- the joiner that is being built in block q: three rows of numbers, each in its own block; its cells 4, 5, 6 hold cv -/
structure BegW (w5 : World) (q : Nat) (cv v : Nat → Value) (ls : Nat → List Nat) (W : World) : Prop where
  gr : w5.grownBy W (some q)
  hq : q < w5.heap.size
  own : ∀ i, i < 3 → W.ownsRow w5.heap.size 3 1 (v i) (ls i).length ((ls i).map intV)
  d : ∀ i j, i < 3 → j < 3 → i ≠ j → ∀ g, (v i).ownBlock = some g → (v j).ownBlock ≠ some g
  cel : ∀ i, i < 3 → W.cell? ⟨q, 4 + i, none⟩ = some (cv i)
  fz : ∀ i, W.frozen? ⟨q, i, none⟩ = false
  c : ∀ i x, i < 4 → w5.cell? ⟨q, i, none⟩ = some x → W.cell? ⟨q, i, none⟩ = some x
section
variable {w5 W W' : World} {q : Nat} {cv v : Nat → Value} {ls : Nat → List Nat}
theorem BegW.notq (h : BegW w5 q cv v ls W) {i : Nat} (hi : i < 3) : (v i).ownBlock ≠ some q := fun e => by
  have := ((h.own i hi).lt q e).1
  have := h.hq
  omega
theorem BegW.ext (h : BegW w5 q cv v ls W) (e : Ext W W') : BegW w5 q cv v ls W' :=
  ⟨grown_trans h.gr (e.grownBy _), h.hq, fun i hi => own_ext (h.own i hi) e, h.d, fun i hi => e.cell (h.cel i hi), fun i => frozen_grown (e.grownBy none) (h.cel 0 (by decide)) (fun e => by cases e) i (h.fz i), fun i x hi hx => e.cell (h.c i x hi hx)⟩
theorem BegW.grow (h : BegW w5 q cv v ls W) {i k : Nat} {x : Value} (hi : i < 3) (hg : W.grownBy W' (v i).ownBlock) (hO : W'.ownsRow w5.heap.size 3 1 x ((ls i).length + 1) ((ls i).map intV ++ [intV k])) (hb : x.ownBlock = (v i).ownBlock ∨ x.ownBlock = some W.heap.size) :
    BegW w5 q cv (upd v i x) (upd ls i (ls i ++ [k])) W' := by
  have hnq := h.notq hi
  refine ⟨⟨hg.os.trans h.gr.os, hg.tape.trans h.gr.tape, hg.output.trans h.gr.output, Nat.le_trans h.gr.size hg.size, fun j hj hne => ?_⟩, h.hq, fun j hj => ?_, fun j k' hj hk' hjk g e1 e2 => ?_, fun j hj => hg.cell (h.cel j hj) (fun e => hnq e.symm), fun j => frozen_grown hg (h.cel 0 (by decide)) hnq j (h.fz j), fun j x hj hx => hg.cell (h.c j x hj hx) (fun e => hnq e.symm)⟩
  · exact (hg.block j (Nat.lt_of_lt_of_le hj h.gr.size) (fun e => by have := ((h.own i hi).lt j e.symm).1; omega)).trans (h.gr.block j hj hne)
  · unfold upd
    by_cases hji : j = i
    · rw [if_pos hji, if_pos hji, List.length_append, List.map_append]; exact hO
    · rw [if_neg hji, if_neg hji]
      exact own_grown (h.own j hj) hg (fun g e1 e2 => h.d j i hj hi hji g e1 e2)
  · unfold upd at e1 e2
    by_cases h1 : j = i
    · have h2 : k' ≠ i := fun e => hjk (h1.trans e.symm)
      rw [if_pos h1] at e1
      rw [if_neg h2] at e2
      rcases hb with e | e
      · exact h.d i k' hi hk' (Ne.symm h2) g (e ▸ e1) e2
      · rw [e] at e1
        cases e1
        exact absurd ((h.own k' hk').lt _ e2).2 (by omega)
    · rw [if_neg h1] at e1
      by_cases h2 : k' = i
      · rw [if_pos h2] at e2
        rcases hb with e | e
        · exact h.d j i hj hi h1 g e1 (e ▸ e2)
        · rw [e] at e2
          cases e2
          exact absurd ((h.own j hj).lt _ e1).2 (by omega)
      · rw [if_neg h2] at e2
        exact h.d j k' hj hk' hjk g e1 e2
theorem BegW.store (h : BegW w5 q cv v ls W) {i : Nat} (hi : i < 3) (x : Value) : BegW w5 q (upd cv i x) v ls (W.setCell ⟨q, 4 + i, none⟩ x) := by
  refine ⟨⟨h.gr.os, h.gr.tape, h.gr.output, by simpa using h.gr.size, fun j hj hne => ?_⟩, h.hq, fun j hj => ownsRow_setCell_other (h.own j hj) (h.notq hj) _, h.d, fun j hj => ?_, fun j => by rw [World.frozen?_setCell]; exact h.fz j, fun j y hj hy => ?_⟩
  · exact (Below.heap_setCell W _ _ j (fun e => hne (by rw [e]))).trans (h.gr.block j hj hne)
  · unfold upd
    by_cases hji : j = i
    · subst hji
      rw [if_pos rfl]
      exact World.cell?_setCell_same' _ _ _ (by rw [h.cel j hj]; rfl)
    · rw [if_neg hji, World.cell?_setCell_other _ _ _ _ (by intro e; injection e with _ e2; omega)]
      exact h.cel j hj
  · rw [World.cell?_setCell_other _ _ _ _ (by intro e; injection e with _ e2; omega)]
    exact h.c j y hj hy
end
theorem step_pushN {ops : Array Oper} {o : Oper} {a : Act} {w : World} {K : Act → World → Prop} {Q : Exit → Act → World → Prop} {E : Prop} (hg : o.guard = none) (s x : Operand)
    (ho : o.op = .call { callee := .builtin .append, args := #[s, x], argTypes := #[61, 61] }) (base : Nat) (v : Value) (n : Nat) (xs : List Value) (y : Value) (hs : a.eval s = v) (hown : w.ownsRow base 3 1 v n xs) (ad : Addr) (hx : a.eval x = .slice (some ad) 1 1) (hy : w.cell? ad = some y) (h1 : y.oneCell' = true) (h63 : n ≤ 8000000) (hb : base ≤ w.heap.size)
    (hK : ∀ v' w', w'.ownsRow base 3 1 v' (n + 1) (xs ++ [y]) → w.grownBy w' v.ownBlock → (v'.ownBlock = v.ownBlock ∨ v'.ownBlock = some w.heap.size) → K (a.put o.dst v') w') : if Region.wanted o (yielded ops a.tmps) = true then Oper.wp Tryz.prog o a w K Q else E := by
  obtain ⟨z, hz, hzc⟩ := T_int.hi
  obtain ⟨i, hi, hz0, hz1, hz2⟩ := info_parts hz
  obtain ⟨v', w', hr, k2, k3, -, k5⟩ := run_append_own_at (P := Tryz.prog) w base 61 o.type 3 i z 1 8 T_int.ht hi hz0 hz1 hz2 hzc T_int.hs v n xs hown ad 1 1 [y] rfl (fun j u hj => by
    match j, hj with
    | 0, hj => simp at hj; rw [← hj, show ad.add 0 = ad by cases ad; simp [Addr.add]]; exact hy) (fun u hu => by rw [List.mem_singleton.1 hu]; exact h1) (by unfold maxLen; omega) (by omega) hb
  exact step_append_run' hg s x _ _ ho v _ hs hx hr (hK v' w' k2 k3 k5)
theorem own_pushN {ops : Array Oper} {rest : List Oper} {o : Oper} {a : Act} {w : World} {Q : Exit → Act → World → Prop} (hg : o.guard = none) (s x : Operand)
    (ho : o.op = .call { callee := .builtin .append, args := #[s, x], argTypes := #[61, 61] }) (base : Nat) (v : Value) (n : Nat) (xs : List Value) (y : Value) (hs : a.eval s = v) (hown : w.ownsRow base 3 1 v n xs) (ad : Addr) (hx : a.eval x = .slice (some ad) 1 1) (hy : w.cell? ad = some y) (h1 : y.oneCell' = true) (h63 : n ≤ 8000000) (hb : base ≤ w.heap.size)
    (hK : ∀ v' w', w'.ownsRow base 3 1 v' (n + 1) (xs ++ [y]) → w.grownBy w' v.ownBlock → (v'.ownBlock = v.ownBlock ∨ v'.ownBlock = some w.heap.size) → wpList Tryz.prog ops Q rest (a.put o.dst v') w') : wpList Tryz.prog ops Q (o :: rest) a w := by
  obtain ⟨z, hz, hzc⟩ := T_int.hi
  obtain ⟨i, hi, hz0, hz1, hz2⟩ := info_parts hz
  obtain ⟨v', w', hr, k2, k3, -, k5⟩ := run_append_own_at (P := Tryz.prog) w base 61 o.type 3 i z 1 8 T_int.ht hi hz0 hz1 hz2 hzc T_int.hs v n xs hown ad 1 1 [y] rfl (fun j u hj => by
    match j, hj with
    | 0, hj => simp at hj; rw [← hj, show ad.add 0 = ad by cases ad; simp [Addr.add]]; exact hy) (fun u hu => by rw [List.mem_singleton.1 hu]; exact h1) (by unfold maxLen; omega) (by omega) hb
  refine wpList_plain hg fun _ hk => ?_
  unfold Oper.wp execOp
  simp only [ho, resolve, invoke, builtin, Sem.run_bind, Sem.run_pure, Result.andThen_ok, List.map_toArray, List.map_cons, List.map_nil, hs, hx, hr]
  exact hk _ _ (hK v' w' k2 k3 k5)
end Go.Proofs.YtbjddimafilflaaGreatDoor

/- THE WALKS over the reference's column, Check and both. -/
namespace Go.Proofs.YtbjddimafilflaaGreatDoor
open Go.RowKit Go.Sort
set_option maxRecDepth 100000 in
theorem r_column (l : List ByteArray) (s : ByteArray) (ok : Nat → Prop) (A : Option Addr) (c : Nat) (w : World) (hv : Strs w ok A l) :
    Calls Tryz.prog 28 #[.slice A l.length c, .string s] w fun e w' => e = .returned (.int .i64 (idxF (fun t => decide (s = t)) l)) ∧ Ext w w' := by
  have hm := hv.len
  have HV := Lib.hid hv
  have HY := Lib.hid (fun h => idxF_none (p := fun t => decide (s = t)) (l := l) h)
  have HB := Lib.hid (fun i (hi : i < l.length) h1 h2 => idxF_at (p := fun t => decide (s = t)) i hi h1 h2)
  obtain ⟨R, hR⟩ : ∃ R, R = idxF (fun t => decide (s = t)) l := ⟨_, rfl⟩
  rw [← hR] at HY HB ⊢
  clear hv hR
  go_enter Tryz.func28, Tryz.ntmps28
  go_wp2_with fail
  go_loopw [5] (fun u W => ∃ k : Nat, u = .int .i64 k ∧ k ≤ l.length ∧ Hid (∀ i (hi : i < l.length), i < k → decide (s = l[i]) = false) ∧ Ext w W) (fun u _ => l.length - (intOf u).toNat)
  case atStart => exact ⟨0, rfl, Nat.zero_le _, Lib.hid (fun i _ hi => absurd hi (Nat.not_lt_zero _)), Ext.refl _⟩
  case round =>
    obtain ⟨k, rfl, hk, hgd, hE⟩ := hrel
    by_cases hlt : k < l.length
    · obtain ⟨b, o, rfl, hc⟩ := HV.out.2 (by omega)
      have h5 := (hc k hlt).2
      rw [Nat.mul_one] at h5
      have d0 := hE.cell h5
      have HS := Lib.hid (fun (h : decide (s = l[k]) = false) i hi (hj : i < k + 1) => (if e : i = k then (by subst e; exact h) else hgd.out i hi (by omega) : decide (s = l[i]) = false))
      have HB' := Lib.hid (HB.out k hlt hgd.out)
      clear hc h5 HB hgd
      generalize l[k] = x at *
      by_cases hq : s = x
      · have HT := Lib.hid (HB'.out (decide_eq_true hq))
        have hq2 := str_eq hq.symm
        clear hq
        go_wp2_with fail
        go_ret
        exact ⟨ret_int HT.out.symm, hE⟩
      · have HT := Lib.hid (HS.out (decide_eq_false hq))
        have hq2 := str_ne (fun e => hq e.symm)
        clear hq
        go_wp2_with fail
        go_roundw
        case rel => exact ⟨k + 1, by go_num, by omega, HT, hE⟩
        case measure => simp [intOf]; omega
    · have HT := Lib.hid (HY.out (fun i hi => hgd.out i hi (by omega)))
      go_wp2_with fail
      go_ret
      exact ⟨ret_int HT.out.symm, hE⟩
theorem idxF_take {l : List ByteArray} {k : Nat} (hk : k < l.length) : 0 ≤ idxF (fun t => decide (l[k] = t)) (l.take k) ↔ l[k] ∈ l.take k := by
  rw [idxF_pos]
  cases h : posJ (l.take k) l[k] with
  | none => exact ⟨fun h1 => absurd h1 (by decide), fun h1 => absurd h1 (posJ_none.1 h)⟩
  | some i =>
    obtain ⟨h1, h2⟩ := posJ_some h
    refine ⟨fun _ => ?_, fun _ => Int.natCast_nonneg i⟩
    rw [← h2, getElem!_pos _ i h1]; exact List.getElem_mem h1
theorem nodup_take {l : List ByteArray} {k : Nat} (hk : k < l.length) (h : (l.take k).Nodup) (h2 : l[k] ∉ l.take k) : (l.take (k + 1)).Nodup := by
  rw [List.take_succ_eq_append_getElem hk, List.nodup_append]
  refine ⟨h, by simp, fun a ha b hb => ?_⟩
  rw [List.mem_singleton.1 hb]
  exact fun e => h2 (e ▸ ha)
theorem not_nodup_take {l : List ByteArray} {k : Nat} (hk : k < l.length) (h2 : l[k] ∈ l.take k) : ¬ l.Nodup := fun h => by
  obtain ⟨j, hj, e⟩ := List.getElem_of_mem h2
  rw [List.length_take] at hj
  rw [List.getElem_take] at e
  have := (List.getElem_inj h).1 e
  omega
set_option maxRecDepth 100000 in
set_option maxHeartbeats 1600000 in
theorem r_Check (t : Tab) (ok : Nat → Prop) (A B : Option Addr) (c d : Nat) (w : World) (hv : TabAt w ok A B t) (hcp : t.cols.length ≤ c) :
    Calls Tryz.prog 10 #[.agg #[.slice A t.cols.length c, .slice B t.rows.length d]] w fun e w' => e = .returned (.int .i64 (chkT t)) ∧ Ext w w' := by
  obtain ⟨q, hq⟩ : ∃ q, q = w.heap.size := ⟨_, rfl⟩
  obtain ⟨w1, hw1⟩ : ∃ w1, w1 = w.alloc (.cells #[.slice A t.cols.length c, .slice B t.rows.length d] 25) := ⟨_, rfl⟩
  have hx1 : Ext w w1 := by rw [hw1]; exact (Ext.refl _).alloc _
  have q0 : w1.cell? ⟨q, 0, none⟩ = some (.slice A t.cols.length c) := by rw [hw1, hq, cell_of_row _ _ _ _ _ _ (heap_alloc_new w _)]; rfl
  have q1 : w1.cell? ⟨q, 1, none⟩ = some (.slice B t.rows.length d) := by rw [hw1, hq, cell_of_row _ _ _ _ _ _ (heap_alloc_new w _)]; rfl
  have HT := Lib.hid (fun h => chkT_twice (t := t) h)
  have HA := Lib.hid (fun h r hr h2 => chkT_arg (t := t) h (r := r) hr h2)
  have HO := Lib.hid (fun h h2 => chkT_ok (t := t) h h2)
  have HC := Lib.hid (hv.cols.ext hx1)
  have HR := Lib.hid (hv.rows.ext hx1)
  have hm1 := hv.cols.len
  have hm2 := hv.rows.len
  have MK := Lib.hid (fun V (e : Ext w1 V) => (⟨e.cell q0, e.cell q1, e⟩ : V.cell? ⟨q, 0, none⟩ = some (.slice A t.cols.length c) ∧ V.cell? ⟨q, 1, none⟩ = some (.slice B t.rows.length d) ∧ Ext w1 V))
  obtain ⟨l, hl'⟩ : ∃ l, l = t.cols := ⟨_, rfl⟩
  obtain ⟨rs, hr'⟩ : ∃ rs, rs = t.rows := ⟨_, rfl⟩
  obtain ⟨R, hR⟩ : ∃ R, R = chkT t := ⟨_, rfl⟩
  have HW1 := Lib.hid hw1
  have HG := Lib.hid hq
  rw [← hl'] at HT HA HO HC HW1 MK hcp hm1 q0 ⊢
  rw [← hr'] at HA HO HR HW1 MK hm2 q1 ⊢
  rw [← hR] at HT HA HO ⊢
  clear hl' hr' hR hv hw1 hq
  go_enter Tryz.func10, Tryz.ntmps10
  go_upto_region 1 with (fail)
  rw [← HW1.out, ← HG.out]
  clear HW1 HG
  go_wp2_with fail
  go_loopw [3] (fun u W => ∃ k : Nat, u = .int .i64 k ∧ k ≤ l.length ∧ Hid ((l.take k).Nodup) ∧ Ext w1 W) (fun u _ => l.length - (intOf u).toNat)
  case atStart => exact ⟨0, rfl, Nat.zero_le _, Lib.hid (by simp), Ext.refl _⟩
  case round =>
    obtain ⟨k, rfl, hk, hnd, hE⟩ := hrel
    have s0 := hE.cell q0
    have s1 := hE.cell q1
    by_cases hlt : k < l.length
    · obtain ⟨b, o, rfl, hc⟩ := HC.out.2 (by omega)
      have h5 := (hc k hlt).2
      rw [Nat.mul_one] at h5
      have d0 := hE.cell h5
      have hkl : (l.take k).length = k := by rw [List.length_take]; omega
      have HX := Lib.hid (fun W (e : Ext wr W) => r_column (l.take k) l[k] ok (some ⟨b, o, none⟩) c W (Strs.ext (SliceR.take HC.out k) (hE.trans e)))
      rw [hkl] at HX
      have HI := Lib.hid (idxF_take hlt)
      have HN1 := Lib.hid (fun h => HT.out (not_nodup_take hlt h))
      have HN2 := Lib.hid (fun h => nodup_take hlt hnd.out h)
      have MK2 := Lib.hid (fun V (e : Ext wr V) => (⟨MK.out V (hE.trans e), e.cell d0⟩ : (V.cell? ⟨q, 0, none⟩ = some (.slice (some ⟨b, o, none⟩) l.length c) ∧ V.cell? ⟨q, 1, none⟩ = some (.slice B rs.length d) ∧ Ext w1 V) ∧ V.cell? ⟨b, o + k, none⟩ = some (.string l[k])))
      clear hc h5 hkl hnd HT
      generalize l[k] = x at *
      generalize hz : idxF (fun t => decide (x = t)) (l.take k) = z at *
      clear hz
      have hkc : k ≤ c := by omega
      clear q0 q1 s1 MK
      go_upto_region 4 with (fail)
      go_region_held3 (fun V => (V.cell? ⟨q, 0, none⟩ = some (.slice (some ⟨b, o, none⟩) l.length c) ∧ V.cell? ⟨q, 1, none⟩ = some (.slice B rs.length d) ∧ Ext w1 V) ∧ V.cell? ⟨b, o + k, none⟩ = some (.string x)) ((exact MK2.out _ (by repeat (first | with_reducible exact Ext.refl _ | with_reducible assumption | with_reducible refine Ext.drew ?_ | with_reducible refine Ext.drewN ?_ _ | with_reducible refine Ext.alloc ?_ _)))) ((with_reducible refine (HX.out _ (by repeat (first | with_reducible exact Ext.refl _ | with_reducible assumption | with_reducible refine Ext.drew ?_ | with_reducible refine Ext.drewN ?_ _ | with_reducible refine Ext.alloc ?_ _))).mono ?_; rintro e w2 ⟨rfl, hx2⟩; replace hx2 : Ext wr w2 := Ext.trans (by repeat (first | with_reducible exact Ext.refl _ | with_reducible assumption | with_reducible refine Ext.drew ?_ | with_reducible refine Ext.drewN ?_ _ | with_reducible refine Ext.alloc ?_ _)) hx2))
      clear HX MK2
      obtain ⟨⟨h0, h1, -⟩, -⟩ := ‹_ ∧ _›
      have hE2 := hE.trans hx2
      by_cases hz : 0 ≤ z
      · have HX := Lib.hid (HN1.out (HI.out.1 hz))
        go_wp2_with fail
        go_ret
        exact ⟨ret_int HX.out.symm, hx1.trans hE2⟩
      · have HN := Lib.hid (HN2.out (fun h => hz (HI.out.2 h)))
        go_wp2_with fail
        go_roundw
        case rel => exact ⟨k + 1, by go_num, by omega, HN, hE2⟩
        case measure => simp [intOf]; omega
    · have HD := Lib.hid (show l.Nodup by have := hnd.out; rwa [List.take_of_length_le (by omega)] at this)
      clear HT hnd
      go_wp2_with fail
      go_loopw [4] (fun u V => ∃ j : Nat, u = .int .i64 j ∧ j ≤ rs.length ∧ Hid (∀ i (hi : i < rs.length), i < j → rs[i].length = l.length) ∧ Ext w1 V) (fun u _ => rs.length - (intOf u).toNat)
      case atStart => exact ⟨0, rfl, Nat.zero_le _, Lib.hid (fun i _ hi => absurd hi (Nat.not_lt_zero _)), hE⟩
      case round =>
        obtain ⟨j, rfl, hj, hgd, hE2⟩ := hrel
        clear s0 s1
        have s0 := hE2.cell q0
        have s1 := hE2.cell q1
        by_cases hjl : j < rs.length
        · obtain ⟨b, o, rfl, hc⟩ := HR.out.2 (by omega)
          obtain ⟨-, A2, c2, h5, -, -⟩ := hc j hjl
          rw [Nat.mul_one] at h5
          have d0 := hE2.cell h5
          have HAG := Lib.hid (HA.out HD.out rs[j] (List.getElem_mem hjl))
          have HST := Lib.hid (fun (h : rs[j].length = l.length) i hi (hi2 : i < j + 1) => (if e : i = j then (by subst e; exact h) else hgd.out i hi (by omega) : rs[i].length = l.length))
          clear hc h5 hgd
          generalize rs[j] = x at *
          by_cases hxl : x.length = l.length
          · have HS2 := Lib.hid (HST.out hxl)
            have hxd : (x.length : Int) = (l.length : Int) := by omega
            clear hxl
            go_upto_region 9 with (fail)
            (have MKR1 := Lib.hid (fun V (e : Ext wr V) => (⟨e.cell s0, e.cell s1, e.cell d0, e⟩ : V.cell? ⟨q, 0, none⟩ = some (.slice A l.length c) ∧ V.cell? ⟨q, 1, none⟩ = some (.slice (some ⟨b, o, none⟩) rs.length d) ∧ V.cell? ⟨b, o + j, none⟩ = some (.slice A2 x.length c2) ∧ Ext wr V)); go_region_held3 (fun V => V.cell? ⟨q, 0, none⟩ = some (.slice A l.length c) ∧ V.cell? ⟨q, 1, none⟩ = some (.slice (some ⟨b, o, none⟩) rs.length d) ∧ V.cell? ⟨b, o + j, none⟩ = some (.slice A2 x.length c2) ∧ Ext wr V) ((exact MKR1.out _ (by repeat (first | with_reducible exact Ext.refl _ | with_reducible assumption | with_reducible refine Ext.drew ?_ | with_reducible refine Ext.drewN ?_ _ | with_reducible refine Ext.alloc ?_ _)))) ((fail)); clear MKR1)
            go_wp2_with fail
            go_roundw
            case rel => exact ⟨j + 1, by go_num, by omega, HS2, hE2.drew⟩
            case measure => simp [intOf]; omega
          · have HX := Lib.hid (HAG.out hxl)
            have hxd : ¬ (x.length : Int) = (l.length : Int) := by omega
            clear hxl
            go_upto_region 9 with (fail)
            (have MKR2 := Lib.hid (fun V (e : Ext wr V) => (⟨e.cell s0, e.cell s1, e.cell d0, e⟩ : V.cell? ⟨q, 0, none⟩ = some (.slice A l.length c) ∧ V.cell? ⟨q, 1, none⟩ = some (.slice (some ⟨b, o, none⟩) rs.length d) ∧ V.cell? ⟨b, o + j, none⟩ = some (.slice A2 x.length c2) ∧ Ext wr V)); go_region_held3 (fun V => V.cell? ⟨q, 0, none⟩ = some (.slice A l.length c) ∧ V.cell? ⟨q, 1, none⟩ = some (.slice (some ⟨b, o, none⟩) rs.length d) ∧ V.cell? ⟨b, o + j, none⟩ = some (.slice A2 x.length c2) ∧ Ext wr V) ((exact MKR2.out _ (by repeat (first | with_reducible exact Ext.refl _ | with_reducible assumption | with_reducible refine Ext.drew ?_ | with_reducible refine Ext.drewN ?_ _ | with_reducible refine Ext.alloc ?_ _)))) ((fail)); clear MKR2)
            go_wp2_with fail
            go_ret
            exact ⟨ret_int HX.out.symm, hx1.trans hE2.drew⟩
        · have HX := Lib.hid (HO.out HD.out (fun r hr => by
            obtain ⟨i, hi, rfl⟩ := List.getElem_of_mem hr
            exact hgd.out i hi (by omega)))
          go_wp2_with fail
          go_ret
          exact ⟨ret_int HX.out.symm, hx1.trans hE2⟩
end Go.Proofs.YtbjddimafilflaaGreatDoor

/- THE WALK over the reference's agree. -/
namespace Go.Proofs.YtbjddimafilflaaGreatDoor
open Go.RowKit Go.Sort
theorem szV_null : szV nullV := szV_iff.2 ⟨by decide, trivial⟩
end Go.Proofs.YtbjddimafilflaaGreatDoor

/- THE WALKS over the reference's pairs and Natural. -/
namespace Go.Proofs.YtbjddimafilflaaGreatDoor
open Go.RowKit Go.Sort
/-- the rows found so far -/
def accR (a b : Tab) (k j : Nat) : List (List Val) := ((a.rows.take k).flatMap fun x => (b.rows.filter (agreeJ a.cols b.cols x)).map fun y => x ++ restJ a.cols b.cols y) ++ (((b.rows.take j).filter (agreeJ a.cols b.cols a.rows[k]!)).map fun y => a.rows[k]! ++ restJ a.cols b.cols y)
theorem accR_end (a b : Tab) : accR a b a.rows.length 0 = natR a b := by
  unfold accR natR
  rw [List.take_length]
  simp
theorem flatMap_len {α β : Type} (f : α → List β) (m : Nat) : ∀ l : List α, (∀ x ∈ l, (f x).length ≤ m) → (l.flatMap f).length ≤ l.length * m
  | [], _ => by simp
  | x :: l, h => by
    rw [List.flatMap_cons, List.length_append, List.length_cons, Nat.succ_mul]
    have h1 := h x (by simp)
    have h2 := flatMap_len f m l (fun y hy => h y (by simp [hy]))
    omega
theorem accR_len (a b : Tab) (k j : Nat) : (accR a b k j).length ≤ k * b.rows.length + j := by
  unfold accR
  rw [List.length_append, List.length_map]
  have h1 := flatMap_len (fun x => (b.rows.filter (agreeJ a.cols b.cols x)).map fun y => x ++ restJ a.cols b.cols y) b.rows.length (a.rows.take k) (fun x _ => by rw [List.length_map]; exact List.length_filter_le _ _)
  have h2 := List.length_filter_le (agreeJ a.cols b.cols a.rows[k]!) (b.rows.take j)
  rw [List.length_take] at h1 h2
  have h3 : min k a.rows.length * b.rows.length ≤ k * b.rows.length := Nat.mul_le_mul_right _ (Nat.min_le_left _ _)
  have h4 : min j b.rows.length ≤ j := Nat.min_le_left _ _
  omega
theorem accR_small {a b : Tab} {k j : Nat} (hk : k ≤ 2000) (hb : b.rows.length ≤ 2000) (hj : j ≤ 2000) : (accR a b k j).length ≤ 4002000 := by
  have h1 := accR_len a b k j
  have h2 : k * b.rows.length ≤ 2000 * 2000 := Nat.mul_le_mul hk hb
  omega
end Go.Proofs.YtbjddimafilflaaGreatDoor
