/- PARTS OF THE WALKS, joined: OwnS, Jf, Jg, Stage. -/
import Derived.Test.YtbjddimafilflaaGreatDoorV14
import Derived.Deep.RegionHeld3
import Derived.Test.YtbjddimafilflaaGreatDoorV00
import Derived.Deep.RegionHeld
/- AN APPEND TO COLLECTED ROWS INSIDE A DRAWN REGION; boxes for a table that is returned. -/
namespace Go.Proofs.YtbjddimafilflaaGreatDoor
open Go.RowKit Go.Sort
theorem run_pushR (ty : TypeId) {w : World} (base : Nat) (ok0 : Nat → Prop) (w0 : World) (v : Value) (acc : List (List Val)) (r : List Val) (A : Option Addr) (c : Nat) (hown : OwnRows w0 base ok0 v acc) (hb : base ≤ w0.heap.size)
    (hw : w = w0.alloc (.cells #[.slice A r.length c] 37)) (hrc : r.length ≤ c) (hp : Vals w0 (fun b => ok0 b ∧ some b ≠ v.ownBlock) A r) (h63 : acc.length ≤ 8000000) :
    ∃ v' w', (Builtin.append_ #[23, 23] ty #[v, .slice (some ⟨w0.heap.size, 0, none⟩) 1 1]).run Tryz.prog w = .ok v' w' ∧ OwnRows w' base ok0 v' (acc ++ [r]) ∧ w0.grownBy w' v.ownBlock := by
  obtain ⟨ps, h1, h2, h3⟩ := hown
  obtain ⟨z, hz, hzc⟩ := T_row.hi
  obtain ⟨i, hi, hz0, hz1, hz2⟩ := info_parts hz
  have hpl : ps.length = acc.length := by rw [← h1, List.length_map]
  subst hw
  obtain ⟨v', w', hr, k2, k3, -, k5⟩ := run_append_own_at (P := Tryz.prog) (w0.alloc (.cells #[.slice A r.length c] 37)) base 23 ty 37 i z 1 24 T_row.ht hi hz0 hz1 hz2 hzc T_row.hs v ps.length (ps.map encP) (h2.alloc _) ⟨w0.heap.size, 0, none⟩ 1 1 [.slice A r.length c] rfl (fun j u hj => by
    rw [Addr.add_mid, cell_of_row _ _ _ _ _ _ (heap_alloc_new w0 _)]
    simpa using hj) (fun u hu => by rw [List.mem_singleton.1 hu]; rfl) (by unfold maxLen; omega) (by omega) (Nat.le_trans hb (by simp))
  have hcell : ∀ b o x, (some b ≠ v.ownBlock) → w0.cell? ⟨b, o, none⟩ = some x → w'.cell? ⟨b, o, none⟩ = some x ∧ some b ≠ v'.ownBlock := fun b o x hb hc => by
    have hlt : b < w0.heap.size := block_lt_of_cell hc
    have hc2 : (w0.alloc (.cells #[.slice A r.length c] 37)).cell? ⟨b, o, none⟩ = some x := (World.cell?_alloc_lt w0 _ ⟨b, o, none⟩ hlt).trans hc
    refine ⟨(World.cell?_of_block (k3.block b (by simp; omega) hb)).trans hc2, ?_⟩
    rcases k5 with e | e
    · rw [e]; exact hb
    · rw [e]
      intro e2
      injection e2 with e2
      simp at e2; omega
  refine ⟨v', w', hr, ⟨ps ++ [(⟨A, r.length, c⟩, r)], by rw [List.map_append, h1]; rfl, ?_, fun p hq => ?_⟩, ?_⟩
  · rw [List.length_append, List.map_append]; exact k2
  · rcases List.mem_append.1 hq with hq | hq
    · exact (h3 p hq).keep' (fun b o x hb hc => ⟨(hcell b o x hb.2 hc).1, hb.1, (hcell b o x hb.2 hc).2⟩)
    · rw [List.mem_singleton.1 hq]
      exact ⟨rfl, hrc, hp.keep' (fun b o x hb hc => ⟨(hcell b o x hb.2 hc).1, hb.1, (hcell b o x hb.2 hc).2⟩)⟩
  · exact ⟨k3.os, k3.tape, k3.output, Nat.le_trans (by simp) k3.size, fun b hb hne => (k3.block b (by simp; omega) hne).trans (((Ext.refl w0).alloc _).block b hb)⟩
theorem step_pushR {ops : Array Oper} {o : Oper} {a : Act} {w : World} {K : Act → World → Prop} {Q : Exit → Act → World → Prop} {E : Prop} (hg : o.guard = none) (s x : Operand)
    (ho : o.op = .call { callee := .builtin .append, args := #[s, x], argTypes := #[23, 23] }) (base : Nat) (ok0 : Nat → Prop) (w0 : World) (v : Value) (acc : List (List Val)) (r : List Val) (A : Option Addr) (c : Nat) (hs : a.eval s = v) (hown : OwnRows w0 base ok0 v acc) (hb : base ≤ w0.heap.size)
    (hw : w = w0.alloc (.cells #[.slice A r.length c] 37)) (hx : a.eval x = .slice (some ⟨w0.heap.size, 0, none⟩) 1 1) (hrc : r.length ≤ c) (hp : Vals w0 (fun b => ok0 b ∧ some b ≠ v.ownBlock) A r) (h63 : acc.length ≤ 8000000)
    (hK : ∀ v' w', OwnRows w' base ok0 v' (acc ++ [r]) → w0.grownBy w' v.ownBlock → K (a.put o.dst v') w') : if Region.wanted o (yielded ops a.tmps) = true then Oper.wp Tryz.prog o a w K Q else E := by
  obtain ⟨v', w', hr, h1, h2⟩ := run_pushR o.type base ok0 w0 v acc r A c hown hb hw hrc hp h63
  exact step_append_run' hg s x _ _ ho v _ hs hx hr (hK v' w' h1 h2)
/-- a result of two slices: its block, and what lies there after any calls -/
theorem box_res (w : World) (t : TypeId) : ∃ (q : Nat) (w1 : World), q = w.heap.size ∧ w1 = w.alloc (.cells #[.slice none 0 0, .slice none 0 0] t) ∧ Ext w w1 ∧ w.heap.size ≤ q ∧ ∀ W, Ext w1 W → W.cell? ⟨q, 0, none⟩ = some (.slice none 0 0) ∧ W.cell? ⟨q, 1, none⟩ = some (.slice none 0 0) ∧ W.frozen? ⟨q, 0, none⟩ = false ∧ W.frozen? ⟨q, 1, none⟩ = false := by
  refine ⟨_, _, rfl, rfl, (Ext.refl _).alloc _, Nat.le_refl _, fun W e => ?_⟩
  have hb := e.heap (heap_alloc_new w (.cells #[.slice none 0 0, .slice none 0 0] t))
  exact ⟨by rw [cell_of_row _ _ _ _ _ _ hb]; rfl, by rw [cell_of_row _ _ _ _ _ _ hb]; rfl, by simp [World.frozen?, hb], by simp [World.frozen?, hb]⟩
theorem box_tab3 (w : World) (A B A' B' : Option Addr) (n c m d n' c' m' d' : Nat) (t t' t'' : TypeId) : ∃ (q : Nat) (w3 : World), q = w.heap.size ∧ w3 = ((w.alloc (.cells #[.slice A n c, .slice B m d] t)).alloc (.cells #[.slice A' n' c', .slice B' m' d'] t')).alloc (.cells #[.slice none 0 0, .slice none 0 0] t'') ∧
    w3.cell? ⟨q, 0, none⟩ = some (.slice A n c) ∧ w3.cell? ⟨q, 1, none⟩ = some (.slice B m d) ∧ w3.cell? ⟨q + 1, 0, none⟩ = some (.slice A' n' c') ∧ w3.cell? ⟨q + 1, 1, none⟩ = some (.slice B' m' d') ∧ Ext w w3 ∧ (q + 1 + 1 < w3.heap.size) ∧
    ∀ W, Ext w3 W → W.cell? ⟨q + 1 + 1, 0, none⟩ = some (.slice none 0 0) ∧ W.cell? ⟨q + 1 + 1, 1, none⟩ = some (.slice none 0 0) ∧ W.frozen? ⟨q + 1 + 1, 0, none⟩ = false ∧ W.frozen? ⟨q + 1 + 1, 1, none⟩ = false := by
  obtain ⟨q, w2, hq, hw2, h0, h1, h2, h3, hx⟩ := box_tab2 w A B A' B' n c m d n' c' m' d' t t'
  obtain ⟨q', w3, hq', hw3, hx3, -, hz⟩ := box_res w2 t''
  have e : q' = q + 1 + 1 := by rw [hq', hq, hw2]; simp
  subst e
  exact ⟨q, w3, hq, by rw [hw3, hw2], hx3.cell h0, hx3.cell h1, hx3.cell h2, hx3.cell h3, hx.trans hx3, block_lt_of_cell (hz w3 (Ext.refl _)).1, hz⟩
end Go.Proofs.YtbjddimafilflaaGreatDoor

/- THE WALKS over join.part (with what it points to) and join.group. -/
namespace Go.Proofs.YtbjddimafilflaaGreatDoor
open Go.RowKit Go.Sort
set_option maxRecDepth 100000 in
set_option maxHeartbeats 3200000 in
theorem j_partS (r : List Val) (at_ : List Nat) (ok ok' : Nat → Prop) (A B : Option Addr) (c d : Nat) (w : World) (hv : Vals w ok A r) (hn : Nums w ok' B (ints at_)) (hat : ∀ i ∈ at_, i < r.length) (hl : at_.length ≤ 8000000) :
    Calls Tryz.prog 55 #[.slice A r.length c, .slice B at_.length d] w fun e w' => ∃ A' c', e = .returned (.slice A' (partJ r at_).length c') ∧ (partJ r at_).length ≤ c' ∧ Vals w' (fun b => ok b ∨ w.heap.size ≤ b) A' (partJ r at_) ∧ Ext w w' := by
  have HV := Lib.hid hv
  have HN := Lib.hid hn
  have HA := Lib.hid hat
  have hrl := hv.len
  have HPL := Lib.hid (show (partJ r at_).length = at_.length by unfold partJ; rw [List.length_map])
  clear hv hn hat
  go_enter Tryz.func55, Tryz.ntmps55
  go_wp2_with fail
  go_loopw [5, 10] (fun v u W => ∃ (k : Nat) (cs : List (List Value)), u = .int .i64 k ∧ k ≤ at_.length ∧ Hid (W.ownsRow w.heap.size 40 5 v k cs.flatten) ∧ Hid (cs.length = k) ∧ Hid (CopyTo w ok (partJ r at_) cs) ∧ Hid (Ext w W)) (fun _ u _ => at_.length - (intOf u).toNat)
  case atStart => exact ⟨0, [], rfl, Nat.zero_le _, Lib.hid (World.ownsRow_nil _ _ _ _), Lib.hid rfl, Lib.hid (CopyTo.nil _ _ _), Lib.hid (Ext.refl _)⟩
  case round =>
    obtain ⟨k, cs, rfl, hk, hown, hcl, hct, hE⟩ := hrel
    by_cases hlt : k < at_.length
    · obtain ⟨b2, o2, rfl, hnc⟩ := HN.out.2 (by rw [ints_len]; omega)
      have hk1 : k < (ints at_).length := by rw [ints_len]; exact hlt
      have q1 := hE.out.cell (hnc k hk1).2
      rw [Nat.mul_one, ints_get at_ k hk1 hlt] at q1
      have hp := HA.out at_[k] (List.getElem_mem hlt)
      have hx : (partJ r at_)[k]'(by rw [HPL.out]; exact hlt) = r[at_[k]] := by unfold partJ; rw [List.getElem_map, getElem!_pos r _ hp]
      obtain ⟨b, o, rfl, hc⟩ := HV.out.2 (by omega)
      obtain ⟨-, A', c', h5, hle, hv'⟩ := VCells.iff.1 (hc at_[k] hp)
      obtain ⟨d0, d1, d2, d3, d4⟩ := h5.ext hE.out
      have HP := Lib.hid (show CopyTo w ok (partJ r at_) (cs ++ [(r[at_[k]]).cells A' c']) by
        have hk' := hcl.out
        subst hk'
        rw [← hx]
        exact hct.out.push (by rw [HPL.out]; exact hlt) (by rw [hx]; exact hle) (by rw [hx]; exact hv'))
      have hpi : (at_[k] : Int) < (r.length : Int) := by omega
      clear hc h5 hv' hnc hk1 hx hle
      generalize r[at_[k]] = x at *
      generalize at_[k] = p at *
      have hown' := hown.out
      have hE' := hE.out
      have hkb : k + 1 ≤ 8388608 := by omega
      go_wp2_with (at_builtin; refine own_pushF T_rowV rfl (.tmp 14) (.tmp 19) rfl w wr _ k _ (x.cells A' c') rfl hown' hE' rfl rfl rfl (Val.cells_one _ _ _) hkb (by decide) ?_; intro v2 w9 hown2 hE9 hF9)
      clear hF9
      have HO2 := Lib.hid (show w9.ownsRow w.heap.size 40 5 v2 (k + 1) (cs ++ [x.cells A' c']).flatten by rw [List.flatten_append]; simpa using hown2)
      have HE9 := Lib.hid hE9
      go_roundw
      case rel => exact ⟨k + 1, cs ++ [x.cells A' c'], by go_num, by omega, HO2, Lib.hid (by rw [List.length_append, hcl.out]; rfl), HP, HE9⟩
      case measure => simp [intOf]; omega
    · have HD := Lib.hid ((hct.out.ext hE.out).fin (ok' := fun b => ok b ∨ w.heap.size ≤ b) (by rw [HPL.out, show at_.length = k by omega]; exact hown.out) (by rw [HPL.out, hcl.out]; omega) (by rw [HPL.out]; omega) (fun _ h => .inl h) (fun _ h => .inr h))
      have HE := Lib.hid hE.out
      clear hown hct hcl hE
      go_wp2_with fail
      obtain ⟨A9, c9, e9, h9, hV9⟩ := HD.out
      subst e9
      go_ret
      exact ⟨A9, c9, rfl, h9, hV9, HE.out⟩
set_option maxRecDepth 100000 in
set_option maxHeartbeats 1600000 in
theorem j_group (l : List (List Val)) (at_ : List Nat) (ok ok' : Nat → Prop) (A B : Option Addr) (c d : Nat) (w : World) (hz : ZeroAt w) (hv : Rows w ok A l) (hn : Nums w ok' B (ints at_)) (hat : ∀ r ∈ l, ∀ i ∈ at_, i < r.length) (hl : 0 < l.length) (hla : at_.length ≤ 8000000) :
    Calls Tryz.prog 67 #[.slice A l.length c, .slice B at_.length d] w fun e w' => ∃ n : Nat, e = .returned (.int .i64 n) ∧ 0 < n ∧ n ≤ l.length ∧ (∀ i (hi : i < l.length), i < n → partJ l[i] at_ = partJ l[0] at_) ∧ (∀ (hi : n < l.length), partJ l[n] at_ ≠ partJ l[0] at_) ∧ Ext w w' := by
  have hm := hv.len
  have HV := Lib.hid hv
  have HN := Lib.hid hn
  have HA := Lib.hid hat
  have HZ := Lib.hid hz
  clear hv hn hat hz
  obtain ⟨b, o, rfl, hc⟩ := HV.out.2 hl
  have HC := Lib.hid hc
  obtain ⟨-, A0, c0, h0, hle0, hv0⟩ := hc 0 hl
  rw [Nat.zero_mul, Nat.add_zero] at h0
  have HV0 := Lib.hid hv0
  have HA0 := Lib.hid (HA.out _ (List.getElem_mem hl))
  obtain ⟨m, hml⟩ : ∃ m, m = at_.length := ⟨_, rfl⟩
  have HM := Lib.hid hml
  rw [← hml] at hla ⊢
  clear hc hv0 hml
  go_enter Tryz.func67, Tryz.ntmps67
  go_wp2_with fail
  go_loopw [5] (fun u W => ∃ k : Nat, u = .int .i64 k ∧ 0 < k ∧ k ≤ l.length ∧ Hid (∀ i (hi : i < l.length), i < k → partJ l[i] at_ = partJ l[0] at_) ∧ Ext w W) (fun u _ => l.length - (intOf u).toNat)
  case atStart => exact ⟨1, by go_num, by omega, by omega, Lib.hid (fun i hi h1 => by (obtain rfl : i = 0 := (by omega)); rfl), Ext.refl _⟩
  case round =>
    obtain ⟨k, rfl, hk0, hk, hgd, hE⟩ := hrel
    by_cases hlt : k < l.length
    · obtain ⟨-, A1, c1, h1, hle1, hv1⟩ := HC.out k hlt
      rw [Nat.mul_one] at h1
      have s0 := hE.cell h0
      have s1 := hE.cell h1
      have HP0 := Lib.hid (fun W (e : Ext wr W) => j_part l[0] at_ ok ok' A0 B c0 d W (HV0.out.ext (hE.trans e)) (HN.out.ext (hE.trans e)) HA0.out (by rw [← HM.out]; exact hla))
      have HP1 := Lib.hid (fun W (e : Ext wr W) => j_part l[k] at_ ok ok' A1 B c1 d W (hv1.ext (hE.trans e)) (HN.out.ext (hE.trans e)) (HA.out _ (List.getElem_mem hlt)) (by rw [← HM.out]; exact hla))
      have HOR := Lib.hid (fun A1 c1 A2 c2 W (h : Ext wr W) (h1 : Vals W (fun _ => True) A1 (partJ l[0] at_)) (h2 : Vals W (fun _ => True) A2 (partJ l[k] at_)) => v_OrderRows (partJ l[0] at_) (partJ l[k] at_) (fun _ => True) (fun _ => True) A1 A2 c1 c2 W (HZ.out.ext (hE.trans h)) h1 h2)
      rw [← HM.out] at HP0 HP1
      have HST := Lib.hid (fun (h : ordL (partJ l[0] at_) (partJ l[k] at_) = 0) i hi (hi2 : i < k + 1) => (if e : i = k then (by subst e; exact ((ordL_zero _ _).1 h).symm) else hgd.out i hi (by omega) : partJ l[i] at_ = partJ l[0] at_))
      have HNO := Lib.hid (fun (h : ¬ ordL (partJ l[0] at_) (partJ l[k] at_) = 0) => (fun e => h ((ordL_zero _ _).2 e.symm) : partJ l[k] at_ ≠ partJ l[0] at_))
      have HGD := hgd
      clear hv1 hgd h1
      generalize ordL (partJ l[0] at_) (partJ l[k] at_) = z at *
      have HL0 := Lib.hid (show l[0].length ≤ c0 from hle0)
      obtain ⟨x0, hx0⟩ : ∃ x, x = l[0].length := ⟨_, rfl⟩
      obtain ⟨x1, hx1⟩ : ∃ x, x = l[k].length := ⟨_, rfl⟩
      obtain ⟨y0, hy0⟩ : ∃ x, x = partJ l[0] at_ := ⟨_, rfl⟩
      obtain ⟨y1, hy1⟩ : ∃ x, x = partJ l[k] at_ := ⟨_, rfl⟩
      rw [← hx0, ← hy0] at HP0
      rw [← hx1, ← hy1] at HP1
      rw [← hy0, ← hy1] at HOR
      rw [← hx0] at s0
      rw [← hx1] at s1
      clear hx0 hx1 hy0 hy1 hle0 hle1 HL0
      go_upto_region 2 with (fail)
      have MKR1 := Lib.hid (fun V (e : Ext wr V) => (⟨e.cell s0, e.cell s1, e⟩ : V.cell? ⟨b, o, none⟩ = some (.slice A0 x0 c0) ∧ V.cell? ⟨b, o + k, none⟩ = some (.slice A1 x1 c1) ∧ Ext wr V))
      refine wp_region_held_drew (S := (fun V => V.cell? ⟨b, o, none⟩ = some (.slice A0 x0 c0) ∧ V.cell? ⟨b, o + k, none⟩ = some (.slice A1 x1 c1) ∧ Ext wr V)) (by kernel_rfl) ?hs1 (fun hHeld => ?go1)
      case hs1 => (exact MKR1.out _ (by repeat (first | with_reducible exact Ext.refl _ | with_reducible assumption | with_reducible refine Ext.drew ?_ | with_reducible refine Ext.drewN ?_ _ | with_reducible refine Ext.alloc ?_ _)))
      refine wpAnyH_take (i := 0) (oi := ⟨(some 6), (.move (.tmp 5)), 3, "join.go:76", #[], none⟩) (v := ?v2) rfl (by kernel_rfl) (by kernel_rfl) (by kernel_rfl) (fun _ _ _ h => h) (Or.inl ⟨rfl, ?hy2⟩) hHeld ?rest2
      case hy2 => (intro w hSw; (try dsimp only at hSw); go_simp <;> first | with_reducible rfl | rw [if_neg (by omega)] | rw [if_pos (by omega)])
      (try simp only [Act.put]); (try simp only [List.setIfInBounds_toArray]); (try simp only [List.set_cons_succ]); (try simp only [List.set_cons_zero])
      refine wpAnyH_take (i := 1) (oi := ⟨(some 7), (.move (.tmp 0)), 23, "join.go:76", #[], none⟩) (v := ?v3) rfl (by kernel_rfl) (by kernel_rfl) (by kernel_rfl) (fun _ _ _ h => h) (Or.inl ⟨rfl, ?hy3⟩) hHeld ?rest3
      case hy3 => (intro w hSw; (try dsimp only at hSw); go_simp <;> first | with_reducible rfl | rw [if_neg (by omega)] | rw [if_pos (by omega)])
      (try simp only [Act.put]); (try simp only [List.setIfInBounds_toArray]); (try simp only [List.set_cons_succ]); (try simp only [List.set_cons_zero])
      refine wpAnyH_take (i := 2) (oi := ⟨(some 8), (.call { callee := (.builtin .len), args := #[(.tmp 7)], argTypes := #[23] }), 3, "join.go:76", #[⟨1, .data⟩], none⟩) (v := ?v4) rfl (by kernel_rfl) (by kernel_rfl) (by kernel_rfl) (fun _ _ _ h => h) (Or.inl ⟨rfl, ?hy4⟩) hHeld ?rest4
      case hy4 => (intro w hSw; (try dsimp only at hSw); go_simp <;> first | with_reducible rfl | rw [if_neg (by omega)] | rw [if_pos (by omega)])
      (try simp only [Act.put]); (try simp only [List.setIfInBounds_toArray]); (try simp only [List.set_cons_succ]); (try simp only [List.set_cons_zero])
      refine wpAnyH_take (i := 3) (oi := ⟨(some 9), (.binOp .lss 3 (.tmp 6) (.tmp 8) 3), 4, "join.go:76", #[⟨0, .data⟩, ⟨2, .data⟩], none⟩) (v := ?v5) rfl (by kernel_rfl) (by kernel_rfl) (by kernel_rfl) (fun _ _ _ h => h) (Or.inl ⟨rfl, ?hy5⟩) hHeld ?rest5
      case hy5 => (intro w hSw; (try dsimp only at hSw); go_simp <;> first | with_reducible rfl | rw [if_neg (by omega)] | rw [if_pos (by omega)])
      (try simp only [Act.put]); (try simp only [List.setIfInBounds_toArray]); (try simp only [List.set_cons_succ]); (try simp only [List.set_cons_zero])
      refine wpAnyH_take (i := 4) (oi := ⟨(some 10), (.move (.tmp 9)), 4, "join.go:76", #[⟨3, .data⟩], none⟩) (v := ?v6) rfl (by kernel_rfl) (by kernel_rfl) (by kernel_rfl) (fun _ _ _ h => h) (Or.inl ⟨rfl, ?hy6⟩) hHeld ?rest6
      case hy6 => (intro w hSw; (try dsimp only at hSw); go_simp <;> first | with_reducible rfl | rw [if_neg (by omega)] | rw [if_pos (by omega)])
      (try simp only [Act.put]); (try simp only [List.setIfInBounds_toArray]); (try simp only [List.set_cons_succ]); (try simp only [List.set_cons_zero])
      refine wpAnyH_take (i := 5) (oi := ⟨(some 11), (.move (.tmp 0)), 23, "join.go:76", #[⟨4, .guard⟩], (some (4, true))⟩) (v := ?v7) rfl (by kernel_rfl) (by kernel_rfl) (by kernel_rfl) (fun _ _ _ h => h) (Or.inl ⟨rfl, ?hy7⟩) hHeld ?rest7
      case hy7 => (intro w hSw; (try dsimp only at hSw); go_simp <;> first | with_reducible rfl | rw [if_neg (by omega)] | rw [if_pos (by omega)])
      (try simp only [Act.put]); (try simp only [List.setIfInBounds_toArray]); (try simp only [List.set_cons_succ]); (try simp only [List.set_cons_zero])
      refine wpAnyH_take (i := 6) (oi := ⟨(some 12), (.indexAddr 23 (.tmp 11) (.const (.int .i64 0))), 0, "join.go:76", #[⟨5, .data⟩, ⟨4, .guard⟩], (some (4, true))⟩) (v := ?v8) rfl (by kernel_rfl) (by kernel_rfl) (by kernel_rfl) (fun _ _ _ h => h) (Or.inl ⟨rfl, ?hy8⟩) hHeld ?rest8
      case hy8 => (intro w hSw; (try dsimp only at hSw); go_simp <;> first | with_reducible rfl | rw [if_neg (by omega)] | rw [if_pos (by omega)])
      (try simp only [Act.put]); (try simp only [List.setIfInBounds_toArray]); (try simp only [List.set_cons_succ]); (try simp only [List.set_cons_zero])
      refine wpAnyH_take (i := 7) (oi := ⟨(some 13), (.load 37 (.tmp 12)), 37, "join.go:76", #[⟨6, .data⟩, ⟨4, .guard⟩], (some (4, true))⟩) (v := ?v9) rfl (by kernel_rfl) (by kernel_rfl) (by kernel_rfl) (fun _ _ _ h => h) (Or.inl ⟨rfl, ?hy9⟩) hHeld ?rest9
      case hy9 => (intro w hSw; (try dsimp only at hSw); go_simp <;> first | with_reducible rfl | rw [if_neg (by omega)] | rw [if_pos (by omega)])
      (try simp only [Act.put]); (try simp only [List.setIfInBounds_toArray]); (try simp only [List.set_cons_succ]); (try simp only [List.set_cons_zero])
      refine wpAnyH_take (i := 8) (oi := ⟨(some 14), (.move (.tmp 1)), 61, "join.go:76", #[⟨4, .guard⟩], (some (4, true))⟩) (v := ?v10) rfl (by kernel_rfl) (by kernel_rfl) (by kernel_rfl) (fun _ _ _ h => h) (Or.inl ⟨rfl, ?hy10⟩) hHeld ?rest10
      case hy10 => (intro w hSw; (try dsimp only at hSw); go_simp <;> first | with_reducible rfl | rw [if_neg (by omega)] | rw [if_pos (by omega)])
      (try simp only [Act.put]); (try simp only [List.setIfInBounds_toArray]); (try simp only [List.set_cons_succ]); (try simp only [List.set_cons_zero])
      refine wpAnyH_take (i := 10) (oi := ⟨(some 16), (.move (.tmp 0)), 23, "join.go:76", #[⟨4, .guard⟩], (some (4, true))⟩) (v := ?v11) rfl (by kernel_rfl) (by kernel_rfl) (by kernel_rfl) (fun _ _ _ h => h) (Or.inl ⟨rfl, ?hy11⟩) hHeld ?rest11
      case hy11 => (intro w hSw; (try dsimp only at hSw); go_simp <;> first | with_reducible rfl | rw [if_neg (by omega)] | rw [if_pos (by omega)])
      (try simp only [Act.put]); (try simp only [List.setIfInBounds_toArray]); (try simp only [List.set_cons_succ]); (try simp only [List.set_cons_zero])
      refine wpAnyH_take (i := 11) (oi := ⟨(some 17), (.move (.tmp 5)), 3, "join.go:76", #[⟨4, .guard⟩], (some (4, true))⟩) (v := ?v12) rfl (by kernel_rfl) (by kernel_rfl) (by kernel_rfl) (fun _ _ _ h => h) (Or.inl ⟨rfl, ?hy12⟩) hHeld ?rest12
      case hy12 => (intro w hSw; (try dsimp only at hSw); go_simp <;> first | with_reducible rfl | rw [if_neg (by omega)] | rw [if_pos (by omega)])
      (try simp only [Act.put]); (try simp only [List.setIfInBounds_toArray]); (try simp only [List.set_cons_succ]); (try simp only [List.set_cons_zero])
      refine wpAnyH_take (i := 12) (oi := ⟨(some 18), (.indexAddr 23 (.tmp 16) (.tmp 17)), 0, "join.go:76", #[⟨10, .data⟩, ⟨11, .data⟩, ⟨4, .guard⟩], (some (4, true))⟩) (v := ?v13) rfl (by kernel_rfl) (by kernel_rfl) (by kernel_rfl) (fun _ _ _ h => h) (Or.inl ⟨rfl, ?hy13⟩) hHeld ?rest13
      case hy13 => (intro w hSw; (try dsimp only at hSw); go_simp <;> first | with_reducible rfl | rw [if_neg (by omega)] | rw [if_pos (by omega)])
      (try simp only [Act.put]); (try simp only [List.setIfInBounds_toArray]); (try simp only [List.set_cons_succ]); (try simp only [List.set_cons_zero])
      refine wpAnyH_take (i := 13) (oi := ⟨(some 19), (.load 37 (.tmp 18)), 37, "join.go:76", #[⟨12, .data⟩, ⟨4, .guard⟩], (some (4, true))⟩) (v := ?v14) rfl (by kernel_rfl) (by kernel_rfl) (by kernel_rfl) (fun _ _ _ h => h) (Or.inl ⟨rfl, ?hy14⟩) hHeld ?rest14
      case hy14 => (intro w hSw; (try dsimp only at hSw); go_simp <;> first | with_reducible rfl | rw [if_neg (by omega)] | rw [if_pos (by omega)])
      (try simp only [Act.put]); (try simp only [List.setIfInBounds_toArray]); (try simp only [List.set_cons_succ]); (try simp only [List.set_cons_zero])
      refine wpAnyH_take (i := 14) (oi := ⟨(some 20), (.move (.tmp 1)), 61, "join.go:76", #[⟨4, .guard⟩], (some (4, true))⟩) (v := ?v15) rfl (by kernel_rfl) (by kernel_rfl) (by kernel_rfl) (fun _ _ _ h => h) (Or.inl ⟨rfl, ?hy15⟩) hHeld ?rest15
      case hy15 => (intro w hSw; (try dsimp only at hSw); go_simp <;> first | with_reducible rfl | rw [if_neg (by omega)] | rw [if_pos (by omega)])
      (try simp only [Act.put]); (try simp only [List.setIfInBounds_toArray]); (try simp only [List.set_cons_succ]); (try simp only [List.set_cons_zero])
      refine wpAnyH_ready (rs := [9]) (by kernel_rfl) (by simp) ?_
      refine AllReadyH.cons (o := ⟨(some 15), (.call { callee := (.value (.func 55)), args := #[(.tmp 13), (.tmp 14)], argTypes := #[37, 61] }), 37, "join.go:76", #[⟨7, .data⟩, ⟨8, .data⟩, ⟨4, .chain⟩, ⟨4, .guard⟩], (some (4, true))⟩) rfl (fun K hK => ?step16x0) ?more16x0
      case more16x0 => exact AllReadyH.nil
      go_simp
      (refine (HP0.out _ (by repeat (first | with_reducible exact Ext.refl _ | with_reducible assumption | with_reducible refine Ext.drew ?_ | with_reducible refine Ext.drewN ?_ _ | with_reducible refine Ext.alloc ?_ _))).mono ?_; rintro e w2 ⟨A2, c2, rfl, -, hV2, hx2⟩; replace hx2 : Ext wr w2 := Ext.trans (by repeat (first | with_reducible exact Ext.refl _ | with_reducible assumption | with_reducible refine Ext.drew ?_ | with_reducible refine Ext.drewN ?_ _ | with_reducible refine Ext.alloc ?_ _)) hx2)
      refine hK.out _ _ ?hS16x0 (fun hHeld16 => ?rest16x0)
      case hS16x0 => first | (exact MKR1.out _ (by repeat (first | with_reducible exact Ext.refl _ | with_reducible assumption | with_reducible refine Ext.drew ?_ | with_reducible refine Ext.drewN ?_ _ | with_reducible refine Ext.alloc ?_ _))) | ((try dsimp only); (exact MKR1.out _ (by repeat (first | with_reducible exact Ext.refl _ | with_reducible assumption | with_reducible refine Ext.drew ?_ | with_reducible refine Ext.drewN ?_ _ | with_reducible refine Ext.alloc ?_ _))))
      clear hK K
      clear hHeld
      (try simp only [Act.put]); (try simp only [List.setIfInBounds_toArray]); (try simp only [List.set_cons_succ]); (try simp only [List.set_cons_zero])
      refine wpAnyH_ready (rs := [15]) (by kernel_rfl) (by simp) ?_
      refine AllReadyH.cons (o := ⟨(some 21), (.call { callee := (.value (.func 55)), args := #[(.tmp 19), (.tmp 20)], argTypes := #[37, 61] }), 37, "join.go:76", #[⟨13, .data⟩, ⟨14, .data⟩, ⟨9, .chain⟩, ⟨4, .guard⟩], (some (4, true))⟩) rfl (fun K hK => ?step17x0) ?more17x0
      case more17x0 => exact AllReadyH.nil
      go_simp
      (refine (HP1.out _ (by repeat (first | with_reducible exact Ext.refl _ | with_reducible assumption | with_reducible refine Ext.drew ?_ | with_reducible refine Ext.drewN ?_ _ | with_reducible refine Ext.alloc ?_ _))).mono ?_; rintro e w3 ⟨A3, c3, rfl, -, hV3, hx3⟩; replace hV2 := hV2.ext hx3; replace hx3 : Ext wr w3 := Ext.trans (by repeat (first | with_reducible exact Ext.refl _ | with_reducible assumption | with_reducible refine Ext.drew ?_ | with_reducible refine Ext.drewN ?_ _ | with_reducible refine Ext.alloc ?_ _)) hx3)
      refine hK.out _ _ ?hS17x0 (fun hHeld17 => ?rest17x0)
      case hS17x0 => first | (exact MKR1.out _ (by repeat (first | with_reducible exact Ext.refl _ | with_reducible assumption | with_reducible refine Ext.drew ?_ | with_reducible refine Ext.drewN ?_ _ | with_reducible refine Ext.alloc ?_ _))) | ((try dsimp only); (exact MKR1.out _ (by repeat (first | with_reducible exact Ext.refl _ | with_reducible assumption | with_reducible refine Ext.drew ?_ | with_reducible refine Ext.drewN ?_ _ | with_reducible refine Ext.alloc ?_ _))))
      clear hK K
      clear hHeld16
      (try simp only [Act.put]); (try simp only [List.setIfInBounds_toArray]); (try simp only [List.set_cons_succ]); (try simp only [List.set_cons_zero])
      refine wpAnyH_ready (rs := [16]) (by kernel_rfl) (by simp) ?_
      refine AllReadyH.cons (o := ⟨(some 22), (.call { callee := (.value (.func 62)), args := #[(.tmp 15), (.tmp 21)], argTypes := #[37, 37] }), 3, "join.go:76", #[⟨9, .data⟩, ⟨15, .data⟩, ⟨15, .chain⟩, ⟨4, .guard⟩], (some (4, true))⟩) rfl (fun K hK => ?step18x0) ?more18x0
      case more18x0 => exact AllReadyH.nil
      go_simp
      (refine (HOR.out A2 c2 A3 c3 _ (by repeat (first | with_reducible exact Ext.refl _ | with_reducible assumption | with_reducible refine Ext.drew ?_ | with_reducible refine Ext.drewN ?_ _ | with_reducible refine Ext.alloc ?_ _)) (hV2.ext (by first | exact Ext.refl _ | exact (Ext.refl _).drew)) (hV3.ext (by first | exact Ext.refl _ | exact (Ext.refl _).drew))).mono ?_; rintro e w4 ⟨rfl, hx4⟩; replace hx4 : Ext wr w4 := Ext.trans (by repeat (first | with_reducible exact Ext.refl _ | with_reducible assumption | with_reducible refine Ext.drew ?_ | with_reducible refine Ext.drewN ?_ _ | with_reducible refine Ext.alloc ?_ _)) hx4)
      refine hK.out _ _ ?hS18x0 (fun hHeld18 => ?rest18x0)
      case hS18x0 => first | (exact MKR1.out _ (by repeat (first | with_reducible exact Ext.refl _ | with_reducible assumption | with_reducible refine Ext.drew ?_ | with_reducible refine Ext.drewN ?_ _ | with_reducible refine Ext.alloc ?_ _))) | ((try dsimp only); (exact MKR1.out _ (by repeat (first | with_reducible exact Ext.refl _ | with_reducible assumption | with_reducible refine Ext.drew ?_ | with_reducible refine Ext.drewN ?_ _ | with_reducible refine Ext.alloc ?_ _))))
      clear hK K
      clear hHeld17
      (try simp only [Act.put]); (try simp only [List.setIfInBounds_toArray]); (try simp only [List.set_cons_succ]); (try simp only [List.set_cons_zero])
      refine wpAnyH_take (i := 17) (oi := ⟨(some 23), (.binOp .eql 3 (.tmp 22) (.const (.int .i64 0)) 3), 4, "join.go:76", #[⟨16, .data⟩, ⟨4, .guard⟩], (some (4, true))⟩) (v := ?v19) rfl (by kernel_rfl) (by kernel_rfl) (by kernel_rfl) (fun _ _ _ h => h) (Or.inl ⟨rfl, ?hy19⟩) hHeld18 ?rest19
      case hy19 => (intro w hSw; (try dsimp only at hSw); go_simp <;> first | with_reducible rfl | rw [if_neg (by omega)] | rw [if_pos (by omega)])
      (try simp only [Act.put]); (try simp only [List.setIfInBounds_toArray]); (try simp only [List.set_cons_succ]); (try simp only [List.set_cons_zero])
      refine wpAnyH_take (i := 18) (oi := ⟨(some 24), (.pick (.tmp 10) (.tmp 23) (.const (.bool false))), 4, "join.go:76", #[⟨4, .data⟩, ⟨17, .data⟩], none⟩) (v := ?v20) rfl (by kernel_rfl) (by kernel_rfl) (by kernel_rfl) (fun _ _ _ h => h) (Or.inl ⟨rfl, ?hy20⟩) hHeld18 ?rest20
      case hy20 => (intro w hSw; (try dsimp only at hSw); go_simp <;> first | with_reducible rfl | rw [if_neg (by omega)] | rw [if_pos (by omega)])
      (try simp only [Act.put]); (try simp only [List.setIfInBounds_toArray]); (try simp only [List.set_cons_succ]); (try simp only [List.set_cons_zero])
      refine wpAnyH_done (by kernel_rfl) ?_ _
      clear hHeld18
      clear MKR1
      clear HP0 HP1 HOR
      by_cases hz : z = 0
      · have HS := Lib.hid (HST.out hz)
        subst hz
        go_wp2_with fail
        go_roundw
        case rel => exact ⟨k + 1, by go_num, by omega, by omega, HS, hE.trans hx4⟩
        case measure => simp [intOf]; omega
      · have HS := Lib.hid (HNO.out hz)
        clear HST
        go_wp2_with fail
        go_ret
        exact ⟨k, rfl, hk0, hk, HGD.out, fun _ => HS.out, hE.trans hx4⟩
    · have hkl : ¬ k < l.length := hlt
      go_upto_region 2 with (fail)
      have MKR2 := Lib.hid (fun V (e : Ext wr V) => (e : Ext wr V))
      refine wp_region_held_drew (S := (fun V => Ext wr V)) (by kernel_rfl) ?hs21 (fun hHeld => ?go21)
      case hs21 => (exact MKR2.out _ (by repeat (first | with_reducible exact Ext.refl _ | with_reducible assumption | with_reducible refine Ext.drew ?_ | with_reducible refine Ext.drewN ?_ _ | with_reducible refine Ext.alloc ?_ _)))
      refine wpAnyH_take (i := 0) (oi := ⟨(some 6), (.move (.tmp 5)), 3, "join.go:76", #[], none⟩) (v := ?v22) rfl (by kernel_rfl) (by kernel_rfl) (by kernel_rfl) (fun _ _ _ h => h) (Or.inl ⟨rfl, ?hy22⟩) hHeld ?rest22
      case hy22 => (intro w hSw; (try dsimp only at hSw); go_simp <;> first | with_reducible rfl | rw [if_neg (by omega)] | rw [if_pos (by omega)])
      (try simp only [Act.put]); (try simp only [List.setIfInBounds_toArray]); (try simp only [List.set_cons_succ]); (try simp only [List.set_cons_zero])
      refine wpAnyH_take (i := 1) (oi := ⟨(some 7), (.move (.tmp 0)), 23, "join.go:76", #[], none⟩) (v := ?v23) rfl (by kernel_rfl) (by kernel_rfl) (by kernel_rfl) (fun _ _ _ h => h) (Or.inl ⟨rfl, ?hy23⟩) hHeld ?rest23
      case hy23 => (intro w hSw; (try dsimp only at hSw); go_simp <;> first | with_reducible rfl | rw [if_neg (by omega)] | rw [if_pos (by omega)])
      (try simp only [Act.put]); (try simp only [List.setIfInBounds_toArray]); (try simp only [List.set_cons_succ]); (try simp only [List.set_cons_zero])
      refine wpAnyH_take (i := 2) (oi := ⟨(some 8), (.call { callee := (.builtin .len), args := #[(.tmp 7)], argTypes := #[23] }), 3, "join.go:76", #[⟨1, .data⟩], none⟩) (v := ?v24) rfl (by kernel_rfl) (by kernel_rfl) (by kernel_rfl) (fun _ _ _ h => h) (Or.inl ⟨rfl, ?hy24⟩) hHeld ?rest24
      case hy24 => (intro w hSw; (try dsimp only at hSw); go_simp <;> first | with_reducible rfl | rw [if_neg (by omega)] | rw [if_pos (by omega)])
      (try simp only [Act.put]); (try simp only [List.setIfInBounds_toArray]); (try simp only [List.set_cons_succ]); (try simp only [List.set_cons_zero])
      refine wpAnyH_take (i := 3) (oi := ⟨(some 9), (.binOp .lss 3 (.tmp 6) (.tmp 8) 3), 4, "join.go:76", #[⟨0, .data⟩, ⟨2, .data⟩], none⟩) (v := ?v25) rfl (by kernel_rfl) (by kernel_rfl) (by kernel_rfl) (fun _ _ _ h => h) (Or.inl ⟨rfl, ?hy25⟩) hHeld ?rest25
      case hy25 => (intro w hSw; (try dsimp only at hSw); go_simp <;> first | with_reducible rfl | rw [if_neg (by omega)] | rw [if_pos (by omega)])
      (try simp only [Act.put]); (try simp only [List.setIfInBounds_toArray]); (try simp only [List.set_cons_succ]); (try simp only [List.set_cons_zero])
      refine wpAnyH_take (i := 4) (oi := ⟨(some 10), (.move (.tmp 9)), 4, "join.go:76", #[⟨3, .data⟩], none⟩) (v := ?v26) rfl (by kernel_rfl) (by kernel_rfl) (by kernel_rfl) (fun _ _ _ h => h) (Or.inl ⟨rfl, ?hy26⟩) hHeld ?rest26
      case hy26 => (intro w hSw; (try dsimp only at hSw); go_simp <;> first | with_reducible rfl | rw [if_neg (by omega)] | rw [if_pos (by omega)])
      (try simp only [Act.put]); (try simp only [List.setIfInBounds_toArray]); (try simp only [List.set_cons_succ]); (try simp only [List.set_cons_zero])
      refine wpAnyH_take (i := 5) (oi := ⟨(some 11), (.move (.tmp 0)), 23, "join.go:76", #[⟨4, .guard⟩], (some (4, true))⟩) (v := undef) rfl (by kernel_rfl) (by kernel_rfl) (by kernel_rfl) (fun _ _ _ h => h) (Or.inr ⟨rfl, rfl⟩) hHeld ?rest27
      (try simp only [Act.put]); (try simp only [List.setIfInBounds_toArray]); (try simp only [List.set_cons_succ]); (try simp only [List.set_cons_zero])
      refine wpAnyH_take (i := 6) (oi := ⟨(some 12), (.indexAddr 23 (.tmp 11) (.const (.int .i64 0))), 0, "join.go:76", #[⟨5, .data⟩, ⟨4, .guard⟩], (some (4, true))⟩) (v := undef) rfl (by kernel_rfl) (by kernel_rfl) (by kernel_rfl) (fun _ _ _ h => h) (Or.inr ⟨rfl, rfl⟩) hHeld ?rest28
      (try simp only [Act.put]); (try simp only [List.setIfInBounds_toArray]); (try simp only [List.set_cons_succ]); (try simp only [List.set_cons_zero])
      refine wpAnyH_take (i := 7) (oi := ⟨(some 13), (.load 37 (.tmp 12)), 37, "join.go:76", #[⟨6, .data⟩, ⟨4, .guard⟩], (some (4, true))⟩) (v := undef) rfl (by kernel_rfl) (by kernel_rfl) (by kernel_rfl) (fun _ _ _ h => h) (Or.inr ⟨rfl, rfl⟩) hHeld ?rest29
      (try simp only [Act.put]); (try simp only [List.setIfInBounds_toArray]); (try simp only [List.set_cons_succ]); (try simp only [List.set_cons_zero])
      refine wpAnyH_take (i := 8) (oi := ⟨(some 14), (.move (.tmp 1)), 61, "join.go:76", #[⟨4, .guard⟩], (some (4, true))⟩) (v := undef) rfl (by kernel_rfl) (by kernel_rfl) (by kernel_rfl) (fun _ _ _ h => h) (Or.inr ⟨rfl, rfl⟩) hHeld ?rest30
      (try simp only [Act.put]); (try simp only [List.setIfInBounds_toArray]); (try simp only [List.set_cons_succ]); (try simp only [List.set_cons_zero])
      refine wpAnyH_take (i := 9) (oi := ⟨(some 15), (.call { callee := (.value (.func 55)), args := #[(.tmp 13), (.tmp 14)], argTypes := #[37, 61] }), 37, "join.go:76", #[⟨7, .data⟩, ⟨8, .data⟩, ⟨4, .chain⟩, ⟨4, .guard⟩], (some (4, true))⟩) (v := undef) rfl (by kernel_rfl) (by kernel_rfl) (by kernel_rfl) (fun _ _ _ h => h) (Or.inr ⟨rfl, rfl⟩) hHeld ?rest31
      (try simp only [Act.put]); (try simp only [List.setIfInBounds_toArray]); (try simp only [List.set_cons_succ]); (try simp only [List.set_cons_zero])
      refine wpAnyH_take (i := 10) (oi := ⟨(some 16), (.move (.tmp 0)), 23, "join.go:76", #[⟨4, .guard⟩], (some (4, true))⟩) (v := undef) rfl (by kernel_rfl) (by kernel_rfl) (by kernel_rfl) (fun _ _ _ h => h) (Or.inr ⟨rfl, rfl⟩) hHeld ?rest32
      (try simp only [Act.put]); (try simp only [List.setIfInBounds_toArray]); (try simp only [List.set_cons_succ]); (try simp only [List.set_cons_zero])
      refine wpAnyH_take (i := 11) (oi := ⟨(some 17), (.move (.tmp 5)), 3, "join.go:76", #[⟨4, .guard⟩], (some (4, true))⟩) (v := undef) rfl (by kernel_rfl) (by kernel_rfl) (by kernel_rfl) (fun _ _ _ h => h) (Or.inr ⟨rfl, rfl⟩) hHeld ?rest33
      (try simp only [Act.put]); (try simp only [List.setIfInBounds_toArray]); (try simp only [List.set_cons_succ]); (try simp only [List.set_cons_zero])
      refine wpAnyH_take (i := 12) (oi := ⟨(some 18), (.indexAddr 23 (.tmp 16) (.tmp 17)), 0, "join.go:76", #[⟨10, .data⟩, ⟨11, .data⟩, ⟨4, .guard⟩], (some (4, true))⟩) (v := undef) rfl (by kernel_rfl) (by kernel_rfl) (by kernel_rfl) (fun _ _ _ h => h) (Or.inr ⟨rfl, rfl⟩) hHeld ?rest34
      (try simp only [Act.put]); (try simp only [List.setIfInBounds_toArray]); (try simp only [List.set_cons_succ]); (try simp only [List.set_cons_zero])
      refine wpAnyH_take (i := 13) (oi := ⟨(some 19), (.load 37 (.tmp 18)), 37, "join.go:76", #[⟨12, .data⟩, ⟨4, .guard⟩], (some (4, true))⟩) (v := undef) rfl (by kernel_rfl) (by kernel_rfl) (by kernel_rfl) (fun _ _ _ h => h) (Or.inr ⟨rfl, rfl⟩) hHeld ?rest35
      (try simp only [Act.put]); (try simp only [List.setIfInBounds_toArray]); (try simp only [List.set_cons_succ]); (try simp only [List.set_cons_zero])
      refine wpAnyH_take (i := 14) (oi := ⟨(some 20), (.move (.tmp 1)), 61, "join.go:76", #[⟨4, .guard⟩], (some (4, true))⟩) (v := undef) rfl (by kernel_rfl) (by kernel_rfl) (by kernel_rfl) (fun _ _ _ h => h) (Or.inr ⟨rfl, rfl⟩) hHeld ?rest36
      (try simp only [Act.put]); (try simp only [List.setIfInBounds_toArray]); (try simp only [List.set_cons_succ]); (try simp only [List.set_cons_zero])
      refine wpAnyH_take (i := 15) (oi := ⟨(some 21), (.call { callee := (.value (.func 55)), args := #[(.tmp 19), (.tmp 20)], argTypes := #[37, 61] }), 37, "join.go:76", #[⟨13, .data⟩, ⟨14, .data⟩, ⟨9, .chain⟩, ⟨4, .guard⟩], (some (4, true))⟩) (v := undef) rfl (by kernel_rfl) (by kernel_rfl) (by kernel_rfl) (fun _ _ _ h => h) (Or.inr ⟨rfl, rfl⟩) hHeld ?rest37
      (try simp only [Act.put]); (try simp only [List.setIfInBounds_toArray]); (try simp only [List.set_cons_succ]); (try simp only [List.set_cons_zero])
      refine wpAnyH_take (i := 16) (oi := ⟨(some 22), (.call { callee := (.value (.func 62)), args := #[(.tmp 15), (.tmp 21)], argTypes := #[37, 37] }), 3, "join.go:76", #[⟨9, .data⟩, ⟨15, .data⟩, ⟨15, .chain⟩, ⟨4, .guard⟩], (some (4, true))⟩) (v := undef) rfl (by kernel_rfl) (by kernel_rfl) (by kernel_rfl) (fun _ _ _ h => h) (Or.inr ⟨rfl, rfl⟩) hHeld ?rest38
      (try simp only [Act.put]); (try simp only [List.setIfInBounds_toArray]); (try simp only [List.set_cons_succ]); (try simp only [List.set_cons_zero])
      refine wpAnyH_take (i := 17) (oi := ⟨(some 23), (.binOp .eql 3 (.tmp 22) (.const (.int .i64 0)) 3), 4, "join.go:76", #[⟨16, .data⟩, ⟨4, .guard⟩], (some (4, true))⟩) (v := undef) rfl (by kernel_rfl) (by kernel_rfl) (by kernel_rfl) (fun _ _ _ h => h) (Or.inr ⟨rfl, rfl⟩) hHeld ?rest39
      (try simp only [Act.put]); (try simp only [List.setIfInBounds_toArray]); (try simp only [List.set_cons_succ]); (try simp only [List.set_cons_zero])
      refine wpAnyH_take (i := 18) (oi := ⟨(some 24), (.pick (.tmp 10) (.tmp 23) (.const (.bool false))), 4, "join.go:76", #[⟨4, .data⟩, ⟨17, .data⟩], none⟩) (v := ?v40) rfl (by kernel_rfl) (by kernel_rfl) (by kernel_rfl) (fun _ _ _ h => h) (Or.inl ⟨rfl, ?hy40⟩) hHeld ?rest40
      case hy40 => (intro w hSw; (try dsimp only at hSw); go_simp <;> first | with_reducible rfl | rw [if_neg (by omega)] | rw [if_pos (by omega)])
      (try simp only [Act.put]); (try simp only [List.setIfInBounds_toArray]); (try simp only [List.set_cons_succ]); (try simp only [List.set_cons_zero])
      refine wpAnyH_done (by kernel_rfl) ?_ _
      clear hHeld
      clear MKR2
      go_wp2_with fail
      go_ret
      exact ⟨k, rfl, hk0, hk, hgd.out, fun h => absurd h hlt, by first | exact hE | exact hE.drew⟩
end Go.Proofs.YtbjddimafilflaaGreatDoor

/- THE WALK over join.Check. -/
namespace Go.Proofs.YtbjddimafilflaaGreatDoor
open Go.RowKit Go.Sort Go.Maps
theorem key_str (s : ByteArray) (h : s.size ≤ maxLen) : keyOf Tryz.prog 9 (.string s) = some (lit s) := WideMaps.keyOf_string_mk Tryz.underlying9 h
theorem Ext.mapped {a b c : World} {B : Nat} (h : Ext a b) (hg : b.grownBy c (some B)) (hB : a.heap.size ≤ B) : Ext a c := h.grown hg (fun k hk => by cases hk; exact hB)
set_option maxRecDepth 100000 in
set_option maxHeartbeats 1600000 in
theorem j_Check (t : Tab) (ok : Nat → Prop) (A B : Option Addr) (c d : Nat) (w : World) (hv : TabAt w ok A B t) (hs : ∀ s ∈ t.cols, s.size ≤ maxLen) (hl : t.cols.length ≤ 8000000) :
    Calls Tryz.prog 18 #[.agg #[.slice A t.cols.length c, .slice B t.rows.length d]] w fun e w' => e = .returned (.int .i64 (chkT t)) ∧ Ext w w' := by
  obtain ⟨q, hq⟩ : ∃ q, q = w.heap.size := ⟨_, rfl⟩
  obtain ⟨w1, hw1⟩ : ∃ w1, w1 = w.alloc (.cells #[.slice A t.cols.length c, .slice B t.rows.length d] 25) := ⟨_, rfl⟩
  have hx1 : Ext w w1 := by rw [hw1]; exact (Ext.refl _).alloc _
  have q0 : w1.cell? ⟨q, 0, none⟩ = some (.slice A t.cols.length c) := by rw [hw1, hq, cell_of_row _ _ _ _ _ _ (heap_alloc_new w _)]; rfl
  have q1 : w1.cell? ⟨q, 1, none⟩ = some (.slice B t.rows.length d) := by rw [hw1, hq, cell_of_row _ _ _ _ _ _ (heap_alloc_new w _)]; rfl
  have hqs : q < w1.heap.size := block_lt_of_cell q0
  have hmm := @run_makeMap Tryz.prog
  have HT := Lib.hid (fun h => chkT_twice (t := t) h)
  have HA := Lib.hid (fun h r hr h2 => chkT_arg (t := t) h (r := r) hr h2)
  have HO := Lib.hid (fun h h2 => chkT_ok (t := t) h h2)
  have HC := Lib.hid (hv.cols.ext hx1)
  have HR := Lib.hid (hv.rows.ext hx1)
  have HS := Lib.hid hs
  have HZ := Lib.hid (set_size (.lit (.bool true)) t.cols)
  have hm2 := hv.rows.len
  obtain ⟨l, hl'⟩ : ∃ l, l = t.cols := ⟨_, rfl⟩
  obtain ⟨rs, hr'⟩ : ∃ rs, rs = t.rows := ⟨_, rfl⟩
  obtain ⟨R, hR⟩ : ∃ R, R = chkT t := ⟨_, rfl⟩
  have HW1 := Lib.hid hw1
  have HG := Lib.hid hq
  rw [← hl'] at HT HA HO HC HS HZ hl HW1 q0 ⊢
  rw [← hr'] at HA HO HR HW1 hm2 q1 ⊢
  rw [← hR] at HT HA HO ⊢
  clear hl' hr' hR hv hs hw1 hq
  go_enter Tryz.func18, Tryz.ntmps18
  go_upto_region 1 with (fail)
  rw [← HW1.out, ← HG.out]
  clear HW1 HG
  go_upto_region 3 with (fail)
  clear hmm
  have hown0 : (w1.alloc (.map #[] 0)).ownsMap Tryz.prog 9 (plainElem (H := Unit) Tryz.prog 4) w1.heap.size 0 (setOf (.lit (.bool true)) ((l.take 0).map lit)) := World.ownsMap_made _ _ _ _
  go_loopw [12] (fun u W => ∃ k : Nat, u = .int .i64 k ∧ k ≤ l.length ∧ Hid (W.ownsMap Tryz.prog 9 (plainElem (H := Unit) Tryz.prog 4) w1.heap.size k (setOf (.lit (.bool true)) ((l.take k).map lit))) ∧ Ext w1 W) (fun u _ => l.length - (intOf u).toNat)
  case atStart => exact ⟨0, rfl, Nat.zero_le _, Lib.hid hown0, (Ext.refl _).alloc _⟩
  case round =>
    clear hown0
    obtain ⟨k, rfl, hk, hown, hE⟩ := hrel
    by_cases hlt : k < l.length
    · obtain ⟨b, o, rfl, hc⟩ := HC.out.2 (by omega)
      have h5 := (hc k hlt).2
      rw [Nat.mul_one] at h5
      have d0 := hE.cell h5
      have hkey := key_str l[k] (HS.out _ (List.getElem_mem hlt))
      have HST := Lib.hid (show (setOf (H := Unit) (.lit (.bool true)) ((l.take k).map lit)).put (lit l[k]) (.lit (.bool true)) = setOf (.lit (.bool true)) ((l.take (k + 1)).map lit) by rw [List.take_succ_eq_append_getElem hlt, List.map_append, List.map_cons, List.map_nil, setOf_snoc])
      clear hc h5
      generalize l[k] = x at *
      have hown' := hown.out
      have hkm : k < maxLen := by unfold maxLen; omega
      go_wp2_with (at_mapUpdate; refine wpList_mapUpdate_own _ rfl _ _ _ 58 rfl 9 4 (string_keyed Tryz.underlying9) Tryz.underlying58 _ _ k _ rfl hown' hkm _ _ _ rfl rfl hkey _ [] (plainElem_bool Tryz.underlying4 true) ?_; intro w2 hown2 hg2)
      have HN := Lib.hid (HST.out ▸ hown2)
      have HE2 := hE.mapped hg2 (Nat.le_refl _)
      clear hown2 hown' hown HST
      go_roundw
      case rel => exact ⟨k + 1, by go_num, by omega, HN, HE2⟩
      case measure => simp [intOf]; omega
    · have hown' := hown.out
      rw [List.take_of_length_le (by omega)] at hown'
      have q0' := hE.cell q0
      have q1' := hE.cell q1
      have HN := HZ
      obtain ⟨z, hz⟩ : ∃ z, z = Maps.size (setOf (H := Unit) (.lit (.bool true)) (l.map lit)) := ⟨_, rfl⟩
      rw [← hz] at HN
      have hzl : z ≤ l.length := HN.out.2
      by_cases hzz : z < l.length
      · have HX := Lib.hid (HT.out (HN.out.1.1 hzz))
        go_wp2_with (at_len; refine wpList_len_own _ rfl _ _ rfl 9 4 Tryz.underlying58 _ _ k _ rfl hown' ?_; rw [← hz])
        go_ret
        exact ⟨ret_int HX.out.symm, hx1.trans hE⟩
      · have HD := Lib.hid (show l.Nodup from Decidable.not_not.1 (fun h => hzz (HN.out.1.2 h)))
        have hzz' : decide ((z : Int) < (l.length : Int)) = false := decide_eq_false (by omega)
        go_wp2_with (at_len; refine wpList_len_own _ rfl _ _ rfl 9 4 Tryz.underlying58 _ _ k _ rfl hown' ?_; rw [← hz])
        clear hown' hown hzz' hz
        go_loopw [28] (fun u V => ∃ j : Nat, u = .int .i64 j ∧ j ≤ rs.length ∧ Hid (∀ i (hi : i < rs.length), i < j → rs[i].length = l.length) ∧ Ext w1 V) (fun u _ => rs.length - (intOf u).toNat)
        case atStart => exact ⟨0, rfl, Nat.zero_le _, Lib.hid (fun i _ hi => absurd hi (Nat.not_lt_zero _)), hE⟩
        case round =>
          obtain ⟨j, rfl, hj, hgd, hE2⟩ := hrel
          have s0 := hE2.cell q0
          by_cases hjl : j < rs.length
          · obtain ⟨b, o, rfl, hc⟩ := HR.out.2 (by omega)
            obtain ⟨-, A2, c2, h5, -, -⟩ := hc j hjl
            rw [Nat.mul_one] at h5
            have d0 := hE2.cell h5
            have HAG := Lib.hid (HA.out HD.out rs[j] (List.getElem_mem hjl))
            have HST := Lib.hid (fun (h : rs[j].length = l.length) i hi (hi2 : i < j + 1) => (if e : i = j then (by subst e; exact h) else hgd.out i hi (by omega) : rs[i].length = l.length))
            clear hc h5 hgd
            generalize rs[j] = x at *
            by_cases hxl : x.length = l.length
            · have HS2 := Lib.hid (HST.out hxl)
              have hxd : (x.length : Int) = (l.length : Int) := by omega
              clear hxl
              go_wp2_with fail
              go_roundw
              case rel => exact ⟨j + 1, by go_num, by omega, HS2, hE2⟩
              case measure => simp [intOf]; omega
            · have HX := Lib.hid (HAG.out hxl)
              have hxd : ¬ (x.length : Int) = (l.length : Int) := by omega
              clear hxl
              go_wp2_with fail
              go_ret
              exact ⟨ret_int HX.out.symm, hx1.trans hE2⟩
          · have HX := Lib.hid (HO.out HD.out (fun r hr => by
              obtain ⟨i, hi, rfl⟩ := List.getElem_of_mem hr
              exact hgd.out i hi (by omega)))
            go_wp2_with fail
            go_ret
            exact ⟨ret_int HX.out.symm, hx1.trans hE2⟩
end Go.Proofs.YtbjddimafilflaaGreatDoor

/- A DRAWN REGION THAT READS CELLS FIRST AND WRITES THEM LATER: what the reads need is kept only until operation E comes up. -/
namespace Go.Proofs.YtbjddimafilflaaGreatDoor
open Go.RowKit
section
variable {P : Program} {ops : Array Oper} {Q : Exit → Act → World → Prop} {md : Region.Mode} {S : World → Prop} {E : Nat}
/-- any order; S holds behind each operation that comes up ahead of E -/
def AnyE (P : Program) (md : Region.Mode) (ops : Array Oper) (Q : Exit → Act → World → Prop) (S : World → Prop) (E : Nat) : Nat → Array Bool → Act → World → Prop
  | 0, l, a, w => Region.ready md ops l = [] ∧ Q .normal a w
  | f + 1, l, a, w => (Region.ready md ops l = [] → Q .normal a w) ∧
    ∀ i ∈ Region.ready md ops l, wpOp P ops Q i (fun a' w' => ((l.setIfInBounds i true).getD E false = false → S w') ∧ AnyE P md ops Q S E f (l.setIfInBounds i true) a' w') a w
theorem AnyE.any : ∀ (f : Nat) (l : Array Bool) (a : Act) (w : World), AnyE P md ops Q S E f l a w → wpAny P md ops Q f l a w
  | 0, _, _, _, h => h
  | f + 1, _, _, _, h => ⟨h.1, fun i hi => wpOp_mono (fun a' w' hk => AnyE.any f _ a' w' hk.2) (h.2 i hi)⟩
theorem AnyE.start {id : Nat} {a : Act} {w : World} (hm : P.follows .mixedOrders = true) (hS : S w.drew) (h : S w.drew → AnyE P .any ops Q S E ops.size (Array.replicate ops.size false) a w.drew) : (Code.region id ops true).wp P Q a w :=
  wp_region_any hm (AnyE.any _ _ _ _ (h hS))
theorem AnyE.done {l : Array Bool} {a : Act} {w : World} (hr : Region.ready md ops l = []) (h : Q .normal a w) : ∀ f, AnyE P md ops Q S E f l a w
  | 0 => ⟨hr, h⟩
  | _ + 1 => ⟨fun _ => h, fun i hi => by rw [hr] at hi; cases hi⟩
/-- does E wait for i -/
def waitsOn (md : Region.Mode) (ops : Array Oper) (E i : Nat) : Bool := match ops[E]? with
  | some o => o.after.any (fun e => Region.binds md e && e.on == i)
  | none => false
theorem AnyE.first {i : Nat} {oi : Oper} {v : Value} (hi : ops[i]? = some oi) (hs : Region.noSelect ops = true) (hQ : ∀ c a w, Q (.panic c) (a.put oi.dst v) w → Q (.panic c) a w) (hE : waitsOn md ops E i = true) (hne : i ≠ E) (hlE : ∀ l : Array Bool, l.getD i true = false → E ∈ Region.ready md ops l → False) :
    ∀ (f : Nat) (l : Array Bool) (a : Act) (w : World), (∀ j oj, ops[j]? = some oj → j ≠ i → l.getD j true = false → (∀ e ∈ oj.after, Region.binds md e = true → e.on ≠ i) → oi.apart ops oj = true) →
      i ∈ Region.ready md ops l → l.getD E false = false → YieldsIf P ops S oi v a → S w → AnyE P md ops Q S E f (l.setIfInBounds i true) (a.put oi.dst v) w → AnyE P md ops Q S E (f + 1) l a w := by
  intro f
  induction f with
  | zero =>
    intro l a w _ hr _ hy hS H
    refine ⟨fun h => absurd hr (by rw [h]; exact List.not_mem_nil), fun j hj => ?_⟩
    rcases Nat.decEq j i with hji | hji
    · have hk := ready_mono hj hji
      rw [H.1] at hk
      exact absurd hk List.not_mem_nil
    · subst hji
      exact hy.wpOp hi hS ⟨fun _ => hS, H⟩
  | succ f ih =>
    intro l a w hfree hr hlf hy hS H
    refine ⟨fun h => absurd hr (by rw [h]; exact List.not_mem_nil), fun j hj => ?_⟩
    rcases Nat.decEq j i with hji | hji
    · have hun := (mem_ready.1 hr).1
      have hjE : j ≠ E := fun e => hlE l hun (e ▸ hj)
      obtain ⟨hjun, oj, hoj, hall⟩ := mem_ready.1 hj
      have hno : ∀ e ∈ oj.after, Region.binds md e = true → e.on ≠ i := fun e he hb heq => by
        have h1 := hall e he hb
        rw [heq] at h1
        rcases Nat.lt_or_ge i l.size with hlt | hge
        · simp [hlt] at hun h1
          exact Bool.noConfusion (hun.symm.trans h1)
        · simp [Array.getElem?_eq_none hge] at h1
      have h2 := wpOp_putIf hoj (hfree j oj hoj hji hjun hno) (fun cs b => Region.noSelect_spec hs i oi cs b hi) (fun cs b => Region.noSelect_spec hs j oj cs b hoj) hQ hy (H.2 j (ready_mono hj hji))
      refine wpOp_mono (fun a' w' hk => ?_) h2
      have hS' : S w' := hk.2.1 (by rw [getD_set_ne false hjE, getD_set_ne false hne]; exact hlf)
      refine ⟨fun _ => hS', ih (l.setIfInBounds j true) a' w' (fun k ok hok hki hunk hnok => ?_) (ready_mono hr (fun e => hji e.symm)) (by rw [getD_set_ne false hjE]; exact hlf) hk.1 hS' ?_⟩
      · refine hfree k ok hok hki ?_ hnok
        rcases Nat.decEq j k with hjk | hjk
        · rw [getD_set_ne true hjk] at hunk; exact hunk
        · subst hjk; exact hjun
      · rw [Array.setIfInBounds_comm _ _ hji]
        exact hk.2.2
    · subst hji
      exact hy.wpOp hi hS ⟨fun _ => hS, H⟩
theorem AnyE.firstP {i : Nat} {oi : Oper} {v : Value} (hi : ops[i]? = some oi) (hs : Region.noSelect ops = true) (hQ : ∀ c a w, Q (.panic c) (a.put oi.dst v) w → Q (.panic c) a w) (hne : i ≠ E) :
    ∀ (f : Nat) (l : Array Bool) (a : Act) (w : World), (∀ j oj, ops[j]? = some oj → j ≠ i → l.getD j true = false → (∀ e ∈ oj.after, Region.binds md e = true → e.on ≠ i) → oi.apart ops oj = true) →
      i ∈ Region.ready md ops l → YieldsIf P ops (fun _ => True) oi v a → (l.getD E false = false → S w) → AnyE P md ops Q S E f (l.setIfInBounds i true) (a.put oi.dst v) w → AnyE P md ops Q S E (f + 1) l a w := by
  intro f
  induction f with
  | zero =>
    intro l a w _ hr hy hS H
    refine ⟨fun h => absurd hr (by rw [h]; exact List.not_mem_nil), fun j hj => ?_⟩
    rcases Nat.decEq j i with hji | hji
    · have hk := ready_mono hj hji
      rw [H.1] at hk
      exact absurd hk List.not_mem_nil
    · subst hji
      exact hy.wpOp hi trivial ⟨fun h => hS (by rw [getD_set_ne false hne] at h; exact h), H⟩
  | succ f ih =>
    intro l a w hfree hr hy hS H
    refine ⟨fun h => absurd hr (by rw [h]; exact List.not_mem_nil), fun j hj => ?_⟩
    rcases Nat.decEq j i with hji | hji
    · have hun := (mem_ready.1 hr).1
      obtain ⟨hjun, oj, hoj, hall⟩ := mem_ready.1 hj
      have hno : ∀ e ∈ oj.after, Region.binds md e = true → e.on ≠ i := fun e he hb heq => by
        have h1 := hall e he hb
        rw [heq] at h1
        rcases Nat.lt_or_ge i l.size with hlt | hge
        · simp [hlt] at hun h1
          exact Bool.noConfusion (hun.symm.trans h1)
        · simp [Array.getElem?_eq_none hge] at h1
      have h2 := wpOp_putIf hoj (hfree j oj hoj hji hjun hno) (fun cs b => Region.noSelect_spec hs i oi cs b hi) (fun cs b => Region.noSelect_spec hs j oj cs b hoj) hQ hy (H.2 j (ready_mono hj hji))
      refine wpOp_mono (fun a' w' hk => ?_) h2
      have hS' : (l.setIfInBounds j true).getD E false = false → S w' := fun h => hk.2.1 (by rw [Array.setIfInBounds_comm _ _ (fun e => hji e.symm), getD_set_ne false hne]; exact h)
      refine ⟨hS', ih (l.setIfInBounds j true) a' w' (fun k ok hok hki hunk hnok => ?_) (ready_mono hr (fun e => hji e.symm)) hk.1 hS' ?_⟩
      · refine hfree k ok hok hki ?_ hnok
        rcases Nat.decEq j k with hjk | hjk
        · rw [getD_set_ne true hjk] at hunk; exact hunk
        · subst hjk; exact hjun
      · rw [Array.setIfInBounds_comm _ _ hji]
        exact hk.2.2
    · subst hji
      exact hy.wpOp hi trivial ⟨fun h => hS (by rw [getD_set_ne false hne] at h; exact h), H⟩
theorem waits_not {i : Nat} (h : waitsOn md ops E i = true) : ∀ l : Array Bool, l.getD i true = false → E ∈ Region.ready md ops l → False := fun l hl hr => by
  obtain ⟨-, o, ho, hall⟩ := mem_ready.1 hr
  unfold waitsOn at h
  rw [ho] at h
  obtain ⟨k, hk, he⟩ := Array.any_eq_true.1 h
  rw [Bool.and_eq_true] at he
  have h1 := hall o.after[k] (Array.getElem_mem hk) he.1
  rw [show o.after[k].on = i by simpa using he.2] at h1
  rcases Nat.lt_or_ge i l.size with hlt | hge
  · simp [hlt] at hl h1
    exact Bool.noConfusion (hl.symm.trans h1)
  · simp [Array.getElem?_eq_none hge] at h1
theorem AnyE.take {i : Nat} {oi : Oper} {v : Value} {f : Nat} {l : Array Bool} {a : Act} {w : World} (hi : ops[i]? = some oi) (hs : Region.noSelect ops = true) (hf : Region.free md ops l i = true) (hr : (Region.ready md ops l).contains i = true)
    (hQ : ∀ c a w, Q (.panic c) (a.put oi.dst v) w → Q (.panic c) a w) (hE : waitsOn md ops E i = true) (hne : (i == E) = false) (hl : l.getD E false = false) (hy : YieldsIf P ops S oi v a) (hS : S w)
    (h : AnyE P md ops Q S E f (l.setIfInBounds i true) (a.put oi.dst v) w) : AnyE P md ops Q S E (f + 1) l a w :=
  AnyE.first hi hs hQ hE (by simpa using hne) (waits_not hE) f l a w (Region.free_spec hi hf) (by simpa using hr) hl hy hS h
theorem AnyE.takeP {i : Nat} {oi : Oper} {v : Value} {f : Nat} {l : Array Bool} {a : Act} {w : World} (hi : ops[i]? = some oi) (hs : Region.noSelect ops = true) (hf : Region.free md ops l i = true) (hr : (Region.ready md ops l).contains i = true)
    (hQ : ∀ c a w, Q (.panic c) (a.put oi.dst v) w → Q (.panic c) a w) (hne : (i == E) = false) (hy : YieldsIf P ops (fun _ => True) oi v a) (hS : l.getD E false = false → S w)
    (h : AnyE P md ops Q S E f (l.setIfInBounds i true) (a.put oi.dst v) w) : AnyE P md ops Q S E (f + 1) l a w :=
  AnyE.firstP hi hs hQ (by simpa using hne) f l a w (Region.free_spec hi hf) (by simpa using hr) hy hS h
/-- each of those that may come up -/
def AllE (P : Program) (md : Region.Mode) (ops : Array Oper) (Q : Exit → Act → World → Prop) (S : World → Prop) (E : Nat) (f : Nat) (l : Array Bool) (a : Act) (w : World) (rs : List Nat) : Prop :=
  ∀ i ∈ rs, wpOp P ops Q i (fun a' w' => ((l.setIfInBounds i true).getD E false = false → S w') ∧ AnyE P md ops Q S E f (l.setIfInBounds i true) a' w') a w
theorem AllE.nil {f : Nat} {l : Array Bool} {a : Act} {w : World} : AllE P md ops Q S E f l a w [] := fun _ h => absurd h List.not_mem_nil
theorem AllE.cons {f : Nat} {l : Array Bool} {a : Act} {w : World} {i : Nat} {o : Oper} {rs : List Nat} (ho : ops[i]? = some o)
    (h : ∀ K : Act → World → Prop, Shut (∀ a w, ((l.setIfInBounds i true).getD E false = false → S w) → (((l.setIfInBounds i true).getD E false = false → S w) → AnyE P md ops Q S E f (l.setIfInBounds i true) a w) → K a w) → if Region.wanted o (yielded ops a.tmps) = true then Oper.wp P o a w K Q else K (a.put o.dst undef) w)
    (hs : AllE P md ops Q S E f l a w rs) : AllE P md ops Q S E f l a w (i :: rs) := fun j hj => by
  rcases List.mem_cons.1 hj with rfl | hj
  · exact wpOp_step ho (fun K hK => h K (fun a w h1 h2 => hK a w ⟨h1, h2 h1⟩))
  · exact hs j hj
theorem AnyE.ready {rs : List Nat} {f : Nat} {l : Array Bool} {a : Act} {w : World} (hr : Region.ready md ops l = rs) (hne : rs ≠ []) (h : AllE P md ops Q S E f l a w rs) : AnyE P md ops Q S E (f + 1) l a w := by
  subst hr
  exact ⟨fun e => absurd e hne, h⟩
end
end Go.Proofs.YtbjddimafilflaaGreatDoor
