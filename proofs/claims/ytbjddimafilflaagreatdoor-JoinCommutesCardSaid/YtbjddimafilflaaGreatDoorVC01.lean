/- PARTS OF THE WALKS, joined: Lh, Li. -/
import Derived.Test.YtbjddimafilflaaGreatDoorV00
import Derived.Test.YtbjddimafilflaaGreatDoorV01
import Derived.Test.YtbjddimafilflaaGreatDoorV02
import Derived.Test.YtbjddimafilflaaGreatDoorV03
import Derived.Test.YtbjddimafilflaaGreatDoorV04
import Derived.Test.YtbjddimafilflaaGreatDoorV05
import Derived.Test.YtbjddimafilflaaGreatDoorV06
import Derived.Test.YtbjddimafilflaaGreatDoorV07
import Derived.Test.YtbjddimafilflaaGreatDoorV08
import Derived.Test.YtbjddimafilflaaGreatDoorV09
import Derived.Test.YtbjddimafilflaaGreatDoorV10
import Derived.Test.YtbjddimafilflaaGreatDoorV11
import Derived.Test.YtbjddimafilflaaGreatDoorV12
import Derived.Test.YtbjddimafilflaaGreatDoorV13
import Derived.Test.YtbjddimafilflaaGreatDoorV14
import Derived.Test.YtbjddimafilflaaGreatDoorV15
import Derived.Test.YtbjddimafilflaaGreatDoorV16
import Derived.Test.YtbjddimafilflaaGreatDoorV17
import Derived.Test.YtbjddimafilflaaGreatDoorV18
import Derived.Test.YtbjddimafilflaaGreatDoorV19
import Derived.Test.YtbjddimafilflaaGreatDoorV20
import Derived.Test.YtbjddimafilflaaGreatDoorV21
import Derived.Test.YtbjddimafilflaaGreatDoorVC00
/- THE WALK over the law's arranged. -/
namespace Go.Proofs.YtbjddimafilflaaGreatDoor
open Go.RowKit Go.Sort
theorem box_arr (w : World) (A B X : Option Addr) (n c m d p cx : Nat) (t : TypeId) : ∃ (q : Nat) (w3 : World), q = w.heap.size ∧ w3 = ((w.alloc (.cells #[.slice A n c, .slice B m d] t)).alloc (.cells #[.slice none 0 0, .slice none 0 0] t)).alloc (.cells #[.slice X p cx, .slice none 0 0] t) ∧
    w3.cell? ⟨q, 0, none⟩ = some (.slice A n c) ∧ w3.cell? ⟨q, 1, none⟩ = some (.slice B m d) ∧ w3.cell? ⟨q + 1, 0, none⟩ = some (.slice none 0 0) ∧ w3.cell? ⟨q + 1, 1, none⟩ = some (.slice none 0 0) ∧ w3.cell? ⟨q + 1 + 1, 0, none⟩ = some (.slice X p cx) ∧ w3.cell? ⟨q + 1 + 1, 1, none⟩ = some (.slice none 0 0) ∧
    w3.frozen? ⟨q + 1, 0, none⟩ = false ∧ w3.frozen? ⟨q + 1, 1, none⟩ = false ∧ w3.frozen? ⟨q + 1 + 1, 1, none⟩ = false ∧ w3.heap.size = q + 1 + 1 + 1 ∧ Ext w w3 := by
  obtain ⟨q, w3, hq, hw3, a0, a1, b0, b1, c0, c1, hx⟩ := box_tabs3 w A B none none X none n c m d 0 0 0 0 p cx 0 0 t
  have e1 : (w.alloc (.cells #[.slice A n c, .slice B m d] t)).heap.size = q + 1 := by rw [hq]; simp
  have e2 : ((w.alloc (.cells #[.slice A n c, .slice B m d] t)).alloc (.cells #[.slice none 0 0, .slice none 0 0] t)).heap.size = q + 1 + 1 := by rw [hq]; simp
  have n1 := new_tab (w := w.alloc (.cells #[.slice A n c, .slice B m d] t)) (x := .slice none 0 0) (y := .slice none 0 0) (t := t) (W := w3) (by rw [hw3]; exact (Ext.refl _).alloc _)
  have n2 := new_tab (w := (w.alloc (.cells #[.slice A n c, .slice B m d] t)).alloc (.cells #[.slice none 0 0, .slice none 0 0] t)) (x := .slice X p cx) (y := .slice none 0 0) (t := t) (W := w3) (by rw [hw3]; exact Ext.refl _)
  rw [e1] at n1
  rw [e2] at n2
  exact ⟨q, w3, hq, hw3, a0, a1, b0, b1, c0, c1, n1.2.2.1, n1.2.2.2, n2.2.2.2, by rw [hw3, hq]; simp, hx⟩
/-- the table that is built: its columns stand, its rows are collected in cell 1 of block o -/
structure ArrW (wZ : World) (o : Nat) (x0 v : Value) (acc : List (List Val)) (W : World) : Prop where
  gr : wZ.grownBy W (some o)
  c0 : W.cell? ⟨o, 0, none⟩ = some x0
  c : W.cell? ⟨o, 1, none⟩ = some v
  f : W.frozen? ⟨o, 1, none⟩ = false
  own : OwnRows W wZ.heap.size (fun b => b ≠ o) v acc
  ho : o < wZ.heap.size
theorem ArrW.ext {wZ W W' : World} {o : Nat} {x0 v : Value} {acc : List (List Val)} (h : ArrW wZ o x0 v acc W) (e : Ext W W') : ArrW wZ o x0 v acc W' :=
  ⟨grown_trans h.gr (e.grownBy _), e.cell h.c0, e.cell h.c, frozen_grown (e.grownBy none) h.c (fun e => by cases e) 1 h.f, h.own.ext e, h.ho⟩
theorem ArrW.push {wZ W W' : World} {o : Nat} {x0 v v' : Value} {acc acc' : List (List Val)} (h : ArrW wZ o x0 v acc W) (hg : W.grownBy W' v.ownBlock) (hO : OwnRows W' wZ.heap.size (fun b => b ≠ o) v' acc') :
    W'.cell? ⟨o, 1, none⟩ = some v ∧ W'.frozen? ⟨o, 1, none⟩ = false ∧ ArrW wZ o x0 v' acc' (W'.setCell ⟨o, 1, none⟩ v') := by
  have ho := h.ho
  have hnq : v.ownBlock ≠ some o := fun e => by have := (h.own.lt e).1; omega
  have hnq' : v'.ownBlock ≠ some o := fun e => by have := (hO.lt e).1; omega
  have c := hg.cell h.c (fun e => hnq e.symm)
  have c0 := hg.cell h.c0 (fun e => hnq e.symm)
  have f := frozen_grown hg h.c hnq 1 h.f
  refine ⟨c, f, ⟨hg.os.trans h.gr.os, hg.tape.trans h.gr.tape, hg.output.trans h.gr.output, by simpa using Nat.le_trans h.gr.size hg.size, fun j hj hne => ?_⟩, ?_, World.cell?_setCell_same' _ _ _ (by rw [c]; rfl), by rw [World.frozen?_setCell]; exact f, ?_, ho⟩
  · refine (Below.heap_setCell W' _ _ j (fun e => hne (by rw [e]))).trans ((hg.block j (Nat.lt_of_lt_of_le hj h.gr.size) (fun e => by have := (h.own.lt e.symm).1; omega)).trans (h.gr.block j hj hne))
  · rw [World.cell?_setCell_other _ _ _ _ (fun e => by injection e with _ e2; cases e2)]; exact c0
  · obtain ⟨ps, h1, h2, h3⟩ := hO
    refine ⟨ps, h1, ownsRow_setCell_other h2 hnq' _, fun p hp => (h3 p hp).keep (fun b o' x hb hc => ?_) (fun _ h => h)⟩
    rw [World.cell?_setCell_other _ _ _ _ (fun e => hb.1 (by injection e with e1; exact e1.symm))]; exact hc
theorem Strs.grown {w w' : World} {g : Nat} {ok : Nat → Prop} {A : Option Addr} {l : List ByteArray} (h : Strs w ok A l) (hg : w.grownBy w' (some g)) (hne : ∀ b, ok b → b ≠ g) : Strs w' ok A l :=
  SliceR.mono h (fun b _ _ _ hx => ⟨hx.1, hg.cell hx.2 (fun e => hne b hx.1 (Option.some.inj e))⟩)
set_option maxRecDepth 100000 in
set_option maxHeartbeats 3200000 in
theorem l_arranged (t : Tab) (xs : List ByteArray) (ok okx : Nat → Prop) (A B X : Option Addr) (c d cx : Nat) (w : World) (ht : TabAt w ok A B t) (hx : Strs w okx X xs) (hn : t.cols.Nodup) (hl : ∀ r ∈ t.rows, r.length = t.cols.length) (hsub : ∀ c ∈ xs, c ∈ t.cols) (hlen : t.cols.length = xs.length) (hxl : xs.length ≤ 8000000) (hrl : t.rows.length ≤ 8000000) (hwt : ∀ r ∈ t.rows.map (arrR t.cols xs), wtL r ≤ 8000000 ∧ szL r) :
    Calls Tryz.prog 13 #[.agg #[.slice A t.cols.length c, .slice B t.rows.length d], .slice X xs.length cx] w fun e w' => ∃ B2 d2, e = .returned (.tuple #[.agg #[.slice X xs.length cx, .slice B2 t.rows.length d2], .bool true]) ∧ TabAt w' (fun _ => True) X B2 ⟨xs, sortO ordL (t.rows.map (arrR t.cols xs))⟩ ∧ Ext w w' := by
  obtain ⟨q, w3, hq, hw3, q0, q1, p0, p1, o0, o1, pf0, pf1, of1, hs3, hxw⟩ := box_arr w A B X t.cols.length c t.rows.length d xs.length cx 25
  have HTC := Lib.hid (ht.cols.bnd.ext hxw)
  have HTR := Lib.hid (ht.rows.bnd.ext hxw)
  have HX := Lib.hid (hx.bnd.ext hxw)
  have HAR := Lib.hid (show ArrW w3 (q + 1 + 1) (.slice X xs.length cx) (.slice none 0 0) (([] : List (List Val)).map (arrR t.cols xs)) w3 from ⟨World.grownBy.refl _ _, o0, o1, of1, OwnRows.nil _ _ _, by omega⟩)
  have HSR := Lib.hid (fun W ok2 B2 d2 (h : Rows W ok2 B2 (t.rows.map (arrR t.cols xs))) => r4_SortRows _ ok2 B2 d2 W (by rw [List.length_map]; exact hrl) hwt h)
  have HCO := Lib.hid (fun (r : List Val) R cr okr W (h1 : Strs W (okN ok w) A t.cols) (h2 : Vals W okr R r) (h3 : Strs W (okN okx w) X xs) (h4 : r ∈ t.rows) => l_column t.cols xs r (okN ok w) okr (okN okx w) A B R X c t.rows.length d cr cx W h1 h2 h3 hn (hl r h4) hsub hxl)
  have HW3 := Lib.hid hw3
  have HG := Lib.hid hq
  have hmr := ht.rows.len
  have hle := hxw.le
  have HPF := Lib.hid (And.intro pf0 pf1)
  have HQ := Lib.hid hq
  have HLEN := Lib.hid (show ((t.cols.length : Int) != (xs.length : Int)) = false by rw [hlen]; simp)
  have HS3 := Lib.hid hs3
  clear ht hx hn hl hsub hwt hw3 hq pf0 pf1 of1 hlen hs3
  go_enter Tryz.func13, Tryz.ntmps13
  go_upto_region 2 with (fail)
  rw [← HW3.out, ← HG.out]
  clear HW3 HG
  have hne := HLEN.out
  go_wp2_with fail
  clear HLEN hne o0 o1
  go_loopw [23] (fun u W => ∃ (k : Nat) (v : Value), u = .int .i64 k ∧ k ≤ t.rows.length ∧ Hid (ArrW w3 (q + 1 + 1) (.slice X xs.length cx) v ((t.rows.take k).map (arrR t.cols xs)) W)) (fun u _ => t.rows.length - (intOf u).toNat)
  case atStart => exact ⟨0, _, rfl, Nat.zero_le _, HAR⟩
  case round =>
    clear HAR
    obtain ⟨k, v, rfl, hk, hA⟩ := hrel
    have gr := hA.out.gr
    have HQO := Lib.hid (show q ≠ q + 1 + 1 by omega)
    have c0 := gr.cell q0 (fun e => HQO.out (Option.some.inj e))
    have c1 := gr.cell q1 (fun e => HQO.out (Option.some.inj e))
    have a0 := hA.out.c0
    have a1 := hA.out.c
    have af := hA.out.f
    by_cases hlt : k < t.rows.length
    · obtain ⟨bb, ob, rfl, hcb⟩ := HTR.out.2 (by omega)
      obtain ⟨hbk, Ax, ex, h5, hlex, hvx⟩ := hcb k hlt
      rw [Nat.mul_one] at h5
      have d0 := gr.cell h5 (fun e => by have h1 := Option.some.inj e; have h2 := hbk.2; have h3 := HQ.out; simp only at h1; omega)
      have hob : ∀ b, okN ok w b → b ≠ q + 1 + 1 := fun b hb e => by have h2 := hb.2; have h3 := HQ.out; omega
      have hox : ∀ b, okN okx w b → b ≠ q + 1 + 1 := fun b hb e => by have h2 := hb.2; have h3 := HQ.out; omega
      have HC := Lib.hid (fun W (e : Ext wr W) => HCO.out t.rows[k] Ax ex (okN ok w) W ((HTC.out.grown gr hob).ext e) (Vals.ext (hvx.bnd.to (fun _ h => h.1) |>.keep' (fun b o x hb hc => ⟨gr.cell hc (fun e => hob b hb (Option.some.inj e)), hb⟩)) e) ((HX.out.grown gr hox).ext e) (List.getElem_mem hlt))
      have HSN := Lib.hid (show (t.rows.take (k + 1)).map (arrR t.cols xs) = (t.rows.take k).map (arrR t.cols xs) ++ [arrR t.cols xs t.rows[k]] by rw [List.take_succ_eq_append_getElem hlt, List.map_append, List.map_cons, List.map_nil])
      have hsm : ((t.rows.take k).map (arrR t.cols xs)).length ≤ 8000000 := by rw [List.length_map, List.length_take]; omega
      have HAL := Lib.hid (arr_len t.cols xs t.rows[k])
      have HOB := Lib.hid (fun b (hb : okN ok w b) => (by have := hb.2; omega : b < w3.heap.size))
      have HOO := Lib.hid hob
      have hwo : q + 1 + 1 < wr.heap.size := block_lt_of_cell a0
      have hle2 := gr.size
      clear hcb h5 hvx gr HSR hob hox hbk HTR
      generalize arrR t.cols xs t.rows[k] = y at *
      generalize t.rows[k] = x at *
      go_wp2_with fail
      refine (HC.out _ (Ext.refl _)).mono ?_
      rintro e w5 ⟨A5, c5, rfl, hc5, hV5, hx5⟩
      clear HC HCO
      have b0 := hx5.cell c0
      have b1 := hx5.cell c1
      have b2 := hx5.cell a0
      have b3 := hx5.cell a1
      have hwo5 : q + 1 + 1 < w5.heap.size := block_lt_of_cell b2
      have HAX := Lib.hid (hA.out.ext hx5)
      have hle5 := hx5.le
      go_wp2_with (at_builtin; refine own_pushR rfl (.tmp 38) (.tmp 40) rfl w3.heap.size (fun b => b ≠ q + 1 + 1) w5 v ((t.rows.take k).map (arrR t.cols xs)) y A5 c5 rfl HAX.out.own HAX.out.gr.size (by rw [HAL.out]) rfl (by rw [HAL.out]; exact hc5) (hV5.to (fun b hb => ⟨fun e => by rcases hb with h | h <;> first | exact HOO.out b h e | omega, fun e => by have h1 := hA.out.own.lt e.symm; rcases hb with h | h <;> first | omega | (have := HOB.out b h; omega)⟩)) hsm ?_; intro v9 w9 hO9 hg9; obtain ⟨A9, n9, c9, rfl⟩ := hO9.form'; obtain ⟨z0, z1, hAN⟩ := HAX.out.push hg9 hO9; have HAN := Lib.hid hAN; clear hAN hO9 hg9)
      go_roundw
      case rel => exact ⟨k + 1, _, by go_num, by omega, by rw [HSN.out]; exact HAN⟩
      case measure => simp [intOf]; omega
    · have hkl : k = t.rows.length := by omega
      have HA := Lib.hid (show ArrW w3 (q + 1 + 1) (.slice X xs.length cx) v (t.rows.map (arrR t.cols xs)) wr by have := hA.out; rw [hkl, List.take_length] at this; exact this)
      obtain ⟨A9, c9, rfl, hc9, hR9⟩ := HA.out.own.rows (by rw [List.length_map]; exact hrl)
      have HS := Lib.hid (HSR.out wr _ A9 c9 hR9)
      rw [List.length_map] at a1 HS hc9
      have p0' := gr.cell p0 (fun e => by have h1 := Option.some.inj e; simp only at h1; omega)
      have p1' := gr.cell p1 (fun e => by have h1 := Option.some.inj e; simp only at h1; omega)
      have pf0 := frozen_grown gr p0 (fun e => by have h1 := Option.some.inj e; omega) 0 HPF.out.1
      have pf1 := frozen_grown gr p0 (fun e => by have h1 := Option.some.inj e; omega) 1 HPF.out.2
      have HXW := Lib.hid (HX.out.grown gr (fun b hb e => by have h2 := hb.2; have h3 := HQ.out; omega))
      have HEX := Lib.hid (hxw.grown gr (fun k hk => by cases hk; have h3 := HQ.out; omega))
      have hwo : q + 1 + 1 < wr.heap.size := block_lt_of_cell a0
      clear HCO HSR hR9 hA hkl gr HTR hc9
      go_wp2_with (first | (go_at_call 15; ((with_reducible refine (HS.out).mono ?_); rintro e w6 ⟨A6, c6, rfl, hc6, hV6, hx6⟩; have s0 := hx6.cell a0; have s1 := hx6.cell a1; have sf := frozen_grown (hx6.grownBy none) a1 (fun e => by cases e) 1 af; have t0 := hx6.cell p0'; have t1 := hx6.cell p1'; have tf0 := frozen_grown (hx6.grownBy none) p0' (fun e => by cases e) 0 pf0; have tf1 := frozen_grown (hx6.grownBy none) p0' (fun e => by cases e) 1 pf1)))
      obtain ⟨W7, hW7⟩ : ∃ V, V = w6.setCell ⟨q + 1 + 1, 1, none⟩ (.slice A6 t.rows.length c6) := ⟨_, rfl⟩
      have k7 : ∀ b o x, b ≠ q + 1 + 1 → w6.cell? ⟨b, o, none⟩ = some x → W7.cell? ⟨b, o, none⟩ = some x := fun b o x hb hc => by rw [hW7, World.cell?_setCell_other _ _ _ _ (fun e => hb (by injection e with e1; exact e1.symm))]; exact hc
      obtain ⟨r0, r1⟩ := set2_cells (u0 := .slice X xs.length cx) (u1 := .slice A6 t.rows.length c6) (k7 _ _ _ (by omega) t0) (k7 _ _ _ (by omega) t1)
      have HT8 := Lib.hid (show TabAt ((W7.setCell ⟨q + 1, 0, none⟩ (.slice X xs.length cx)).setCell ⟨q + 1, 1, none⟩ (.slice A6 t.rows.length c6)) (fun _ => True) X A6 ⟨xs, sortO ordL (t.rows.map (arrR t.cols xs))⟩ from
        ⟨SliceR.mono (HXW.out.ext hx6) (fun b o _ _ hx => ⟨trivial, (cell_set2 W7 b _ (q + 1) (by have h2 := hx.1.2; have h3 := HQ.out; omega)).trans (k7 _ _ _ (by have h2 := hx.1.2; have h3 := HQ.out; omega) hx.2)⟩),
         hV6.keep (fun b o x hb hc => (cell_set2 W7 b o (q + 1) (by omega)).trans (k7 _ _ _ (by omega) hc)) (fun _ _ => trivial)⟩)
      have HE8 := Lib.hid (show Ext w ((W7.setCell ⟨q + 1, 0, none⟩ (.slice X xs.length cx)).setCell ⟨q + 1, 1, none⟩ (.slice A6 t.rows.length c6)) by
        have h3 := HQ.out
        rw [hW7]
        exact (((HEX.out.trans hx6).setCell (by simp; omega) _).setCell (by simp; omega) _).setCell (by simp; omega) _)
      rw [← hW7]
      obtain ⟨W8, hW8⟩ : ∃ V, V = (W7.setCell ⟨q + 1, 0, none⟩ (.slice X xs.length cx)).setCell ⟨q + 1, 1, none⟩ (.slice A6 t.rows.length c6) := ⟨_, rfl⟩
      rw [← hW8] at r0 r1 HT8 HE8 ⊢
      clear hW8 hW7 k7 t0 t1 tf0 tf1 s0 s1 sf
      exact bodyPost_ret (v := .tuple #[.agg #[.slice X xs.length cx, .slice A6 t.rows.length c6], .bool true]) (by simp [results, Tryz.results13, go_sem, r0, r1] <;> rfl) rfl ⟨A6, c6, rfl, HT8.out, HE8.out⟩
end Go.Proofs.YtbjddimafilflaaGreatDoor

/- THE WALK over the law JoinCommutes. -/
namespace Go.Proofs.YtbjddimafilflaaGreatDoor
open Go.RowKit Go.Sort
theorem natT_fit40 {a b : Tab} (ha : Sm a) (hb : Sm b) (hsa : ∀ r ∈ a.rows, szL r) (hsb : ∀ r ∈ b.rows, szL r) (ca : chkT a = 0) (cb : chkT b = 0) : TabFit (natT a b) := by
  rw [natT_ok ca cb]
  obtain ⟨nb, lb⟩ := chkT_zero cb
  refine ⟨Nat.le_trans cols_small (by have := ha.1; have := hb.1; omega), ?_, fun r hr => ?_⟩
  · show (sortO ordL (natR a b)).length ≤ 2000
    rw [sortO_len TotC.row]
    have h3 := natR_len2 a b
    have h4 : a.rows.length * b.rows.length ≤ 40 * 40 := Nat.mul_le_mul ha.2.2 hb.2.2
    omega
  · obtain ⟨x, hx, y, hy, -, rfl⟩ := natR_mem (sortO_mem hr)
    have k1 := wtR_mem hx
    have k2 := wtR_mem hy
    have k3 := ha.2.1
    have k4 := hb.2.1
    have k5 := rest_small (a := a.cols) (lb y hy) (by omega) hb.1
    refine ⟨szL_app (hsa x hx) (part_sz (hsb y hy) (fun i hi => by rw [lb y hy]; exact othersK_lt hi)), ?_⟩
    rw [wtL_append]; omega
theorem arr_part (l xs : List ByteArray) (r : List Val) : arrR l xs r = partJ r (xs.map fun c => (posJ l c).getD 0) := by
  unfold arrR partJ; rw [List.map_map]; rfl
theorem arr_swap {a b : Tab} (ca : chkT a = 0) (cb : chkT b = 0) (fa : TabFit (natT a b)) (fb : TabFit (natT b a)) (W : World) (ok ok' : Nat → Prop) (A1 A2 B2 : Option Addr) (c1 c2 d2 : Nat) (hX : Strs W ok A1 (natT a b).cols) (hY : TabAt W ok' A2 B2 (natT b a)) :
    Calls Tryz.prog 13 #[.agg #[.slice A2 (natT b a).cols.length c2, .slice B2 (natT b a).rows.length d2], .slice A1 (natT a b).cols.length c1] W fun e w' => ∃ B3 d3, e = .returned (.tuple #[.agg #[.slice A1 (natT a b).cols.length c1, .slice B3 (natT a b).rows.length d3], .bool true]) ∧ TabAt w' (fun _ => True) A1 B3 (natT a b) ∧ Ext W w' := by
  obtain ⟨na, la⟩ := chkT_zero ca
  obtain ⟨nb, lb⟩ := chkT_zero cb
  have k := chkT_zero (natT_chk cb ca)
  have e1 : (natT a b).cols = colsJ a.cols b.cols := by rw [natT_ok ca cb]
  have e2 : (natT b a).cols = colsJ b.cols a.cols := by rw [natT_ok cb ca]
  have hsub : ∀ c ∈ (natT a b).cols, c ∈ (natT b a).cols := fun c hc => by rw [e1] at hc; rw [e2]; exact mem_cols.2 (mem_cols.1 hc).symm
  have hs := nat_swap ca cb
  have hl : (natT a b).rows.length = (natT b a).rows.length := by rw [hs, sortO_len TotC.row, List.length_map]
  refine (l_arranged (natT b a) (natT a b).cols ok' ok A2 B2 A1 c2 d2 c1 W hY hX k.1 k.2 hsub (by rw [e1, e2]; exact cols_len_comm na nb) (Nat.le_trans fa.1 (by decide)) (Nat.le_trans fb.2.1 (by decide)) (fun r hr => ?_)).mono ?_
  · obtain ⟨y, hy, rfl⟩ := List.mem_map.1 hr
    have hlt : ∀ i ∈ (natT a b).cols.map (fun c => (posJ (natT b a).cols c).getD 0), i < y.length := fun i hi => by
      obtain ⟨c, hc, rfl⟩ := List.mem_map.1 hi
      obtain ⟨j, hj⟩ := pos_mem (hsub c hc)
      rw [hj, k.2 y hy]
      exact (posJ_some hj).1
    rw [arr_part]
    refine ⟨Nat.le_trans (part_wt y _ hlt) ?_, part_sz (fb.2.2 y hy).1 hlt⟩
    rw [List.length_map]
    exact Nat.le_trans (Nat.mul_le_mul fa.1 (fb.2.2 y hy).2) (by decide)
  · rintro e w' ⟨B3, d3, he, hT, hx⟩
    rw [← hl] at he
    rw [← hs] at hT
    exact ⟨B3, d3, he, hT, hx⟩
set_option maxRecDepth 100000 in
set_option maxHeartbeats 6400000 in
theorem l_JoinCommutes (a b : Tab) (ok ok' : Nat → Prop) (A A' B B' : Option Addr) (c c' d d' : Nat) (w : World) (hz : ZeroAt w) (ha : TabAt w ok A B a) (hb : TabAt w ok' A' B' b) (hsa : ∀ s ∈ a.cols, s.size ≤ maxLen) (hsb : ∀ s ∈ b.cols, s.size ≤ maxLen) (hra : ∀ r ∈ a.rows, szL r) (hrb : ∀ r ∈ b.rows, szL r) (hcp : a.cols.length ≤ c) (hcp' : b.cols.length ≤ c') :
    Calls Tryz.prog 3 #[.agg #[.slice A a.cols.length c, .slice B a.rows.length d], .agg #[.slice A' b.cols.length c', .slice B' b.rows.length d']] w fun e w' => e = .returned (.bool true) ∧ Ext w w' := by
  obtain ⟨q, w2, hq, hw2, q0, q1, p0, p1, hxw⟩ := box_tab2 w A B A' B' a.cols.length c a.rows.length d b.cols.length c' b.rows.length d' 25 25
  have HAL := Lib.hid (fun W (e : Ext w2 W) => l_alive W (hz.ext (hxw.trans e)))
  have HZ := Lib.hid (hz.ext hxw)
  have HS1 := Lib.hid (fun W (e : Ext w2 W) => l_small a ok A B c d W (ha.ext (hxw.trans e)) hra)
  have HK1 := Lib.hid (fun W (e : Ext w2 W) => r_Check a ok A B c d W (ha.ext (hxw.trans e)) hcp)
  have HT1 := Lib.hid (ha.ext hxw)
  have HR1 := Lib.hid hra
  have HM1 := Lib.hid hsa
  have hml1 := ha.rows.len
  have HS2 := Lib.hid (fun W (e : Ext w2 W) => l_small b ok' A' B' c' d' W (hb.ext (hxw.trans e)) hrb)
  have HK2 := Lib.hid (fun W (e : Ext w2 W) => r_Check b ok' A' B' c' d' W (hb.ext (hxw.trans e)) hcp')
  have HT2 := Lib.hid (hb.ext hxw)
  have HR2 := Lib.hid hrb
  have HM2 := Lib.hid hsb
  have hml2 := hb.rows.len
  have HW2 := Lib.hid hw2
  have HG := Lib.hid hq
  clear ha hb hz hsa hsb hra hrb hcp hcp' hw2 hq
  obtain ⟨z1, hz1⟩ : ∃ z, z = chkT a := ⟨_, rfl⟩
  obtain ⟨z2, hz2⟩ : ∃ z, z = chkT b := ⟨_, rfl⟩
  rw [← hz1] at HK1
  rw [← hz2] at HK2
  have HZ1 := Lib.hid hz1
  have HZ2 := Lib.hid hz2
  clear hz1 hz2
  go_enter Tryz.func3, Tryz.ntmps3
  go_upto_region 1 with (fail)
  rw [← HW2.out, ← HG.out]
  clear HW2 HG
  go_wp2_with fail
  refine (HS1.out _ (Ext.refl _)).mono ?_
  rintro e m1 ⟨s1, rfl, hs1, hm1⟩
  have u0 := (hm1).cell q0
  have u1 := (hm1).cell q1
  have v0 := (hm1).cell p0
  have v1 := (hm1).cell p1
  cases s1
  · clear hs1
    go_wp2_with (go_at_call 11; ((with_reducible refine (HAL.out _ hm1).mono ?_); rintro e wE ⟨rfl, hxE⟩))
    go_ret
    exact ⟨rfl, hxw.trans (hm1.trans hxE)⟩
  have h1 := Lib.hid (hs1 rfl)
  clear hs1
  go_wp2_with fail
  refine (HS2.out _ hm1).mono ?_
  rintro e m2 ⟨s2, rfl, hs2, hm2⟩
  replace hm2 : Ext w2 m2 := hm1.trans hm2
  clear u0 u1 v0 v1
  have u0 := (hm2).cell q0
  have u1 := (hm2).cell q1
  have v0 := (hm2).cell p0
  have v1 := (hm2).cell p1
  cases s2
  · clear hs2
    go_wp2_with (go_at_call 11; ((with_reducible refine (HAL.out _ hm2).mono ?_); rintro e wE ⟨rfl, hxE⟩))
    go_ret
    exact ⟨rfl, hxw.trans (hm2.trans hxE)⟩
  have h2 := Lib.hid (hs2 rfl)
  clear hs2
  go_wp2_with fail
  refine (HK1.out _ hm2).mono ?_
  rintro e n1 ⟨rfl, hn1⟩
  replace hn1 : Ext w2 n1 := hm2.trans hn1
  clear u0 u1 v0 v1
  have u0 := (hn1).cell q0
  have u1 := (hn1).cell q1
  have v0 := (hn1).cell p0
  have v1 := (hn1).cell p1
  by_cases k1 : z1 = 0
  case neg =>
    go_wp2_with (go_at_call 11; ((with_reducible refine (HAL.out _ hn1).mono ?_); rintro e wE ⟨rfl, hxE⟩))
    go_ret
    exact ⟨rfl, hxw.trans (hn1.trans hxE)⟩
  subst k1
  go_wp2_with fail
  refine (HK2.out _ hn1).mono ?_
  rintro e n2 ⟨rfl, hn2⟩
  replace hn2 : Ext w2 n2 := hn1.trans hn2
  clear u0 u1 v0 v1
  have u0 := (hn2).cell q0
  have u1 := (hn2).cell q1
  have v0 := (hn2).cell p0
  have v1 := (hn2).cell p1
  by_cases k2 : z2 = 0
  case neg =>
    have kk : (z2 != 0) = true := by simp [k2]
    go_wp2_with (go_at_call 11; ((with_reducible refine (HAL.out _ hn2).mono ?_); rintro e wE ⟨rfl, hxE⟩))
    go_ret
    exact ⟨rfl, hxw.trans (hn2.trans hxE)⟩
  subst k2
  have F1 := Lib.hid (natT_fit40 h1.out h2.out HR1.out HR2.out HZ1.out.symm HZ2.out.symm)
  have F2 := Lib.hid (natT_fit40 h2.out h1.out HR2.out HR1.out HZ2.out.symm HZ1.out.symm)
  have HC1 := Lib.hid (fun W (e : Ext w2 W) => j_Natural a b ok ok' A A' B B' c c' d d' W (HZ.out.ext e) (HT1.out.ext e) (HT2.out.ext e) (h1.out.fit HR1.out) (h2.out.fit HR2.out) HM1.out HM2.out)
  have HC2 := Lib.hid (fun W (e : Ext w2 W) => j_Natural b a ok' ok A' A B' B c' c d' d W (HZ.out.ext e) (HT2.out.ext e) (HT1.out.ext e) (h2.out.fit HR2.out) (h1.out.fit HR1.out) HM2.out HM1.out)
  have HC3 := Lib.hid (fun W ok1 ok2 A1 A2 B2 c1 c2 d2 => arr_swap HZ1.out.symm HZ2.out.symm F1.out F2.out W ok1 ok2 A1 A2 B2 c1 c2 d2)
  rw [errJ_ok HZ1.out.symm HZ2.out.symm] at HC1
  rw [errJ_ok HZ2.out.symm HZ1.out.symm] at HC2
  have HSZ := Lib.hid (fun r hr => (F1.out.2.2 r hr).1)
  generalize natT a b = tX at *
  generalize natT b a = tY at *
  clear F1 F2 HT1 HT2 HK1 HK2 HS1 HS2 HZ1 HZ2 HM1 HM2 HR1 HR2
  go_wp2_with fail
  refine (HC1.out _ hn2).mono ?_
  rintro e f1 ⟨A1x, B1x, c1x, d1x, rfl, -, -, T1x, hf1⟩
  have ef1 : Ext w2 f1 := hn2.trans hf1
  clear u0 u1 v0 v1
  have u0 := (ef1).cell q0
  have u1 := (ef1).cell q1
  have v0 := (ef1).cell p0
  have v1 := (ef1).cell p1
  have rf11 : q + 1 < f1.heap.size := block_lt_of_cell v0
  have rf10 : q < f1.heap.size := block_lt_of_cell u0
  go_upto_region 4 with (fail)
  obtain ⟨g1, y1, hg1, hV1, g10, g11, hxy1⟩ := box_tab f1 A1x B1x tX.cols.length c1x tX.rows.length d1x 25
  rw [← hV1, ← hg1]
  have ey1 : Ext w2 y1 := ef1.trans hxy1
  replace T1x := T1x.ext hxy1
  clear hg1 hV1 rf10 rf11 hf1
  clear u0 u1 v0 v1
  have u0 := (ey1).cell q0
  have u1 := (ey1).cell q1
  have v0 := (ey1).cell p0
  have v1 := (ey1).cell p1
  clear ef1 hxy1
  go_wp2_with fail
  refine (HC2.out _ ey1).mono ?_
  rintro e f2 ⟨A2x, B2x, c2x, d2x, rfl, -, -, T2x, hf2⟩
  have ef2 : Ext w2 f2 := ey1.trans hf2
  clear u0 u1 v0 v1
  have u0 := (ef2).cell q0
  have u1 := (ef2).cell q1
  have v0 := (ef2).cell p0
  have v1 := (ef2).cell p1
  have rf21 : q + 1 < f2.heap.size := block_lt_of_cell v0
  have rf20 : q < f2.heap.size := block_lt_of_cell u0
  replace g10 := hf2.cell g10
  replace g11 := hf2.cell g11
  have rg1f2 : g1 < f2.heap.size := block_lt_of_cell g10
  replace T1x := T1x.ext hf2
  go_upto_region 5 with (fail)
  obtain ⟨g2, y2, hg2, hV2, g20, g21, hxy2⟩ := box_tab f2 A2x B2x tY.cols.length c2x tY.rows.length d2x 25
  rw [← hV2, ← hg2]
  have ey2 : Ext w2 y2 := ef2.trans hxy2
  replace T2x := T2x.ext hxy2
  replace g10 := hxy2.cell g10
  replace g11 := hxy2.cell g11
  replace T1x := T1x.ext hxy2
  clear hg2 hV2 rf20 rf21 hf2 rg1f2
  clear u0 u1 v0 v1
  have u0 := (ey2).cell q0
  have u1 := (ey2).cell q1
  have v0 := (ey2).cell p0
  have v1 := (ey2).cell p1
  clear ef2 hxy2
  have HCA := Lib.hid (HC3.out y2 _ _ A1x A2x B2x c1x c2x d2x T1x.cols T2x)
  clear HC1 HC2 HC3
  go_wp2_with fail
  refine HCA.out.mono ?_
  rintro e f3 ⟨B3x, d3x, rfl, T3x, hf3⟩
  have ef3 : Ext w2 f3 := ey2.trans hf3
  clear u0 u1 v0 v1 HCA g20 g21 T2x
  replace g10 := hf3.cell g10
  replace g11 := hf3.cell g11
  have rg1 : g1 < f3.heap.size := block_lt_of_cell g10
  replace T1x := T1x.ext hf3
  go_upto_region 6 with (fail)
  obtain ⟨g3, y3, hg3, hV3, g30, g31, hxy3⟩ := box_tab f3 A1x B3x tX.cols.length c1x tX.rows.length d3x 25
  rw [← hV3, ← hg3]
  have ey3 : Ext w2 y3 := ef3.trans hxy3
  replace T3x := T3x.ext hxy3
  replace T1x := T1x.ext hxy3
  replace g10 := hxy3.cell g10
  replace g11 := hxy3.cell g11
  clear hg3 hV3 rg1
  have HSM := Lib.hid (r_Same tX tX _ _ A1x B1x A1x B3x c1x d1x c1x d3x y3 T1x T3x HSZ.out HSZ.out)
  rw [sameT_self] at HSM
  go_wp2_with fail
  refine (HSM.out).mono ?_
  rintro e z4 ⟨rfl, hz4⟩
  go_wp2_with fail
  refine (HAL.out _ (ey3.trans hz4)).mono ?_
  rintro e z5 ⟨rfl, hz5⟩
  go_wp2_with fail
  go_ret
  exact ⟨rfl, hxw.trans ((ey3.trans hz4).trans hz5)⟩
end Go.Proofs.YtbjddimafilflaaGreatDoor
