/- PARTS OF THE WALKS, joined: Zc, Stage, Zg, OwnD, PlainZb, Zh. -/
import Derived.Test.YtgojggmjajlbpaaGreatDoorV07
import Derived.Test.YtgojggmjajlbpaaGreatDoorV00
import Derived.Deep.RegionHeld
import Derived.Test.YtgojggmjajlbpaaGreatDoorV09
import Derived.Carry
import Derived.Shelf.SlSortCmp.NoneTotal
import Derived.Test.YtgojggmjajlbpaaGreatDoorV04
import Derived.Test.YtgojggmjajlbpaaGreatDoorV06
/- THE WALK over zset.clone: a deep copy of a list of values. -/
namespace Go.Proofs.YtgojggmjajlbpaaGreatDoor
open Go.RowKit
/-- a value with its list's head -/
structure HVal where
  A : Option Addr
  c : Nat
  v : Val
instance : Inhabited HVal := ⟨⟨none, 0, .mk 0 0 0 ByteArray.empty []⟩⟩
def KVal : KindG HVal := ⟨fun h => h.v.cells h.A h.c, 5, fun W ok h => h.v.l.length ≤ h.c ∧ Vals W ok h.A h.v.l, fun _ => rfl, fun h => Val.cells_one h.v h.A h.c, fun _ _ _ _ _ hk hl => ⟨hl.1, hl.2.keep' hk⟩⟩
def zV : HVal := ⟨none, 0, .mk 0 0 0 ⟨#[]⟩ []⟩
def zCells : Array Value := #[.int .i64 0, .int .i64 0, .int .i64 0, .string ⟨#[]⟩, .slice none 0 0]
theorem made_flat (n : Nat) : (madeCells zCells (n * 5)).toList = (List.replicate n zV).flatMap KVal.enc := by
  apply List.ext_getElem?
  intro t
  have hlen : (madeCells zCells (n * 5)).toList.length = n * 5 := by rw [Array.length_toList, size_madeCells]
  have hlen2 : ((List.replicate n zV).flatMap KVal.enc).length = n * 5 := by rw [flat_len KVal.enc 5 KVal.len, List.length_replicate]
  rcases Nat.lt_or_ge t (n * 5) with ht | ht
  · have hq : t / 5 < n := (Nat.div_lt_iff_lt_mul (by decide)).2 ht
    have hr : t % 5 < 5 := Nat.mod_lt _ (by decide)
    have e1 := flat_get KVal.enc 5 KVal.len (List.replicate n zV) (t / 5) (t % 5) (by simpa using hq) hr
    rw [show t / 5 * 5 + t % 5 = t by omega] at e1
    rw [e1, List.getElem?_eq_getElem (by omega)]
    simp only [List.getElem_replicate, madeCells, Array.getElem_toList, Array.getElem_map, Array.getElem_range]
    have h5 : t % 5 = 0 ∨ t % 5 = 1 ∨ t % 5 = 2 ∨ t % 5 = 3 ∨ t % 5 = 4 := by omega
    rcases h5 with h | h | h | h | h <;> simp [zCells, h, KVal, zV, Val.cells, Val.kind, Val.n, Val.d, Val.s, Val.l]
  · rw [List.getElem?_eq_none (by omega), List.getElem?_eq_none (by omega)]
theorem run_make_vals (n : Nat) (hn : n ≤ 8000000) (W : World) : (Instr.makeSlice 23 (.int .i64 (n : Int)) (.int .i64 (n : Int))).run Tryz.prog W = .ok (.slice (some ⟨W.heap.size, 0, none⟩) n n) (W.alloc (.cells (madeCells zCells (n * 5)) 56)) := by
  obtain ⟨i, hi, h0, h1, h2⟩ := info_parts (show (Tryz.prog.info? 56).map (fun i => (i.zero, i.size, i.bytes)) = some (some (.agg zCells), 5, 64) by kernel_rfl)
  have h := run_make (P := Tryz.prog) W 23 56 i (.agg zCells) Tryz.underlying23 hi h0 .i64 .i64 n n (by omega) (by omega) (by rw [h2]; omega) (by omega)
  rw [h1] at h
  simp only [Int.toNat_natCast] at h
  exact h
theorem made_vals (w : World) (n : Nat) (ok0 : Nat → Prop) (hn : n ≤ 8000000) : OwnG KVal 56 (w.alloc (.cells (madeCells zCells (n * 5)) 56)) w.heap.size ok0 (.slice (some ⟨w.heap.size, 0, none⟩) n n) (List.replicate n zV) := by
  have h1 := heap_alloc_new w (.cells (madeCells zCells (n * 5)) 56)
  refine ⟨?_, fun h hh => ?_⟩
  · rw [List.length_replicate]
    refine Blk.own (cs := (madeCells zCells (n * 5)).toList) (by unfold Blk; rw [Array.toArray_toList]; exact h1) (Nat.le_refl _) (Nat.le_refl _) (by unfold maxLen; omega) (by rw [Array.length_toList, size_madeCells]; rfl) ?_
    rw [made_flat, List.take_of_length_le (by rw [flat_len KVal.enc 5 KVal.len, List.length_replicate]; exact Nat.le_refl _)]
  · rw [List.eq_of_mem_replicate hh]; exact ⟨Nat.le_refl _, SliceR.nil _ _ _⟩
theorem flat_set5 {α : Type} (f : α → List Value) (hf : ∀ x, (f x).length = 5) (a0 a1 a2 a3 a4 : Value) : ∀ (l : List α) (i : Nat) (y : α), i < l.length → f y = [a0, a1, a2, a3, a4] → (l.set i y).flatMap f = (((((l.flatMap f).set (i * 5) a0).set (i * 5 + 1) a1).set (i * 5 + 2) a2).set (i * 5 + 3) a3).set (i * 5 + 4) a4
  | [], i, y, h, _ => absurd h (by simp)
  | x :: l, 0, y, _, hy => by
    have hx := hf x
    match hfx : f x, hx with
    | [b0, b1, b2, b3, b4], _ => simp [hfx, hy]
  | x :: l, i + 1, y, h, hy => by
    have ih := flat_set5 f hf a0 a1 a2 a3 a4 l i y (by simpa using h) hy
    have e : ∀ j, (i + 1) * 5 + j = 5 + (i * 5 + j) := fun j => by omega
    have e0 : (i + 1) * 5 = 5 + i * 5 := by omega
    have hx : (f x).length = 5 := hf x
    have S : ∀ (m : List Value) (j : Nat) (u : Value), (f x ++ m).set (5 + j) u = f x ++ m.set j u := fun m j u => by
      rw [List.set_append_right _ _ (by omega), hx, Nat.add_sub_cancel_left]
    rw [List.set_cons_succ, List.flatMap_cons, List.flatMap_cons, ih, e0, S, Nat.add_assoc, S, Nat.add_assoc, S, Nat.add_assoc, S, Nat.add_assoc, S]
/-- a whole value stored at place i -/
theorem OwnG.put5 {e : TypeId} {W : World} {base g n c : Nat} {ok0 : Nat → Prop} {hs : List HVal} (h : OwnG KVal e W base ok0 (.slice (some ⟨g, 0, none⟩) n c) hs) {i : Nat} (hi : i < hs.length) (y : HVal) (hl : KVal.lies W (fun b => ok0 b ∧ some b ≠ some g) y) :
    ∃ W', W' = ((((W.setCell ⟨g, i * 5, none⟩ (.int .i64 y.v.kind)).setCell ⟨g, i * 5 + 1, none⟩ (.int .i64 y.v.n)).setCell ⟨g, i * 5 + 2, none⟩ (.int .i64 y.v.d)).setCell ⟨g, i * 5 + 3, none⟩ (.string y.v.s)).setCell ⟨g, i * 5 + 4, none⟩ (.slice y.A y.v.l.length y.c) ∧
      OwnG KVal e W' base ok0 (.slice (some ⟨g, 0, none⟩) n c) (hs.set i y) ∧ W.grownBy W' (some g) := by
  obtain ⟨A, c', hv⟩ := own_form h.own
  injection hv with h1 h2 h3
  subst h2
  obtain ⟨k0, g0⟩ := World.ownsRow.stored h.own (i * 5) (.int .i64 y.v.kind)
  obtain ⟨k1, g1⟩ := World.ownsRow.stored k0 (i * 5 + 1) (.int .i64 y.v.n)
  obtain ⟨k2, g2⟩ := World.ownsRow.stored k1 (i * 5 + 2) (.int .i64 y.v.d)
  obtain ⟨k3, g3⟩ := World.ownsRow.stored k2 (i * 5 + 3) (.string y.v.s)
  obtain ⟨k4, g4⟩ := World.ownsRow.stored k3 (i * 5 + 4) (.slice y.A y.v.l.length y.c)
  have T : ∀ {a b c : World}, a.grownBy b (some g) → b.grownBy c (some g) → a.grownBy c (some g) := fun p q => ⟨q.os.trans p.os, q.tape.trans p.tape, q.output.trans p.output, Nat.le_trans p.size q.size, fun k hk hne => (q.block k (Nat.lt_of_lt_of_le hk p.size) hne).trans (p.block k hk hne)⟩
  have G := T (T (T (T g0 g1) g2) g3) g4
  refine ⟨_, rfl, ⟨?_, fun p hp => ?_⟩, G⟩
  · rw [List.length_set, flat_set5 KVal.enc KVal.len _ _ _ _ _ hs i y hi rfl]; exact k4
  · have hlies : KVal.lies W (fun b => ok0 b ∧ some b ≠ (Value.slice (some ⟨g, 0, none⟩) hs.length c).ownBlock) p := by
      rcases List.mem_or_eq_of_mem_set hp with hp | hp
      · exact h.lies p hp
      · rw [hp]; exact hl
    exact KVal.keep _ _ _ _ _ (fun b o x hb hc => ⟨G.cell hc (fun e2 => hb.2 (by rw [e2]; rfl)), hb⟩) hlies
theorem own_vals {e : TypeId} {W : World} {base : Nat} {ok0 ok1 : Nat → Prop} {v : Value} {hs : List HVal} {l : List Val} (h : OwnG KVal e W base ok0 v hs) (hl : hs.length = l.length) (hv : ∀ j < l.length, hs[j]!.v = l[j]!) (hm : l.length ≤ 140737488355328) (ho : ∀ b, ok0 b → ok1 b) (hb : ∀ b, base ≤ b → ok1 b) : ∃ A c, v = .slice A l.length c ∧ l.length ≤ c ∧ Vals W ok1 A l := by
  have e1 : hs.map HVal.v = l := List.ext_getElem (by simpa using hl) (fun j h1 h2 => by
    have := hv j h2
    rw [getElem!_pos hs j (by simpa using h1), getElem!_pos l j h2] at this
    rw [List.getElem_map]; exact this)
  obtain ⟨A, c, h1, h2, h3⟩ := OwnG.slice (R := VCells W ok1) HVal.v h (by omega) (fun g o x hg hc hlx => VCells.iff.2 ⟨hb _ hg, x.A, x.c, ⟨hc 0 _ rfl, hc 1 _ rfl, hc 2 _ rfl, hc 3 _ rfl, hc 4 _ rfl⟩, hlx.1, hlx.2.to ho⟩)
  rw [e1] at h3
  rw [hl] at h1 h2
  exact ⟨A, c, h1, h2, h3⟩
theorem own_cells5 {e : TypeId} {W : World} {base g n c : Nat} {ok0 : Nat → Prop} {hs : List HVal} (h : OwnG KVal e W base ok0 (.slice (some ⟨g, 0, none⟩) n c) hs) {i : Nat} (hi : i < hs.length) : ∃ u0 u1 u2 u3 u4, W.cell? ⟨g, i * 5, none⟩ = some u0 ∧ W.cell? ⟨g, i * 5 + 1, none⟩ = some u1 ∧ W.cell? ⟨g, i * 5 + 2, none⟩ = some u2 ∧ W.cell? ⟨g, i * 5 + 3, none⟩ = some u3 ∧ W.cell? ⟨g, i * 5 + 4, none⟩ = some u4 ∧
    W.frozen? ⟨g, i * 5, none⟩ = false ∧ W.frozen? ⟨g, i * 5 + 1, none⟩ = false ∧ W.frozen? ⟨g, i * 5 + 2, none⟩ = false ∧ W.frozen? ⟨g, i * 5 + 3, none⟩ = false ∧ W.frozen? ⟨g, i * 5 + 4, none⟩ = false := by
  obtain ⟨g', hg, -, -, -, -, hc⟩ := h.cellAt hi
  injection hg with hg
  injection hg with hg
  subst hg
  exact ⟨_, _, _, _, _, (hc 0 (by decide)).1, (hc 1 (by decide)).1, (hc 2 (by decide)).1, (hc 3 (by decide)).1, (hc 4 (by decide)).1, (hc 0 (by decide)).2, (hc 1 (by decide)).2, (hc 2 (by decide)).2, (hc 3 (by decide)).2, (hc 4 (by decide)).2⟩
set_option maxRecDepth 100000 in
set_option maxHeartbeats 6400000 in
theorem z_cloneStep (l : List Val) (ok : Nat → Prop) (A : Option Addr) (c : Nat) (w : World) (hv : Vals w ok A l) (hl : l.length ≤ 8000000)
    (ih : ∀ x ∈ l, ∀ (Ax : Option Addr) (cx : Nat) (W : World), Vals W ok Ax x.l → Calls Tryz.prog 32 #[.slice Ax x.l.length cx] W fun e W' => ∃ A' c', e = .returned (.slice A' x.l.length c') ∧ x.l.length ≤ c' ∧ Vals W' (fun b => W.heap.size ≤ b) A' x.l ∧ Ext W W') :
    Calls Tryz.prog 32 #[.slice A l.length c] w fun e w' => ∃ A' c', e = .returned (.slice A' l.length c') ∧ l.length ≤ c' ∧ Vals w' (fun b => w.heap.size ≤ b) A' l ∧ Ext w w' := by
  have hm := hv.len
  obtain ⟨g, hg⟩ : ∃ g, g = w.heap.size := ⟨_, rfl⟩
  have hmk := run_make_vals l.length hl
  have HO := Lib.hid (made_vals w l.length (fun b => w.heap.size ≤ b) hl)
  have HV := Lib.hid hv
  have HI := Lib.hid ih
  have HG := Lib.hid hg
  clear hv ih
  go_enter Tryz.func32, Tryz.ntmps32
  go_wp2_with fail
  rw [← hg] at HO ⊢
  clear hg hmk
  go_loopw [11] (fun u W => ∃ (k : Nat) (hs : List HVal), u = .int .i64 k ∧ k ≤ l.length ∧ Hid (OwnG KVal 56 W g (fun b => g ≤ b) (.slice (some ⟨g, 0, none⟩) l.length l.length) hs) ∧ Hid (hs.length = l.length) ∧ Hid (∀ j < k, hs[j]!.v = l[j]!) ∧ Ext w W) (fun u _ => l.length - (intOf u).toNat)
  case atStart => exact ⟨0, List.replicate l.length zV, rfl, Nat.zero_le _, HO, Lib.hid (by simp), Lib.hid (fun j hj => absurd hj (by omega)), (Ext.refl _).alloc _⟩
  case round =>
    clear HO
    obtain ⟨k, hs, rfl, hk, hown, hhl, hgd, hE⟩ := hrel
    by_cases hlt : k < l.length
    · obtain ⟨b, o, rfl, A', c', hv5, hle5, hl5⟩ := HV.out.at5 hlt
      obtain ⟨d0, d1, d2, d3, d4⟩ := hv5.ext hE
      obtain ⟨g1, w1, hg1, hw1, h6, hx, -⟩ := box_val wr l[k]! A' c' 56
      have HB := Lib.hid (show w1.heap[g1]? = some (.cells #[.int .i64 l[k]!.kind, .int .i64 l[k]!.n, .int .i64 l[k]!.d, .string l[k]!.s, .slice A' l[k]!.l.length c'] 56) by rw [hw1, hg1]; exact heap_alloc_new _ _)
      have HC := Lib.hid (HI.out l[k]! (by rw [getV hlt]; exact List.getElem_mem hlt) A' c' w1 (hl5.ext (hE.trans hx)))
      have hgw : g < wr.heap.size := (hown.out.lt rfl).2
      have hwg : w.heap.size ≤ g := by rw [← HG.out]; exact Nat.le_refl _
      have HW1 := Lib.hid hw1
      have HG1 := Lib.hid hg1
      have hgg : g ≠ g1 := by omega
      have HO1 := Lib.hid (hown.out.ext hx)
      have hkl : k < hs.length := by have := hhl.out; omega
      have HST := Lib.hid (fun (y : HVal) (hy : y.v = l[k]!) j (hj : j < k + 1) => (by
        rw [getElem!_pos (hs.set k y) j (by rw [List.length_set]; omega), List.getElem_set]
        split
        · rename_i h; subst h; exact hy
        · have := hgd.out j (by omega)
          rw [getElem!_pos hs j (by omega)] at this; exact this : (hs.set k y)[j]!.v = l[j]!))
      have HE1 := Lib.hid (hE.trans hx)
      obtain ⟨p0, p1, p2, p3, p4⟩ := h6
      clear hv5 hl5 hw1 hg1 hgd
      generalize l[k]! = x at *
      by_cases hz : x.l.length = 0
      · have hzn : ¬ 0 < x.l.length := by omega
        have hzd : decide ((0 : Int) < (x.l.length : Int)) = false := by simp [hz]
        obtain ⟨u0, u1, u2, u3, u4, q0, q1, q2, q3, q4, f0, f1, f2, f3, f4⟩ := own_cells5 HO1.out hkl
        obtain ⟨W', hW', hOW, hGr⟩ := OwnG.put5 HO1.out hkl ⟨A', c', x⟩ ⟨hle5, by rw [show x.l = [] from List.eq_nil_of_length_eq_zero hz]; exact SliceR.nil _ _ _⟩
        have HOW := Lib.hid hOW
        have HEW := Lib.hid (HE1.out.grown hGr (fun b hb => by injection hb with hb; omega))
        have HHL := Lib.hid (show (hs.set k ⟨A', c', x⟩).length = l.length by rw [List.length_set]; exact hhl.out)
        have HGD := Lib.hid (HST.out ⟨A', c', x⟩ rfl)
        have HWW := Lib.hid hW'
        clear hz HC HB hOW hGr hW' HST HO1 HE1 hown hle5
        go_upto_region 5 with (fail)
        rw [← HW1.out, ← HG1.out]
        clear HW1 HG1 d0 d1 d2 d3 d4
        go_upto_region 8 with (fail)
        rw [← HWW.out]
        go_wp2_with fail
        go_roundw
        case rel => exact ⟨k + 1, _, by go_num, by omega, HOW, HHL, HGD, HEW.out⟩
        case measure => simp [intOf]; omega
      · have hzn : 0 < x.l.length := by omega
        have hzd : decide ((0 : Int) < (x.l.length : Int)) = true := by simp; omega
        have HG0 := Lib.hid (show g1 < w1.heap.size from block_lt_of_cell p0)
        clear hz HO1 HE1 hle5
        go_upto_region 6 with (fail)
        rw [← HW1.out, ← HG1.out]
        clear HW1 d0 d1 d2 d3 d4
        go_wp2_with fail
        refine (HC.out).mono ?_
        rintro e w6 ⟨A2, c2, rfl, hle2, hV2, h6⟩
        have hblk := h6.heap HB.out
        have hfr : w6.frozen? ⟨g1, 4, none⟩ = false := by simp [World.frozen?, hblk]
        replace p0 := h6.cell p0
        replace p1 := h6.cell p1
        replace p2 := h6.cell p2
        replace p3 := h6.cell p3
        replace p4 := h6.cell p4
        obtain ⟨wS, hwS⟩ : ∃ wS, wS = w6.setCell ⟨g1, 4, none⟩ (.slice A2 x.l.length c2) := ⟨_, rfl⟩
        have s0 : wS.cell? ⟨g1, 0, none⟩ = some (.int .i64 x.kind) := by rw [hwS]; go_simp
        have s1 : wS.cell? ⟨g1, 1, none⟩ = some (.int .i64 x.n) := by rw [hwS]; go_simp
        have s2 : wS.cell? ⟨g1, 2, none⟩ = some (.int .i64 x.d) := by rw [hwS]; go_simp
        have s3 : wS.cell? ⟨g1, 3, none⟩ = some (.string x.s) := by rw [hwS]; go_simp
        have s4 : wS.cell? ⟨g1, 4, none⟩ = some (.slice A2 x.l.length c2) := by rw [hwS]; exact World.cell?_setCell_same' _ _ _ (by rw [p4]; rfl)
        have hES : Ext wr wS := by rw [hwS]; exact (hx.trans h6).setCell (show wr.heap.size ≤ g1 from Nat.le_of_eq HG1.out.symm) _
        have hOS := hown.out.ext hES
        have HVS := (show Vals wS (fun b => g ≤ b ∧ some b ≠ some g) A2 x.l by
          rw [hwS]
          refine hV2.keep (fun b o y hb hc => ?_) (fun b hb => ?_)
          · have hne : b ≠ g1 := by have := HG0.out; omega
            rw [World.cell?_setCell_other _ _ _ _ (fun e => hne (by injection e with e1; exact e1.symm))]; exact hc
          · have h1 := hx.le
            refine ⟨by omega, fun e => ?_⟩
            injection e with e
            omega)
        obtain ⟨u0, u1, u2, u3, u4, q0, q1, q2, q3, q4, f0, f1, f2, f3, f4⟩ := own_cells5 hOS hkl
        obtain ⟨W', hW', hOW, hGr⟩ := OwnG.put5 hOS hkl ⟨A2, c2, x⟩ ⟨hle2, HVS⟩
        have HOW := Lib.hid hOW
        have HEW := Lib.hid ((hE.trans hES).grown hGr (fun b hb => by injection hb with hb; omega))
        have HHL := Lib.hid (show (hs.set k ⟨A2, c2, x⟩).length = l.length by rw [List.length_set]; exact hhl.out)
        have HGD := Lib.hid (HST.out ⟨A2, c2, x⟩ rfl)
        have HWW := Lib.hid hW'
        have HWS := Lib.hid hwS
        clear hwS hV2 h6 hblk HC HB HVS hOS hOW hGr hW' hown hhl HG1
        go_upto_region 7 with (fail)
        rw [← HWS.out]
        clear HWS p0 p1 p2 p3 p4 hfr
        go_upto_region 8 with (fail)
        rw [← HWW.out]
        go_wp2_with fail
        go_roundw
        case rel => exact ⟨k + 1, _, by go_num, by omega, HOW, HHL, HGD, HEW.out⟩
        case measure => simp [intOf]; omega
    · have hk' : k = l.length := by omega
      obtain ⟨A9, c9, hv9, -, hV9⟩ := own_vals hown.out hhl.out (fun j hj => hgd.out j (by omega)) hm (ok1 := fun b => w.heap.size ≤ b) (fun b hb => by have := HG.out; omega) (fun b hb => by have := HG.out; omega)
      injection hv9 with h1 h2 h3
      subst h1
      have HVV := Lib.hid hV9
      clear hV9 h2 h3 hown hhl hgd
      go_wp2_with fail
      go_ret
      exact ⟨_, _, rfl, Nat.le_refl _, HVV.out, hE⟩
theorem z_cloneN : ∀ (N : Nat) (l : List Val) (ok : Nat → Prop) (A : Option Addr) (c : Nat) (w : World), wtL l ≤ N → wtL l ≤ 8000000 → Vals w ok A l →
    Calls Tryz.prog 32 #[.slice A l.length c] w fun e w' => ∃ A' c', e = .returned (.slice A' l.length c') ∧ l.length ≤ c' ∧ Vals w' (fun b => w.heap.size ≤ b) A' l ∧ Ext w w'
  | 0, l, ok, A, c, w, hN, hm, hv => z_cloneStep l ok A c w hv (Nat.le_trans (wtL_len l) hm) (fun x hx => by have := wtL_kids hx; omega)
  | N + 1, l, ok, A, c, w, hN, hm, hv => z_cloneStep l ok A c w hv (Nat.le_trans (wtL_len l) hm) (fun x hx Ax cx W hx' => by
    have := wtL_kids hx
    exact z_cloneN N x.l ok Ax cx W (by omega) (by omega) hx')
theorem z_clone (l : List Val) (ok : Nat → Prop) (A : Option Addr) (c : Nat) (w : World) (hm : wtL l ≤ 8000000) (hv : Vals w ok A l) :
    Calls Tryz.prog 32 #[.slice A l.length c] w fun e w' => ∃ A' c', e = .returned (.slice A' l.length c') ∧ l.length ≤ c' ∧ Vals w' (fun b => w.heap.size ≤ b) A' l ∧ Ext w w' :=
  z_cloneN (wtL l) l ok A c w (Nat.le_refl _) hm hv
end Go.Proofs.YtgojggmjajlbpaaGreatDoor

/- A DRAWN REGION THAT READS CELLS FIRST AND WRITES THEM LATER: what the reads need is kept only until operation E comes up. -/
namespace Go.Proofs.YtgojggmjajlbpaaGreatDoor
open Go.RowKit
section
variable {P : Program} {ops : Array Oper} {Q : Exit → Act → World → Prop} {md : Region.Mode} {S : World → Prop} {E : Nat}
/-- any order; S holds behind each operation that comes up ahead of E -/
def AnyE (P : Program) (md : Region.Mode) (ops : Array Oper) (Q : Exit → Act → World → Prop) (S : World → Prop) (E : Nat) : Nat → Array Bool → Act → World → Prop
  | 0, l, a, w => Region.ready md ops l = [] ∧ Q .normal a w
  | f + 1, l, a, w => (Region.ready md ops l = [] → Q .normal a w) ∧
    ∀ i ∈ Region.ready md ops l, wpOp P ops Q i (fun a' w' => ((l.setIfInBounds i true).getD E false = false → S w') ∧ AnyE P md ops Q S E f (l.setIfInBounds i true) a' w') a w
theorem AnyE.any : ∀ (f : Nat) (l : Array Bool) (a : Act) (w : World), AnyE P md ops Q S E f l a w → wpAny P md ops Q f l a w
  | 0, _, _, _, h => h
  | f + 1, _, _, _, h => ⟨h.1, fun i hi => wpOp_mono (fun a' w' hk => AnyE.any f _ a' w' hk.2) (h.2 i hi)⟩
theorem AnyE.start {id : Nat} {a : Act} {w : World} (hm : P.follows .mixedOrders = true) (hS : S w.drew) (h : S w.drew → AnyE P .any ops Q S E ops.size (Array.replicate ops.size false) a w.drew) : (Code.region id ops true).wp P Q a w :=
  wp_region_any hm (AnyE.any _ _ _ _ (h hS))
theorem AnyE.done {l : Array Bool} {a : Act} {w : World} (hr : Region.ready md ops l = []) (h : Q .normal a w) : ∀ f, AnyE P md ops Q S E f l a w
  | 0 => ⟨hr, h⟩
  | _ + 1 => ⟨fun _ => h, fun i hi => by rw [hr] at hi; cases hi⟩
/-- does E wait for i -/
def waitsOn (md : Region.Mode) (ops : Array Oper) (E i : Nat) : Bool := match ops[E]? with
  | some o => o.after.any (fun e => Region.binds md e && e.on == i)
  | none => false
theorem AnyE.first {i : Nat} {oi : Oper} {v : Value} (hi : ops[i]? = some oi) (hs : Region.noSelect ops = true) (hQ : ∀ c a w, Q (.panic c) (a.put oi.dst v) w → Q (.panic c) a w) (hE : waitsOn md ops E i = true) (hne : i ≠ E) (hlE : ∀ l : Array Bool, l.getD i true = false → E ∈ Region.ready md ops l → False) :
    ∀ (f : Nat) (l : Array Bool) (a : Act) (w : World), (∀ j oj, ops[j]? = some oj → j ≠ i → l.getD j true = false → (∀ e ∈ oj.after, Region.binds md e = true → e.on ≠ i) → oi.apart ops oj = true) →
      i ∈ Region.ready md ops l → l.getD E false = false → YieldsIf P ops S oi v a → S w → AnyE P md ops Q S E f (l.setIfInBounds i true) (a.put oi.dst v) w → AnyE P md ops Q S E (f + 1) l a w := by
  intro f
  induction f with
  | zero =>
    intro l a w _ hr _ hy hS H
    refine ⟨fun h => absurd hr (by rw [h]; exact List.not_mem_nil), fun j hj => ?_⟩
    rcases Nat.decEq j i with hji | hji
    · have hk := ready_mono hj hji
      rw [H.1] at hk
      exact absurd hk List.not_mem_nil
    · subst hji
      exact hy.wpOp hi hS ⟨fun _ => hS, H⟩
  | succ f ih =>
    intro l a w hfree hr hlf hy hS H
    refine ⟨fun h => absurd hr (by rw [h]; exact List.not_mem_nil), fun j hj => ?_⟩
    rcases Nat.decEq j i with hji | hji
    · have hun := (mem_ready.1 hr).1
      have hjE : j ≠ E := fun e => hlE l hun (e ▸ hj)
      obtain ⟨hjun, oj, hoj, hall⟩ := mem_ready.1 hj
      have hno : ∀ e ∈ oj.after, Region.binds md e = true → e.on ≠ i := fun e he hb heq => by
        have h1 := hall e he hb
        rw [heq] at h1
        rcases Nat.lt_or_ge i l.size with hlt | hge
        · simp [hlt] at hun h1
          exact Bool.noConfusion (hun.symm.trans h1)
        · simp [Array.getElem?_eq_none hge] at h1
      have h2 := wpOp_putIf hoj (hfree j oj hoj hji hjun hno) (fun cs b => Region.noSelect_spec hs i oi cs b hi) (fun cs b => Region.noSelect_spec hs j oj cs b hoj) hQ hy (H.2 j (ready_mono hj hji))
      refine wpOp_mono (fun a' w' hk => ?_) h2
      have hS' : S w' := hk.2.1 (by rw [getD_set_ne false hjE, getD_set_ne false hne]; exact hlf)
      refine ⟨fun _ => hS', ih (l.setIfInBounds j true) a' w' (fun k ok hok hki hunk hnok => ?_) (ready_mono hr (fun e => hji e.symm)) (by rw [getD_set_ne false hjE]; exact hlf) hk.1 hS' ?_⟩
      · refine hfree k ok hok hki ?_ hnok
        rcases Nat.decEq j k with hjk | hjk
        · rw [getD_set_ne true hjk] at hunk; exact hunk
        · subst hjk; exact hjun
      · rw [Array.setIfInBounds_comm _ _ hji]
        exact hk.2.2
    · subst hji
      exact hy.wpOp hi hS ⟨fun _ => hS, H⟩
theorem AnyE.firstP {i : Nat} {oi : Oper} {v : Value} (hi : ops[i]? = some oi) (hs : Region.noSelect ops = true) (hQ : ∀ c a w, Q (.panic c) (a.put oi.dst v) w → Q (.panic c) a w) (hne : i ≠ E) :
    ∀ (f : Nat) (l : Array Bool) (a : Act) (w : World), (∀ j oj, ops[j]? = some oj → j ≠ i → l.getD j true = false → (∀ e ∈ oj.after, Region.binds md e = true → e.on ≠ i) → oi.apart ops oj = true) →
      i ∈ Region.ready md ops l → YieldsIf P ops (fun _ => True) oi v a → (l.getD E false = false → S w) → AnyE P md ops Q S E f (l.setIfInBounds i true) (a.put oi.dst v) w → AnyE P md ops Q S E (f + 1) l a w := by
  intro f
  induction f with
  | zero =>
    intro l a w _ hr hy hS H
    refine ⟨fun h => absurd hr (by rw [h]; exact List.not_mem_nil), fun j hj => ?_⟩
    rcases Nat.decEq j i with hji | hji
    · have hk := ready_mono hj hji
      rw [H.1] at hk
      exact absurd hk List.not_mem_nil
    · subst hji
      exact hy.wpOp hi trivial ⟨fun h => hS (by rw [getD_set_ne false hne] at h; exact h), H⟩
  | succ f ih =>
    intro l a w hfree hr hy hS H
    refine ⟨fun h => absurd hr (by rw [h]; exact List.not_mem_nil), fun j hj => ?_⟩
    rcases Nat.decEq j i with hji | hji
    · have hun := (mem_ready.1 hr).1
      obtain ⟨hjun, oj, hoj, hall⟩ := mem_ready.1 hj
      have hno : ∀ e ∈ oj.after, Region.binds md e = true → e.on ≠ i := fun e he hb heq => by
        have h1 := hall e he hb
        rw [heq] at h1
        rcases Nat.lt_or_ge i l.size with hlt | hge
        · simp [hlt] at hun h1
          exact Bool.noConfusion (hun.symm.trans h1)
        · simp [Array.getElem?_eq_none hge] at h1
      have h2 := wpOp_putIf hoj (hfree j oj hoj hji hjun hno) (fun cs b => Region.noSelect_spec hs i oi cs b hi) (fun cs b => Region.noSelect_spec hs j oj cs b hoj) hQ hy (H.2 j (ready_mono hj hji))
      refine wpOp_mono (fun a' w' hk => ?_) h2
      have hS' : (l.setIfInBounds j true).getD E false = false → S w' := fun h => hk.2.1 (by rw [Array.setIfInBounds_comm _ _ (fun e => hji e.symm), getD_set_ne false hne]; exact h)
      refine ⟨hS', ih (l.setIfInBounds j true) a' w' (fun k ok hok hki hunk hnok => ?_) (ready_mono hr (fun e => hji e.symm)) hk.1 hS' ?_⟩
      · refine hfree k ok hok hki ?_ hnok
        rcases Nat.decEq j k with hjk | hjk
        · rw [getD_set_ne true hjk] at hunk; exact hunk
        · subst hjk; exact hjun
      · rw [Array.setIfInBounds_comm _ _ hji]
        exact hk.2.2
    · subst hji
      exact hy.wpOp hi trivial ⟨fun h => hS (by rw [getD_set_ne false hne] at h; exact h), H⟩
theorem waits_not {i : Nat} (h : waitsOn md ops E i = true) : ∀ l : Array Bool, l.getD i true = false → E ∈ Region.ready md ops l → False := fun l hl hr => by
  obtain ⟨-, o, ho, hall⟩ := mem_ready.1 hr
  unfold waitsOn at h
  rw [ho] at h
  obtain ⟨k, hk, he⟩ := Array.any_eq_true.1 h
  rw [Bool.and_eq_true] at he
  have h1 := hall o.after[k] (Array.getElem_mem hk) he.1
  rw [show o.after[k].on = i by simpa using he.2] at h1
  rcases Nat.lt_or_ge i l.size with hlt | hge
  · simp [hlt] at hl h1
    exact Bool.noConfusion (hl.symm.trans h1)
  · simp [Array.getElem?_eq_none hge] at h1
theorem AnyE.take {i : Nat} {oi : Oper} {v : Value} {f : Nat} {l : Array Bool} {a : Act} {w : World} (hi : ops[i]? = some oi) (hs : Region.noSelect ops = true) (hf : Region.free md ops l i = true) (hr : (Region.ready md ops l).contains i = true)
    (hQ : ∀ c a w, Q (.panic c) (a.put oi.dst v) w → Q (.panic c) a w) (hE : waitsOn md ops E i = true) (hne : (i == E) = false) (hl : l.getD E false = false) (hy : YieldsIf P ops S oi v a) (hS : S w)
    (h : AnyE P md ops Q S E f (l.setIfInBounds i true) (a.put oi.dst v) w) : AnyE P md ops Q S E (f + 1) l a w :=
  AnyE.first hi hs hQ hE (by simpa using hne) (waits_not hE) f l a w (Region.free_spec hi hf) (by simpa using hr) hl hy hS h
theorem AnyE.takeP {i : Nat} {oi : Oper} {v : Value} {f : Nat} {l : Array Bool} {a : Act} {w : World} (hi : ops[i]? = some oi) (hs : Region.noSelect ops = true) (hf : Region.free md ops l i = true) (hr : (Region.ready md ops l).contains i = true)
    (hQ : ∀ c a w, Q (.panic c) (a.put oi.dst v) w → Q (.panic c) a w) (hne : (i == E) = false) (hy : YieldsIf P ops (fun _ => True) oi v a) (hS : l.getD E false = false → S w)
    (h : AnyE P md ops Q S E f (l.setIfInBounds i true) (a.put oi.dst v) w) : AnyE P md ops Q S E (f + 1) l a w :=
  AnyE.firstP hi hs hQ (by simpa using hne) f l a w (Region.free_spec hi hf) (by simpa using hr) hy hS h
/-- each of those that may come up -/
def AllE (P : Program) (md : Region.Mode) (ops : Array Oper) (Q : Exit → Act → World → Prop) (S : World → Prop) (E : Nat) (f : Nat) (l : Array Bool) (a : Act) (w : World) (rs : List Nat) : Prop :=
  ∀ i ∈ rs, wpOp P ops Q i (fun a' w' => ((l.setIfInBounds i true).getD E false = false → S w') ∧ AnyE P md ops Q S E f (l.setIfInBounds i true) a' w') a w
theorem AllE.nil {f : Nat} {l : Array Bool} {a : Act} {w : World} : AllE P md ops Q S E f l a w [] := fun _ h => absurd h List.not_mem_nil
theorem AllE.cons {f : Nat} {l : Array Bool} {a : Act} {w : World} {i : Nat} {o : Oper} {rs : List Nat} (ho : ops[i]? = some o)
    (h : ∀ K : Act → World → Prop, Shut (∀ a w, ((l.setIfInBounds i true).getD E false = false → S w) → (((l.setIfInBounds i true).getD E false = false → S w) → AnyE P md ops Q S E f (l.setIfInBounds i true) a w) → K a w) → if Region.wanted o (yielded ops a.tmps) = true then Oper.wp P o a w K Q else K (a.put o.dst undef) w)
    (hs : AllE P md ops Q S E f l a w rs) : AllE P md ops Q S E f l a w (i :: rs) := fun j hj => by
  rcases List.mem_cons.1 hj with rfl | hj
  · exact wpOp_step ho (fun K hK => h K (fun a w h1 h2 => hK a w ⟨h1, h2 h1⟩))
  · exact hs j hj
theorem AnyE.ready {rs : List Nat} {f : Nat} {l : Array Bool} {a : Act} {w : World} (hr : Region.ready md ops l = rs) (hne : rs ≠ []) (h : AllE P md ops Q S E f l a w rs) : AnyE P md ops Q S E (f + 1) l a w := by
  subst hr
  exact ⟨fun e => absurd e hne, h⟩
end
end Go.Proofs.YtgojggmjajlbpaaGreatDoor

/- THE WALK over zset.Norm. -/
namespace Go.Proofs.YtgojggmjajlbpaaGreatDoor
open Go.RowKit Go.Sort
open Go.Maps (Keyed string_keyed)
theorem Bag.at_ {w : World} {ok : Nat → Prop} {A : Option Addr} {z : List Sg} (h : Bag w ok A z) {k : Nat} (hk : k < z.length) : ∃ b o, A = some ⟨b, o, none⟩ ∧ ∃ A' c', w.cell? ⟨b, o + k * 2, none⟩ = some (.slice A' z[k]!.1.length c') ∧ w.cell? ⟨b, o + k * 2 + 1, none⟩ = some (.int .i64 z[k]!.2) ∧ z[k]!.1.length ≤ c' ∧ Vals w ok A' z[k]!.1 := by
  obtain ⟨b, o, hA, hc⟩ := h.2 (by omega)
  obtain ⟨-, ⟨A', c', h5, h6, h7⟩, h8⟩ := hc k hk
  refine ⟨b, o, hA, A', c', ?_⟩
  rw [getElem!_pos z k hk]
  exact ⟨h5, h8, h6, h7⟩
theorem take_snoc {α : Type} [Inhabited α] {z : List α} {k : Nat} (h : k < z.length) : z.take (k + 1) = z.take k ++ [z[k]!] := by
  rw [List.take_add_one, List.getElem?_eq_getElem h, getElem!_pos z k h]; rfl
theorem map_bump {hs : List HSg} {i : Nat} (hi : i < hs.length) (n : Int) : (hs.set i ⟨hs[i].A, hs[i].c, (hs[i].x.1, wrap64 (hs[i].x.2 + n))⟩).map HSg.x = bumpZ i n (hs.map HSg.x) := by
  unfold bumpZ
  rw [List.map_set]
  apply List.ext_getElem?
  intro j
  rw [List.getElem?_modify, List.getElem?_set]
  by_cases hij : i = j
  · subst hij
    rw [if_pos rfl, if_pos (by simpa using hi), List.getElem?_map, List.getElem?_eq_getElem hi]
    simp
  · rw [if_neg hij]
    cases (List.map HSg.x hs)[j]? <;> simp [hij]
theorem own_some {W : World} {base : Nat} {ok0 : Nat → Prop} {v : Value} {hs : List HSg} (h : OwnZ W base ok0 v hs) (hne : 0 < hs.length) : ∃ g c, v = .slice (some ⟨g, 0, none⟩) hs.length c ∧ base ≤ g ∧ g < W.heap.size := by
  rcases h.own.2 with ⟨hv, h0⟩ | ⟨g, cap, cur, hv, hb, hh, -⟩
  · omega
  · refine ⟨g, cap, hv, hb, ?_⟩
    subst hv
    exact (OwnG.lt h rfl).2
theorem bump_last (acc : List Sg) (r : List Val) {n : Int} (hn : inW n) : bumpZ acc.length n (acc ++ [(r, 0)]) = acc ++ [(r, n)] := by
  unfold bumpZ
  induction acc with
  | nil => simp [w64_in hn]
  | cons x acc ih => rw [List.cons_append, List.length_cons, List.modify_succ_cons, ih]; rfl
/-- what the loop keeps -/
structure NormSt (w : World) (mb : Nat) (z : List Sg) (v : Value) (k : Nat) (W : World) (hs : List HSg) (gf : Lit → Option Value) : Prop where
  own : OwnZ W (mb + 1) (fun b => mb + 1 ≤ b) v hs
  coll : Coll (z.take k) (hs.map HSg.x)
  mp : MapOf Tryz.prog 9 W mb k gf
  ix : IdxM gf (hs.map HSg.x)
  ext : Ext w W
theorem NormSt.step {w : World} {mb : Nat} {z : List Sg} {k : Nat} {W : World} {L : List HSg} {gf : Lit → Option Value} {g n c i : Nat} (hmb : w.heap.size ≤ mb) (hO : OwnZ W (mb + 1) (fun b => mb + 1 ≤ b) (.slice (some ⟨g, 0, none⟩) n c) L) (hi : i < L.length) (m : Int) (hM : MapOf Tryz.prog 9 W mb k gf) (hI : IdxM gf (L.map HSg.x)) (hC : Coll (z.take k) (bumpZ i m (L.map HSg.x))) (hE : Ext w W) :
    NormSt w mb z (.slice (some ⟨g, 0, none⟩) n c) k (W.drew.setCell ⟨g, i * 2 + 1, none⟩ (.int .i64 (wrap64 (L[i].x.2 + m)))) (L.set i ⟨L[i].A, L[i].c, (L[i].x.1, wrap64 (L[i].x.2 + m))⟩) gf := by
  have hO' : OwnZ W.drew (mb + 1) (fun b => mb + 1 ≤ b) (.slice (some ⟨g, 0, none⟩) n c) L := OwnG.ext hO ((Ext.refl _).drew)
  have hg := (OwnG.lt hO rfl).1
  obtain ⟨h1, h2⟩ := OwnG.stored (K := KSg) hO' hi (j := 1) (by decide) ⟨L[i].A, L[i].c, (L[i].x.1, wrap64 (L[i].x.2 + m))⟩ (.int .i64 (wrap64 (L[i].x.2 + m))) rfl (hO'.lies L[i] (List.getElem_mem hi))
  have hg' : mb + 1 ≤ g := hg
  refine ⟨h1, by rw [map_bump hi]; exact hC, (hM.ext ((Ext.refl _).drew)).grown h2 (fun e => ?_), by rw [map_bump hi]; exact hI.bump i m, ?_⟩
  · injection e with e; omega
  · exact (hE.drew).setCell (show w.heap.size ≤ g by omega) _
set_option maxRecDepth 100000 in
theorem z_DeleteF0 (fv : Value) (w : World) : Calls Tryz.prog 37 #[.slice none 0 0, fv] w fun e w' => e = .returned (.slice none 0 0) ∧ Ext w w' := by
  go_enter Tryz.func37, Tryz.ntmps37
  go_wp2_with (go_at_call 50; ((with_reducible refine (z_IndexF0 _ _).mono ?_); rintro e w1 ⟨rfl, hx1⟩))
  go_ret
  exact ⟨rfl, hx1⟩
theorem sort_sg0 (fv : Value) (w : World) : Calls Tryz.prog 39 #[.slice none 0 0, fv] w fun e w' => e = .returned (.tuple #[]) ∧ Ext w w' := by
  have H := AnyF.slices_SortFunc_none (P := Tryz.prog) Tryz.laysSortSg none 0 fv w
  exact (show Calls Tryz.prog 39 _ w _ from H).mono (fun e w' ⟨h1, h2⟩ => ⟨h1, by rw [h2]; exact Ext.refl _⟩)
theorem filter_x (hs : List HSg) : (hs.filter (fun h => !(h.x.2 == 0))).map HSg.x = (hs.map HSg.x).filter (fun x => x.2 != 0) := by
  rw [List.filter_map]; rfl
set_option maxRecDepth 100000 in
set_option maxHeartbeats 6400000 in
theorem z_NormW (z : List Sg) (ok : Nat → Prop) (A : Option Addr) (c : Nat) (w : World) (hw : TabW w) (hz : ZeroAt w) (hv : Bag w ok A z) (hk0 : OkZ z) (hr : RgZ z) (hl : z.length ≤ 1000) :
    Calls Tryz.prog 17 #[.slice A z.length c] w fun e w' => ∃ v', e = .returned v' ∧ (∃ hs, hs.map HSg.x = normP z ∧ OwnZ w' (w.heap.size + 1) (fun b => w.heap.size + 1 ≤ b) v' hs) ∧ Ext w w' := by
  obtain ⟨mb, hmb⟩ : ∃ mb, mb = w.heap.size := ⟨_, rfl⟩
  have hmade := MapOf.made Tryz.prog 9 w
  obtain ⟨w1, hw1⟩ : ∃ w1, w1 = w.alloc (.map #[] 0) := ⟨_, rfl⟩
  have hx1 : Ext w w1 := by rw [hw1]; exact (Ext.refl _).alloc _
  rw [← hw1, ← hmb] at hmade
  have HST0 := Lib.hid (⟨OwnG.nil _ _ _ _ _, Coll.nil, hmade, IdxM.nil, hx1⟩ : NormSt w mb z (.slice none 0 0) 0 w1 [] (fun _ => none))
  have HV := Lib.hid hv
  have HW := Lib.hid hw
  have HZ := Lib.hid hz
  have HK := Lib.hid hk0
  have HR := Lib.hid hr
  have HMB := Lib.hid hmb
  have HW1 := Lib.hid hw1
  have HZG := Lib.hid (fun (g : Nat) (hg : mb + 1 ≤ g) => (by
    have h1 : 0 < w.heap.size := block_lt_of_cell hz.1
    omega : 0 ≠ g))
  clear hmade hv hw hz hk0 hr hx1
  have hmm := @run_makeMap Tryz.prog
  go_enter Tryz.func17, Tryz.ntmps17
  go_upto_region 2 with (fail)
  rw [← hw1, ← hmb]
  clear hw1 hmb HW1 hmm
  go_wp2_with fail
  go_loopw [4, 13] (fun v u W => ∃ (k : Nat) (hs : List HSg) (gf : Lit → Option Value), u = .int .i64 k ∧ k ≤ z.length ∧ Hid (NormSt w mb z v k W hs gf)) (fun _ u _ => z.length - (intOf u).toNat)
  case atStart => exact ⟨0, [], _, rfl, Nat.zero_le _, HST0⟩
  case round =>
    clear HST0
    obtain ⟨k, hs, gf, rfl, hk, hst⟩ := hrel
    by_cases hlt : k < z.length
    · obtain ⟨b, o, rfl, A', c', c0, c1, hle5, hl5⟩ := HV.out.at_ hlt
      replace c0 := hst.out.ext.cell c0
      replace c1 := hst.out.ext.cell c1
      have hmem : z[k]! ∈ z := by rw [getElem!_pos z k hlt]; exact List.getElem_mem hlt
      obtain ⟨hrg, -, hbk⟩ := HK.out _ hmem
      have HIN := Lib.hid (HR.out _ hmem)
      have HTK := Lib.hid (take_snoc hlt)
      obtain ⟨g1, w2, hg1, hw2, p0, p1, hx2⟩ := box_sg wr ⟨A', c', z[k]!⟩ 38
      dsimp only at hw2 p0 p1
      have HKEY := Lib.hid (fun W (e : Ext w W) => z_key z[k]!.1 ok A' c' W (HW.out.ext e) (hl5.ext e) hrg hbk)
      have HCL := Lib.hid (fun W (e : Ext w W) => z_clone z[k]!.1 ok A' c' W (Nat.le_trans (wt_bk _) (by omega)) (hl5.ext e))
      have hkl : (keyT z[k]!.1).length ≤ 30000000 := by have := keyT_len hrg hbk; omega
      have HKR := Lib.hid (key_row z[k]!.1 hkl)
      have HW2 := Lib.hid hw2
      have HG1 := Lib.hid hg1
      have HSZ := Lib.hid (show w2.heap.size = wr.heap.size + 1 by rw [hw2]; simp)
      have hE2 := hst.out.ext.trans hx2
      have hmk : k < maxLen := by unfold maxLen; omega
      have hcl2 := hst.out.coll.len
      rw [List.length_map, List.length_take] at hcl2
      clear hw2 hg1 hmem hrg hbk hl5 hkl
      generalize z[k]! = x at *
      go_upto_region 6 with (fail)
      rw [← HW2.out, ← HG1.out]
      clear HW2 c0 c1
      go_upto_region 7 with (go_at_call 36; ((with_reducible refine (HKEY.out _ hE2).mono ?_); rintro e w3 ⟨rfl, hx3⟩; replace p0 := hx3.cell p0; replace p1 := hx3.cell p1))
      have hE3 := hE2.trans hx3
      have hMP := hst.out.mp.ext (hx2.trans hx3)
      have hO3 := OwnG.ext hst.out.own (hx2.trans hx3)
      have HIX := Lib.hid (hst.out.ix x.1)
      cases hf : findZ x.1 (hs.map HSg.x) with
      | some i =>
        rw [hf] at HIX
        obtain ⟨hi, -⟩ := findZ_some hf
        have hi' : i < hs.length := by simpa using hi
        obtain ⟨g, c2, rfl, hg0, -⟩ := own_some hO3 (by omega)
        obtain ⟨q0, q1, f0, f1⟩ := own_cells2 hO3 hi'
        have HNS := Lib.hid (NormSt.step (z := z) (k := k + 1) (Nat.le_of_eq HMB.out.symm) hO3 hi' x.2 (hMP.mono (Nat.le_succ _)) hst.out.ix (by rw [HTK.out]; exact hst.out.coll.old x hf) hE3)
        have HMP := Lib.hid hMP
        have HII := Lib.hid hi'
        generalize hs[i] = y at *
        have MKC := Lib.hid (fun V (e : Ext w3 V) => (⟨e.cell q1, e.cell p1⟩ : V.cell? ⟨g, i * 2 + 1, none⟩ = some (.int .i64 y.x.2) ∧ V.cell? ⟨g1, 1, none⟩ = some (.int .i64 x.2)))
        have hil : (i : Int) < (hs.length : Int) := by omega
        clear hst hO3 hMP hf hi HTK
        go_upto_region 12 with (at_lookup; refine wpList_lookok rfl (.tmp 21) (.tmp 22) 47 rfl (string_keyed Tryz.underlying9) Tryz.underlying47 (z := .int .i64 0) rfl mb k gf rfl HMP.out (.string ⟨(keyT x.1).toArray⟩) (.string (keyT x.1)) rfl HKR.out ?_; rw [HIX.out]; simp only [Option.map_some, Option.getD_some, Option.isSome_some])
        refine AnyE.start (S := (fun V => V.cell? ⟨g, i * 2 + 1, none⟩ = some (.int .i64 y.x.2) ∧ V.cell? ⟨g1, 1, none⟩ = some (.int .i64 x.2))) (E := 10) (by kernel_rfl) ?hs1 (fun hHeld => ?go1)
        case hs1 => (exact MKC.out _ (by with_reducible repeat (first | exact Ext.refl _ | assumption | refine Ext.drew ?_ | refine Ext.drewN ?_ _ | refine Ext.alloc ?_ _)))
        refine AnyE.takeP (i := 0) (oi := ⟨(some 40), (.move (.tmp 4)), 22, "zset.go:77", #[], none⟩) (v := ?v2) rfl (by kernel_rfl) (by kernel_rfl) (by kernel_rfl) (fun _ _ _ h => h) rfl (Or.inl ⟨rfl, ?hy2⟩) (fun _ => hHeld) ?rest2
        case hy2 => (intro w _; go_simp <;> rfl)
        (try simp only [PU])
        refine AnyE.takeP (i := 1) (oi := ⟨(some 41), (.move (.tmp 8)), 3, "zset.go:77", #[], none⟩) (v := ?v3) rfl (by kernel_rfl) (by kernel_rfl) (by kernel_rfl) (fun _ _ _ h => h) rfl (Or.inl ⟨rfl, ?hy3⟩) (fun _ => hHeld) ?rest3
        case hy3 => (intro w _; go_simp <;> rfl)
        (try simp only [PU])
        refine AnyE.takeP (i := 2) (oi := ⟨(some 42), (.indexAddr 22 (.tmp 40) (.tmp 41)), 0, "zset.go:77", #[⟨0, .data⟩, ⟨1, .data⟩], none⟩) (v := ?v4) rfl (by kernel_rfl) (by kernel_rfl) (by kernel_rfl) (fun _ _ _ h => h) rfl (Or.inl ⟨rfl, ?hy4⟩) (fun _ => hHeld) ?rest4
        case hy4 => (intro w _; go_simp <;> first | with_reducible rfl | rw [if_neg (by omega)] | rw [if_pos (by omega)])
        (try simp only [PU])
        refine AnyE.takeP (i := 3) (oi := ⟨(some 43), (.fieldAddr 38 (.tmp 42) 1), 0, "zset.go:77", #[⟨2, .data⟩], none⟩) (v := ?v5) rfl (by kernel_rfl) (by kernel_rfl) (by kernel_rfl) (fun _ _ _ h => h) rfl (Or.inl ⟨rfl, ?hy5⟩) (fun _ => hHeld) ?rest5
        case hy5 => (intro w _; go_simp <;> rfl)
        (try simp only [PU])
        refine AnyE.take (i := 4) (oi := ⟨(some 44), (.load 3 (.tmp 43)), 3, "zset.go:77", #[⟨3, .data⟩], none⟩) (v := ?v6) rfl (by kernel_rfl) (by kernel_rfl) (by kernel_rfl) (fun _ _ _ h => h) (by kernel_rfl) rfl (by kernel_rfl) (Or.inl ⟨rfl, ?hy6⟩) hHeld ?rest6
        case hy6 => (intro w hSw; (try dsimp only at hSw); go_simp <;> first | with_reducible rfl | rw [if_neg (by omega)] | rw [if_pos (by omega)])
        (try simp only [PU])
        refine AnyE.takeP (i := 5) (oi := ⟨(some 45), (.fieldAddr 38 (.tmp 6) 1), 0, "zset.go:77", #[], none⟩) (v := ?v7) rfl (by kernel_rfl) (by kernel_rfl) (by kernel_rfl) (fun _ _ _ h => h) rfl (Or.inl ⟨rfl, ?hy7⟩) (fun _ => hHeld) ?rest7
        case hy7 => (intro w _; go_simp <;> rfl)
        (try simp only [PU])
        refine AnyE.take (i := 6) (oi := ⟨(some 46), (.load 3 (.tmp 45)), 3, "zset.go:77", #[⟨5, .data⟩], none⟩) (v := ?v8) rfl (by kernel_rfl) (by kernel_rfl) (by kernel_rfl) (fun _ _ _ h => h) (by kernel_rfl) rfl (by kernel_rfl) (Or.inl ⟨rfl, ?hy8⟩) hHeld ?rest8
        case hy8 => (intro w hSw; (try dsimp only at hSw); go_simp <;> first | with_reducible rfl | rw [if_neg (by omega)] | rw [if_pos (by omega)])
        (try simp only [PU])
        refine AnyE.takeP (i := 7) (oi := ⟨(some 47), (.binOp .add 3 (.tmp 44) (.tmp 46) 3), 3, "zset.go:77", #[⟨4, .data⟩, ⟨6, .data⟩], none⟩) (v := ?v9) rfl (by kernel_rfl) (by kernel_rfl) (by kernel_rfl) (fun _ _ _ h => h) rfl (Or.inl ⟨rfl, ?hy9⟩) (fun _ => hHeld) ?rest9
        case hy9 => (intro w _; go_simp <;> first | with_reducible rfl | rw [if_neg (by omega)] | rw [if_pos (by omega)])
        (try simp only [PU])
        refine AnyE.takeP (i := 8) (oi := ⟨(some 48), (.indexAddr 22 (.tmp 40) (.tmp 41)), 0, "zset.go:77", #[⟨0, .data⟩, ⟨1, .data⟩, ⟨0, .phase⟩, ⟨1, .phase⟩, ⟨2, .phase⟩, ⟨3, .phase⟩, ⟨4, .phase⟩, ⟨5, .phase⟩, ⟨6, .phase⟩, ⟨7, .phase⟩], none⟩) (v := ?v10) rfl (by kernel_rfl) (by kernel_rfl) (by kernel_rfl) (fun _ _ _ h => h) rfl (Or.inl ⟨rfl, ?hy10⟩) (fun _ => hHeld) ?rest10
        case hy10 => (intro w _; go_simp <;> first | with_reducible rfl | rw [if_neg (by omega)] | rw [if_pos (by omega)])
        (try simp only [PU])
        refine AnyE.takeP (i := 9) (oi := ⟨(some 49), (.fieldAddr 38 (.tmp 48) 1), 0, "zset.go:77", #[⟨8, .data⟩, ⟨0, .phase⟩, ⟨1, .phase⟩, ⟨2, .phase⟩, ⟨3, .phase⟩, ⟨4, .phase⟩, ⟨5, .phase⟩, ⟨6, .phase⟩, ⟨7, .phase⟩], none⟩) (v := ?v11) rfl (by kernel_rfl) (by kernel_rfl) (by kernel_rfl) (fun _ _ _ h => h) rfl (Or.inl ⟨rfl, ?hy11⟩) (fun _ => hHeld) ?rest11
        case hy11 => (intro w _; go_simp <;> rfl)
        (try simp only [PU])
        refine AnyE.ready (rs := [10]) (by kernel_rfl) (by simp) ?_
        refine AllE.cons (o := ⟨none, (.store 3 (.tmp 49) (.tmp 47)), 0, "zset.go:77", #[⟨9, .data⟩, ⟨7, .data⟩, ⟨0, .phase⟩, ⟨1, .phase⟩, ⟨2, .phase⟩, ⟨3, .phase⟩, ⟨4, .phase⟩, ⟨5, .phase⟩, ⟨6, .phase⟩, ⟨7, .phase⟩], none⟩) rfl (fun K hK => ?step12x0) ?more12x0
        case more12x0 => exact AllE.nil
        go_simp
        refine hK.out _ _ ?hS12x0 (fun hHeld12 => ?rest12x0)
        case hS12x0 => first | (intro h; exact absurd h (by decide)) | (intro h; simp at h)
        clear hK K
        clear hHeld
        refine AnyE.done (by kernel_rfl) ?_ _
        clear hHeld12
        go_wp2_with fail
        go_roundw
        case rel => exact ⟨k + 1, _, gf, by go_num, by omega, HNS⟩
        case measure => simp [intOf]; omega
      | none =>
        rw [hf] at HIX
        obtain ⟨Av, cv, hve⟩ := OwnG.form hO3
        have hob : ∀ g, u4.ownBlock = some g → mb + 1 ≤ g ∧ g < wr.heap.size := fun g hg => OwnG.lt hst.out.own hg
        have hg1w : wr.heap.size ≤ g1 := Nat.le_of_eq HG1.out.symm
        have hg1v : g1 ≤ wr.heap.size := Nat.le_of_eq HG1.out
        have hx23 := (hx2.trans hx3).le
        have hsz2 : wr.heap.size + 1 ≤ w2.heap.size := Nat.le_of_eq HSZ.out.symm
        have hmr : mb < wr.heap.size := hst.out.mp.lt
        have hx3l := hx3.le
        subst hve
        have HMP := Lib.hid hMP
        have HOB := Lib.hid hob
        have HE3 := Lib.hid hE3
        have HFN := Lib.hid hf
        have HIG := Lib.hid (hst.out.ix)
        have HCO := Lib.hid (by rw [HTK.out]; exact (Coll.new hst.out.coll x HIN.out hf) : Coll (z.take (k + 1)) (hs.map HSg.x ++ [x]))
        have hhl : hs.length + 1 ≤ 8388608 := by omega
        clear hMP hob hf hst hx2 hx3 hE2
        go_upto_region 9 with (at_lookup; refine wpList_lookok rfl (.tmp 21) (.tmp 22) 47 rfl (string_keyed Tryz.underlying9) Tryz.underlying47 (z := .int .i64 0) rfl mb k gf rfl HMP.out (.string ⟨(keyT x.1).toArray⟩) (.string (keyT x.1)) rfl HKR.out ?_; rw [HIX.out]; simp only [Option.map_none, Option.getD_none, Option.isSome_none])
        go_upto_region 11 with (at_mapUpdate; refine wpList_put rfl (.tmp 30) (.tmp 31) (.tmp 32) 47 rfl (string_keyed Tryz.underlying9) Tryz.underlying47 mb k gf rfl HMP.out hmk (.string ⟨(keyT x.1).toArray⟩) (.int .i64 (hs.length : Int)) (.string (keyT x.1)) rfl rfl HKR.out ?_; intro w4 hm4 hg4)
        have hb4 : w3.heap.size ≤ w4.heap.size := hg4.size
        have hO4 := OwnG.grown hO3 hg4 (.inr (fun e => by have := (HOB.out mb e).1; omega)) (fun b hb h => by injection hb with hb; omega)
        replace p0 := hg4.cell p0 (fun e => absurd (show g1 = mb from Option.some.inj e) (by omega))
        replace p1 := hg4.cell p1 (fun e => absurd (show g1 = mb from Option.some.inj e) (by omega))
        have hE4 : Ext w w4 := HE3.out.grown hg4 (fun b hb => by injection hb with hb; have := HMB.out; omega)
        clear hO3 hg4
        have HM4 := Lib.hid hm4
        clear hm4
        go_upto_region 12 with (first | (go_at_call 32; ((with_reducible refine (HCL.out _ hE4).mono ?_); rintro e w5 ⟨A5, c5, rfl, hle, hV5, hx5⟩)) | (at_builtin; refine own_pushG (v := .slice Av hs.length cv) T_sg rfl (.tmp 33) (.tmp 38) rfl w5 rfl (OwnG.ext hO4 hx5) (by have := hx5.le; omega) ⟨A5, c5, (x.1, 0)⟩ ⟨hle, hV5.to (fun b hb => ⟨by omega, fun e => by have := (HOB.out b e.symm).2; omega⟩)⟩ rfl _ rfl rfl hhl (by decide) ?_; intro v6 w6 hO6 hg6 hd6))
        have hi' : hs.length < (hs ++ [(⟨A5, c5, (x.1, 0)⟩ : HSg)]).length := by simp
        obtain ⟨g, c2, rfl, hg0, -⟩ := own_some hO6 (by simp)
        obtain ⟨q0, q1, f0, f1⟩ := own_cells2 hO6 hi'
        have hE6 : Ext w w6 := (hE4.trans hx5).grown hg6 (fun b hb => by have h1 := (HOB.out b hb).1; have := HMB.out; omega)
        have hM6 := (HM4.out.ext hx5).grown hg6 (fun e => by have h1 := (HOB.out mb e.symm).1; omega)
        have hI6 : IdxM (putM gf (.string (keyT x.1)) (.int .i64 (hs.length : Int))) ((hs ++ [(⟨A5, c5, (x.1, 0)⟩ : HSg)]).map HSg.x) := by
          have := HIG.out.new (x.1, 0) HFN.out
          rw [List.length_map] at this
          rw [List.map_append]; exact this
        have hC6 : Coll (z.take (k + 1)) (bumpZ hs.length x.2 ((hs ++ [(⟨A5, c5, (x.1, 0)⟩ : HSg)]).map HSg.x)) := by
          have h1 := bump_last (hs.map HSg.x) x.1 HIN.out
          rw [List.length_map] at h1
          rw [List.map_append]
          exact h1 ▸ HCO.out
        have HNS := Lib.hid (NormSt.step (z := z) (k := k + 1) (Nat.le_of_eq HMB.out.symm) hO6 hi' x.2 hM6 hI6 hC6 hE6)
        replace p1 := hg6.cell (hx5.cell p1) (fun e => absurd (HOB.out g1 e.symm).2 (by omega))
        have hil : (hs.length : Int) < ((hs.length + 1 : Nat) : Int) := by omega
        have hil2 : hs.length < hs.length + 1 := by omega
        have hil3 : (hs.length : Int) < (hs.length : Int) + 1 := by omega
        rw [List.length_append, List.length_singleton] at HNS ⊢
        generalize (hs ++ [(⟨A5, c5, (x.1, 0)⟩ : HSg)])[hs.length]'hi' = y at *
        have MKC := Lib.hid (fun V (e : Ext w6 V) => (⟨e.cell q1, e.cell p1⟩ : V.cell? ⟨g, hs.length * 2 + 1, none⟩ = some (.int .i64 y.x.2) ∧ V.cell? ⟨g1, 1, none⟩ = some (.int .i64 x.2)))
        clear hO6 hM6 hI6 hC6 hg6 hd6 hO4 hV5 hi' q0 f0 p0
        refine AnyE.start (S := (fun V => V.cell? ⟨g, hs.length * 2 + 1, none⟩ = some (.int .i64 y.x.2) ∧ V.cell? ⟨g1, 1, none⟩ = some (.int .i64 x.2))) (E := 10) (by kernel_rfl) ?hs13 (fun hHeld => ?go13)
        case hs13 => (exact MKC.out _ (by with_reducible repeat (first | exact Ext.refl _ | assumption | refine Ext.drew ?_ | refine Ext.drewN ?_ _ | refine Ext.alloc ?_ _)))
        refine AnyE.takeP (i := 0) (oi := ⟨(some 40), (.move (.tmp 4)), 22, "zset.go:77", #[], none⟩) (v := ?v14) rfl (by kernel_rfl) (by kernel_rfl) (by kernel_rfl) (fun _ _ _ h => h) rfl (Or.inl ⟨rfl, ?hy14⟩) (fun _ => hHeld) ?rest14
        case hy14 => (intro w _; go_simp <;> rfl)
        (try simp only [PU])
        refine AnyE.takeP (i := 1) (oi := ⟨(some 41), (.move (.tmp 8)), 3, "zset.go:77", #[], none⟩) (v := ?v15) rfl (by kernel_rfl) (by kernel_rfl) (by kernel_rfl) (fun _ _ _ h => h) rfl (Or.inl ⟨rfl, ?hy15⟩) (fun _ => hHeld) ?rest15
        case hy15 => (intro w _; go_simp <;> rfl)
        (try simp only [PU])
        refine AnyE.takeP (i := 2) (oi := ⟨(some 42), (.indexAddr 22 (.tmp 40) (.tmp 41)), 0, "zset.go:77", #[⟨0, .data⟩, ⟨1, .data⟩], none⟩) (v := ?v16) rfl (by kernel_rfl) (by kernel_rfl) (by kernel_rfl) (fun _ _ _ h => h) rfl (Or.inl ⟨rfl, ?hy16⟩) (fun _ => hHeld) ?rest16
        case hy16 => (intro w _; go_simp <;> first | with_reducible rfl | rw [if_neg (by omega)] | rw [if_pos (by omega)])
        (try simp only [PU])
        refine AnyE.takeP (i := 3) (oi := ⟨(some 43), (.fieldAddr 38 (.tmp 42) 1), 0, "zset.go:77", #[⟨2, .data⟩], none⟩) (v := ?v17) rfl (by kernel_rfl) (by kernel_rfl) (by kernel_rfl) (fun _ _ _ h => h) rfl (Or.inl ⟨rfl, ?hy17⟩) (fun _ => hHeld) ?rest17
        case hy17 => (intro w _; go_simp <;> rfl)
        (try simp only [PU])
        refine AnyE.take (i := 4) (oi := ⟨(some 44), (.load 3 (.tmp 43)), 3, "zset.go:77", #[⟨3, .data⟩], none⟩) (v := ?v18) rfl (by kernel_rfl) (by kernel_rfl) (by kernel_rfl) (fun _ _ _ h => h) (by kernel_rfl) rfl (by kernel_rfl) (Or.inl ⟨rfl, ?hy18⟩) hHeld ?rest18
        case hy18 => (intro w hSw; (try dsimp only at hSw); go_simp <;> first | with_reducible rfl | rw [if_neg (by omega)] | rw [if_pos (by omega)])
        (try simp only [PU])
        refine AnyE.takeP (i := 5) (oi := ⟨(some 45), (.fieldAddr 38 (.tmp 6) 1), 0, "zset.go:77", #[], none⟩) (v := ?v19) rfl (by kernel_rfl) (by kernel_rfl) (by kernel_rfl) (fun _ _ _ h => h) rfl (Or.inl ⟨rfl, ?hy19⟩) (fun _ => hHeld) ?rest19
        case hy19 => (intro w _; go_simp <;> rfl)
        (try simp only [PU])
        refine AnyE.take (i := 6) (oi := ⟨(some 46), (.load 3 (.tmp 45)), 3, "zset.go:77", #[⟨5, .data⟩], none⟩) (v := ?v20) rfl (by kernel_rfl) (by kernel_rfl) (by kernel_rfl) (fun _ _ _ h => h) (by kernel_rfl) rfl (by kernel_rfl) (Or.inl ⟨rfl, ?hy20⟩) hHeld ?rest20
        case hy20 => (intro w hSw; (try dsimp only at hSw); go_simp <;> first | with_reducible rfl | rw [if_neg (by omega)] | rw [if_pos (by omega)])
        (try simp only [PU])
        refine AnyE.takeP (i := 7) (oi := ⟨(some 47), (.binOp .add 3 (.tmp 44) (.tmp 46) 3), 3, "zset.go:77", #[⟨4, .data⟩, ⟨6, .data⟩], none⟩) (v := ?v21) rfl (by kernel_rfl) (by kernel_rfl) (by kernel_rfl) (fun _ _ _ h => h) rfl (Or.inl ⟨rfl, ?hy21⟩) (fun _ => hHeld) ?rest21
        case hy21 => (intro w _; go_simp <;> first | with_reducible rfl | rw [if_neg (by omega)] | rw [if_pos (by omega)])
        (try simp only [PU])
        refine AnyE.takeP (i := 8) (oi := ⟨(some 48), (.indexAddr 22 (.tmp 40) (.tmp 41)), 0, "zset.go:77", #[⟨0, .data⟩, ⟨1, .data⟩, ⟨0, .phase⟩, ⟨1, .phase⟩, ⟨2, .phase⟩, ⟨3, .phase⟩, ⟨4, .phase⟩, ⟨5, .phase⟩, ⟨6, .phase⟩, ⟨7, .phase⟩], none⟩) (v := ?v22) rfl (by kernel_rfl) (by kernel_rfl) (by kernel_rfl) (fun _ _ _ h => h) rfl (Or.inl ⟨rfl, ?hy22⟩) (fun _ => hHeld) ?rest22
        case hy22 => (intro w _; go_simp <;> first | with_reducible rfl | rw [if_neg (by omega)] | rw [if_pos (by omega)])
        (try simp only [PU])
        refine AnyE.takeP (i := 9) (oi := ⟨(some 49), (.fieldAddr 38 (.tmp 48) 1), 0, "zset.go:77", #[⟨8, .data⟩, ⟨0, .phase⟩, ⟨1, .phase⟩, ⟨2, .phase⟩, ⟨3, .phase⟩, ⟨4, .phase⟩, ⟨5, .phase⟩, ⟨6, .phase⟩, ⟨7, .phase⟩], none⟩) (v := ?v23) rfl (by kernel_rfl) (by kernel_rfl) (by kernel_rfl) (fun _ _ _ h => h) rfl (Or.inl ⟨rfl, ?hy23⟩) (fun _ => hHeld) ?rest23
        case hy23 => (intro w _; go_simp <;> rfl)
        (try simp only [PU])
        refine AnyE.ready (rs := [10]) (by kernel_rfl) (by simp) ?_
        refine AllE.cons (o := ⟨none, (.store 3 (.tmp 49) (.tmp 47)), 0, "zset.go:77", #[⟨9, .data⟩, ⟨7, .data⟩, ⟨0, .phase⟩, ⟨1, .phase⟩, ⟨2, .phase⟩, ⟨3, .phase⟩, ⟨4, .phase⟩, ⟨5, .phase⟩, ⟨6, .phase⟩, ⟨7, .phase⟩], none⟩) rfl (fun K hK => ?step24x0) ?more24x0
        case more24x0 => exact AllE.nil
        go_simp
        refine hK.out _ _ ?hS24x0 (fun hHeld24 => ?rest24x0)
        case hS24x0 => first | (intro h; exact absurd h (by decide)) | (intro h; simp at h)
        clear hK K
        clear hHeld
        refine AnyE.done (by kernel_rfl) ?_ _
        clear hHeld24
        go_wp2_with fail
        go_roundw
        case rel => exact ⟨k + 1, _, _, by go_num, by omega, HNS⟩
        case measure => simp [intOf]; omega
    · have hkz : k = z.length := by omega
      have HCO := Lib.hid (by have := hst.out.coll; rwa [hkz, List.take_length] at this : Coll z (hs.map HSg.x))
      have HE := Lib.hid hst.out.ext
      have hle := HCO.out.len
      rw [List.length_map] at hle
      rcases hst.out.own.own.2 with ⟨rfl, h0⟩ | ⟨g, cap, cur, rfl, hb, hh, -⟩
      · have h1 : hs = [] := List.eq_nil_of_length_eq_zero h0
        have HN := Lib.hid (Coll.norm (L := []) HCO.out HR.out (by rw [h1]; exact List.Perm.refl _) List.Pairwise.nil)
        clear hst h0 h1
        go_wp2_with (first | (go_at_call 37; ((with_reducible refine (z_DeleteF0 _ _).mono ?_); rintro e w5 ⟨rfl, hx5⟩)) | (go_at_call 39; ((with_reducible refine (sort_sg0 _ _).mono ?_); rintro e w6 ⟨rfl, hx6⟩)))
        go_ret
        exact ⟨_, rfl, ⟨[], HN.out, OwnG.nil _ _ _ _ _⟩, HE.out.trans (hx5.trans hx6)⟩
      · have HD := Lib.hid (z_DeleteF (fun x => x.2 == 0) _ eg_p0 z_pred0 hs (mb + 1) _ g hs.length cap wr hst.out.own rfl (by omega))
        have HZR := Lib.hid (HZ.out.ext hst.out.ext)
        have HB := Lib.hid hb
        clear hst hb hh
        go_upto_region 15 with (go_at_call 37; ((with_reducible refine (HD.out).mono ?_); rintro e w5 ⟨m, rfl, hO5, hG5⟩))
        obtain ⟨A9, c9, hv9⟩ := OwnG.form hO5
        injection hv9 with h1 h2 h3
        subst h2 h3
        have HS := Lib.hid (sort_sg (hs.filter (fun h => !(h.x.2 == 0))) (mb + 1) _ g cap w5 hO5 (Nat.le_trans (List.length_filter_le _ _) (by omega)) (HZR.out.grown hG5 (HZG.out g HB.out)) (HZG.out g HB.out))
        have HE5 := Lib.hid (HE.out.grown hG5 (fun b hb => by injection hb with hb; have := HB.out; have := HMB.out; omega))
        clear hO5 hG5 h1
        go_wp2_with (go_at_call 39; ((with_reducible refine (HS.out).mono ?_); rintro e w6 ⟨rfl, hs', hp, hpw, hO6, hG6⟩))
        go_ret
        refine ⟨_, rfl, ⟨hs', ?_, by have := HMB.out; subst this; exact hO6⟩, HE5.out.grown hG6 (fun b hb => by injection hb with hb; have := HB.out; have := HMB.out; omega)⟩
        have hpp := hp.map HSg.x
        rw [filter_x] at hpp
        exact Coll.norm HCO.out HR.out hpp (List.pairwise_map.2 hpw)
end Go.Proofs.YtgojggmjajlbpaaGreatDoor

/- A WHOLE SLICE APPENDED to a row that a call owns, any kind of element; parts of such a row as slices. -/
namespace Go.Proofs.YtgojggmjajlbpaaGreatDoor
open Go.RowKit
variable {α : Type} {K : KindG α} {P : Program} {e : TypeId} {base : Nat} {ok0 : Nat → Prop} {v : Value} {hs : List α} {t bytes : Nat}
theorem run_append_zero' {P : Program} (w : World) (t ty e : TypeId) (z : Value) (size bytes : Nat) (ht : P.underlying t = some (.slice e)) (hi : (P.info? e).map (fun i => (i.zero, i.size, i.bytes)) = some (some z, size, bytes)) (B : Option Addr) (n cap c : Nat) (hn : n ≤ cap) :
    (Builtin.append_ #[t, t] ty #[.slice B n cap, .slice none 0 c]).run P w = .ok (.slice B n cap) w := by
  obtain ⟨i, hi, hz0, hz1, hz2⟩ := info_parts hi
  cases B <;> simp [Builtin.append_, run_underlying ht, sizeOf, typeInfo, hi, Builtin.lenOf, run_firstCells_none, hn, storeCells]
theorem run_catG (T : ElT P t e K.size bytes) (ty : TypeId) (w : World) (h : OwnG K e w base ok0 v hs) (hb : base ≤ w.heap.size) (A : Option Addr) (m c : Nat) (hs2 : List α) (hm : m = hs2.length) (hA : A = none → m = 0)
    (hc : ∀ ad, A = some ad → ∀ j u, (hs2.flatMap K.enc)[j]? = some u → w.cell? (ad.add j) = some u) (hl : ∀ p ∈ hs2, K.lies w (fun b => ok0 b ∧ some b ≠ v.ownBlock) p) (h63 : hs.length + m ≤ 8388608) (hbytes : bytes ≤ 1000000) :
    ∃ v' w', (Builtin.append_ #[t, t] ty #[v, .slice A m c]).run P w = .ok v' w' ∧ OwnG K e w' base ok0 v' (hs ++ hs2) ∧ w.grownBy w' v.ownBlock ∧ (v'.ownBlock = v.ownBlock ∨ v'.ownBlock = some w.heap.size) := by
  obtain ⟨z, hz, hzc⟩ := T.hi
  obtain ⟨i, hi, hz0, hz1, hz2⟩ := info_parts hz
  cases A with
  | none =>
    obtain rfl := hA rfl
    have h2 : hs2 = [] := List.eq_nil_of_length_eq_zero hm.symm
    obtain ⟨B, cap, hv, hle⟩ : ∃ B cap, v = .slice B hs.length cap ∧ hs.length ≤ cap := by
      rcases h.own.2 with ⟨hv, h0⟩ | ⟨g, cap, cur, hv, hb, hh, hc, _⟩
      · exact ⟨none, 0, by rw [hv, h0], by omega⟩
      · exact ⟨_, cap, hv, hc⟩
    refine ⟨v, w, ?_, by rw [h2, List.append_nil]; exact h, World.grownBy.refl _ _, .inl rfl⟩
    rw [hv]
    exact run_append_zero' (P := P) w t ty e z K.size bytes T.ht hz B hs.length cap c hle
  | some ad =>
    have hfl : (hs2.flatMap K.enc).length = m * K.size := by rw [flat_len K.enc K.size K.len, hm]
    obtain ⟨v', w', hr, k1, k2, -, k3⟩ := run_append_own_at (P := P) w base t ty e i z K.size bytes T.ht hi hz0 hz1 hz2 hzc T.hs v hs.length (hs.flatMap K.enc) h.own ad m c (hs2.flatMap K.enc) hfl (hc ad rfl) (fun u hu => by
      obtain ⟨x, -, hx⟩ := List.mem_flatMap.1 hu
      exact K.one x u hx) (by unfold maxLen; omega) (Nat.le_trans (Nat.mul_le_mul h63 hbytes) (by decide)) hb
    have hcell : ∀ b o y, (ok0 b ∧ some b ≠ v.ownBlock) → w.cell? ⟨b, o, none⟩ = some y → w'.cell? ⟨b, o, none⟩ = some y ∧ (ok0 b ∧ some b ≠ v'.ownBlock) := fun b o y hb hc => by
      have hlt : b < w.heap.size := block_lt_of_cell hc
      refine ⟨k2.cell hc hb.2, hb.1, ?_⟩
      rcases k3 with e2 | e2
      · rw [e2]; exact hb.2
      · rw [e2]
        intro e3
        injection e3 with e3
        omega
    refine ⟨v', w', hr, ⟨by rw [List.length_append, List.flatMap_append, ← hm]; exact k1, fun p hp => ?_⟩, k2, k3⟩
    rcases List.mem_append.1 hp with hp | hp
    · exact K.keep _ _ _ _ _ hcell (h.lies p hp)
    · exact K.keep _ _ _ _ _ hcell (hl p hp)
theorem own_catG (T : ElT P t e K.size bytes) {ops : Array Oper} {rest : List Oper} {o : Oper} {a : Act} {Q : Exit → Act → World → Prop} {w : World} (hgd : o.guard = none) (s y : Operand)
    (ho : o.op = .call { callee := .builtin .append, args := #[s, y], argTypes := #[t, t] }) (hs' : a.eval s = v) (h : OwnG K e w base ok0 v hs) (hb : base ≤ w.heap.size) (A : Option Addr) (m c : Nat) (hs2 : List α) (hy : a.eval y = .slice A m c) (hm : m = hs2.length) (hA : A = none → m = 0)
    (hc : ∀ ad, A = some ad → ∀ j u, (hs2.flatMap K.enc)[j]? = some u → w.cell? (ad.add j) = some u) (hl : ∀ p ∈ hs2, K.lies w (fun b => ok0 b ∧ some b ≠ v.ownBlock) p) (h63 : hs.length + m ≤ 8388608) (hbytes : bytes ≤ 1000000)
    (hK : ∀ v' w', OwnG K e w' base ok0 v' (hs ++ hs2) → w.grownBy w' v.ownBlock → (v'.ownBlock = v.ownBlock ∨ v'.ownBlock = some w.heap.size) → wpList P ops Q rest (a.put o.dst v') w') : wpList P ops Q (o :: rest) a w := by
  obtain ⟨v', w', hr, h1, h2, h3⟩ := run_catG T o.type w h hb A m c hs2 hm hA hc hl h63 hbytes
  refine wpList_plain hgd fun K2 hK2 => ?_
  unfold Oper.wp execOp
  simp only [ho, resolve, invoke, builtin, Sem.run_bind, Sem.run_pure, Result.andThen_ok, List.map_toArray, List.map_cons, List.map_nil, hs', hy, hr]
  exact hK2 _ _ (hK v' w' h1 h2 h3)
variable {W : World} {g n c : Nat}
/-- the cells of the first k -/
theorem OwnG.takeC (h : OwnG K e W base ok0 (.slice (some ⟨g, 0, none⟩) n c) hs) (k : Nat) (hk : k ≤ hs.length) : ∀ ad, some (⟨g, 0, none⟩ : Addr) = some ad → ∀ (j : Nat) u, ((hs.take k).flatMap K.enc)[j]? = some u → W.cell? (ad.add j) = some u := by
  intro ad e1 j u hu
  injection e1 with e1
  subst e1
  have hlen : ((hs.take k).flatMap K.enc).length = k * K.size := by rw [flat_len K.enc K.size K.len, List.length_take, Nat.min_eq_left hk]
  have hj : j < k * K.size := by rw [← hlen]; exact (List.getElem?_eq_some_iff.1 hu).1
  rw [← flat_takeK K.enc K.size K.len, List.getElem?_take, if_pos hj] at hu
  obtain ⟨A, c', hv⟩ := own_form h.own
  injection hv with h1 h2 h3
  have hle : k * K.size ≤ hs.length * K.size := Nat.mul_le_mul_right _ hk
  rw [Addr.add_mid, Nat.zero_add, World.ownsRow.cellAt (h2 ▸ h.own) j (by omega)]; exact hu
/-- the cells of those from k on -/
theorem OwnG.dropC (h : OwnG K e W base ok0 (.slice (some ⟨g, 0, none⟩) n c) hs) (k o : Nat) (hk : k ≤ hs.length) (ho : o = k * K.size ∨ k = hs.length) : ∀ ad, some (⟨g, o, none⟩ : Addr) = some ad → ∀ (j : Nat) u, ((hs.drop k).flatMap K.enc)[j]? = some u → W.cell? (ad.add j) = some u := by
  intro ad e1 j u hu
  injection e1 with e1
  subst e1
  have hlen : ((hs.drop k).flatMap K.enc).length = (hs.length - k) * K.size := by rw [flat_len K.enc K.size K.len, List.length_drop]
  have hj : j < (hs.length - k) * K.size := by rw [← hlen]; exact (List.getElem?_eq_some_iff.1 hu).1
  obtain ⟨A, c', hv⟩ := own_form h.own
  injection hv with h1 h2 h3
  rcases ho with rfl | rfl
  · rw [← flat_dropK K.enc K.size K.len, List.getElem?_drop] at hu
    have hle : k * K.size + (hs.length - k) * K.size = hs.length * K.size := by rw [← Nat.add_mul]; congr 1; omega
    rw [Addr.add_mid, World.ownsRow.cellAt (h2 ▸ h.own) (k * K.size + j) (by omega)]; exact hu
  · rw [Nat.sub_self, Nat.zero_mul] at hj; omega
theorem OwnG.capT {A : Option Addr} (h : OwnG K e W base ok0 (.slice A n c) hs) : n = hs.length ∧ n ≤ c := by
  rcases h.own.2 with ⟨hv, h0⟩ | ⟨g, cap, cur, hv, hb, hh, hc, _⟩
  · injection hv with h1 h2 h3; omega
  · injection hv with h1 h2 h3; omega
end Go.Proofs.YtgojggmjajlbpaaGreatDoor

/- PLAIN: how an element enters a rising bag; what the normal form keeps; rows counted. No program in sight. -/
namespace Go.Proofs.YtgojggmjajlbpaaGreatDoor
open Go.RowKit (wrap64)
theorem insZ_at (x : Sg) : ∀ (z : List Sg) (p : Nat), p ≤ z.length → (∀ q < p, ordL z[q]!.1 x.1 < 0) → (p < z.length → ¬ ordL z[p]!.1 x.1 < 0) →
    insZ x z = (if p < z.length ∧ ordL z[p]!.1 x.1 = 0 then z.take p ++ [(z[p]!.1, wrap64 (z[p]!.2 + x.2))] ++ z.drop (p + 1) else z.take p ++ [x] ++ z.drop p)
  | [], p, hp, _, _ => by
    have : p = 0 := by simpa using hp
    subst this
    simp [insZ]
  | y :: z, 0, _, _, h2 => by
    have h3 : ¬ ordL y.1 x.1 < 0 := h2 (by simp)
    unfold insZ
    rw [if_neg h3]
    by_cases e : ordL y.1 x.1 = 0
    · rw [if_pos e, if_pos ⟨by simp, e⟩]; simp
    · rw [if_neg e, if_neg (fun h => e h.2)]; simp
  | y :: z, p + 1, hp, h1, h2 => by
    have h3 : ordL y.1 x.1 < 0 := h1 0 (by omega)
    have hp' : p ≤ z.length := by simpa using hp
    have ih := insZ_at x z p hp' (fun q hq => by have := h1 (q + 1) (by omega); simpa using this) (fun hl => by have := h2 (by simpa using hl); simpa using this)
    unfold insZ
    rw [if_pos h3, ih]
    have e1 : (y :: z)[p + 1]! = z[p]! := by simp
    rw [e1, List.length_cons]
    by_cases hc : p < z.length ∧ ordL z[p]!.1 x.1 = 0
    · rw [if_pos hc, if_pos ⟨by omega, hc.2⟩]; simp
    · rw [if_neg hc, if_neg (fun h => hc ⟨by omega, h.2⟩)]; simp
theorem insZ_len (x : Sg) : ∀ z : List Sg, (insZ x z).length ≤ z.length + 1
  | [] => by simp [insZ]
  | y :: z => by
    have := insZ_len x z
    unfold insZ
    repeat' split
    all_goals simp
    all_goals omega
theorem sumZ_snoc (z : List Sg) (x : Sg) : sumZ (z ++ [x]) = insZ x (sumZ z) := by unfold sumZ; rw [List.foldl_append]; rfl
theorem sumZ_len (z : List Sg) : (sumZ z).length ≤ z.length := by
  suffices H : ∀ (z s : List Sg), (z.foldl (fun s x => insZ x s) s).length ≤ z.length + s.length by
    have := H z []
    simpa [sumZ] using this
  intro z
  induction z with
  | nil => intro s; simp
  | cons x z ih => intro s; have := ih (insZ x s); have := insZ_len x s; rw [List.foldl_cons, List.length_cons]; omega
theorem sumZ_sub (z : List Sg) : ∀ x ∈ sumZ z, ∃ y ∈ z, y.1 = x.1 := by
  suffices H : ∀ (z s : List Sg), ∀ x ∈ z.foldl (fun s x => insZ x s) s, (∃ y ∈ z, y.1 = x.1) ∨ ∃ y ∈ s, y.1 = x.1 by
    intro x hx
    rcases H z [] x hx with h | ⟨y, hy, -⟩
    · exact h
    · exact absurd hy (by simp)
  intro z
  induction z with
  | nil => intro s x hx; exact .inr ⟨x, hx, rfl⟩
  | cons u z ih =>
    intro s x hx
    rw [List.foldl_cons] at hx
    rcases ih _ x hx with ⟨y, hy, e⟩ | ⟨y, hy, e⟩
    · exact .inl ⟨y, by simp [hy], e⟩
    · rcases insZ_mem hy with h | ⟨v, hv, h⟩
      · exact .inl ⟨u, by simp, by rw [← e, h]⟩
      · exact .inr ⟨v, hv, by rw [h, e]⟩
theorem norm_len (z : List Sg) : (normP z).length ≤ z.length := Nat.le_trans (List.length_filter_le _ _) (sumZ_len z)
theorem norm_sub (z : List Sg) : ∀ x ∈ normP z, ∃ y ∈ z, y.1 = x.1 := fun x hx => sumZ_sub z x (List.mem_filter.1 hx).1
theorem neg_len (z : List Sg) : (negP z).length ≤ z.length := by unfold negP negZ; rw [List.length_map]; exact norm_len z
theorem negP_sub (z : List Sg) : ∀ x ∈ negP z, ∃ y ∈ z, y.1 = x.1 := fun x hx => by
  obtain ⟨y, hy, rfl⟩ := List.mem_map.1 hx
  exact norm_sub z y hy
/-- the rows of a bag, each as often as it occurs, where there is room -/
def rowsP (z : List Sg) : Option (List (List Val)) := if roomZ 20000 (normP z) = true then some (spreadZ (normP z)) else none
theorem roomZ_snoc : ∀ (z : List Sg) (x : Sg) (room : Int), roomZ room (z ++ [x]) = (roomZ room z && decide (0 ≤ x.2) && decide (x.2 ≤ room - (spreadZ z).length))
  | [], x, room => by simp [roomZ, spreadZ]
  | y :: z, x, room => by
    rw [List.cons_append]
    unfold roomZ
    rw [roomZ_snoc z x (room - y.2)]
    have e : (spreadZ (y :: z)).length = y.2.toNat + (spreadZ z).length := by unfold spreadZ; simp
    rw [e]
    by_cases h : 0 ≤ y.2
    · have e2 : room - y.2 - ((spreadZ z).length : Int) = room - ((y.2.toNat + (spreadZ z).length : Nat) : Int) := by omega
      rw [e2]
      simp only [Bool.and_assoc]
    · simp [h]
theorem roomZ_take : ∀ {z : List Sg} {room : Int} (k : Nat), roomZ room z = true → roomZ room (z.take k) = true
  | [], room, k, _ => by rw [List.take_nil]; rfl
  | y :: z, room, 0, _ => rfl
  | y :: z, room, k + 1, h => by
    unfold roomZ at h
    rw [Bool.and_eq_true] at h
    rw [List.take_succ_cons]
    unfold roomZ
    rw [h.1, roomZ_take k h.2]; rfl
end Go.Proofs.YtgojggmjajlbpaaGreatDoor

/- THE WALK over the reference's row (chapter 47); the parts of its Norm. -/
namespace Go.Proofs.YtgojggmjajlbpaaGreatDoor
open Go.RowKit Go.Sort
theorem T_rowv : ElT Tryz.prog 24 56 KVal.size 64 := ⟨Tryz.underlying24, ⟨.agg #[.int .i64 0, .int .i64 0, .int .i64 0, .string ⟨#[]⟩, .slice none 0 0], by kernel_rfl, rfl⟩, by decide⟩
theorem LCells.heads {w : World} {ok : Nat → Prop} : ∀ {l : List Val} {b o : Nat}, LCells w ok b o l → ∃ hs : List HVal, hs.map HVal.v = l ∧ (∀ p ∈ hs, KVal.lies w ok p) ∧ ∀ j u, (hs.flatMap KVal.enc)[j]? = some u → w.cell? ⟨b, o + j, none⟩ = some u
  | [], b, o, _ => ⟨[], rfl, fun p hp => absurd hp (by simp), fun j u h => by simp at h⟩
  | v :: vs, b, o, h => by
    rw [LCells] at h
    obtain ⟨hs, h1, h2, h3⟩ := LCells.heads h.2
    obtain ⟨-, A, c, ⟨c0, c1, c2, c3, c4⟩, hle, hv⟩ := VCells.iff.1 h.1
    refine ⟨⟨A, c, v⟩ :: hs, by rw [List.map_cons, h1], fun p hp => ?_, fun j u hu => ?_⟩
    · rcases List.mem_cons.1 hp with e | e
      · rw [e]; exact ⟨hle, hv⟩
      · exact h2 p e
    · rw [List.flatMap_cons] at hu
      by_cases hj : j < 5
      · rw [List.getElem?_append_left (by simpa [KVal, Val.cells] using hj)] at hu
        have hj' : j = 0 ∨ j = 1 ∨ j = 2 ∨ j = 3 ∨ j = 4 := by omega
        rcases hj' with rfl | rfl | rfl | rfl | rfl <;> (simp [KVal, Val.cells] at hu; subst hu; assumption)
      · rw [List.getElem?_append_right (by simp [KVal, Val.cells]; omega)] at hu
        have := h3 _ u hu
        rw [show o + 5 + (j - (KVal.enc ⟨A, c, v⟩).length) = o + j by simp [KVal, Val.cells]; omega] at this
        exact this
theorem Vals.heads {w : World} {ok : Nat → Prop} {A : Option Addr} {l : List Val} (h : Vals w ok A l) : ∃ hs : List HVal, hs.map HVal.v = l ∧ (∀ p ∈ hs, KVal.lies w ok p) ∧ ∀ ad, A = some ad → ∀ j u, (hs.flatMap KVal.enc)[j]? = some u → w.cell? (ad.add j) = some u := by
  rcases Nat.eq_zero_or_pos l.length with h0 | h0
  · have : l = [] := List.eq_nil_of_length_eq_zero h0
    subst this
    exact ⟨[], rfl, fun p hp => absurd hp (by simp), fun _ _ j u hu => by simp at hu⟩
  · obtain ⟨b, o, rfl, hc⟩ := h.2 h0
    obtain ⟨hs, h1, h2, h3⟩ := LCells.heads (LCells.iff.2 hc)
    refine ⟨hs, h1, h2, fun ad e j u hu => ?_⟩
    injection e with e
    subst e
    rw [Addr.add_mid]; exact h3 j u hu
set_option maxRecDepth 100000 in
theorem z47_row (r : List Val) (ok : Nat → Prop) (A : Option Addr) (c : Nat) (w : World) (hok : ∀ b, ok b → b < w.heap.size) (hv : Vals w ok A r) (hl : r.length ≤ 8000000) :
    Calls Tryz.prog 33 #[.slice A r.length c] w fun e w' => ∃ A' c', e = .returned (.slice A' r.length c') ∧ r.length ≤ c' ∧ Vals w' (fun b => w.heap.size ≤ b ∨ ok b) A' r ∧ Ext w w' := by
  obtain ⟨hs, hm, hlie, hcells⟩ := hv.heads
  have hlen : r.length = hs.length := by rw [← hm, List.length_map]
  have HN := Lib.hid (SliceR.none_ hv)
  have HC := Lib.hid hcells
  have HL := Lib.hid hlie
  have HM := Lib.hid hm
  have HK := Lib.hid hok
  have HLN := Lib.hid hlen
  have hmade := OwnG.made KVal 56 w w.heap.size ok (Nat.le_refl _)
  have HO := Lib.hid hmade
  clear hv hcells hlie hm hok hlen hmade
  go_enter Tryz.func33, Tryz.ntmps33
  go_wp2_with (at_builtin; go_loud (refine own_catG (v := .slice (some ⟨w.heap.size, 0, none⟩) 0 0) T_rowv rfl (.tmp 3) (.tmp 4) rfl rfl HO.out (by simp) A r.length c hs rfl HLN.out HN.out (fun ad e j u hu => ((Ext.refl w).alloc _).cell (HC.out ad e j u hu)) (fun p hp => KVal.keep _ _ _ _ _ (fun b o x hb hc => ⟨((Ext.refl w).alloc _).cell hc, hb, fun e => by have h1 := HK.out b hb; have h2 : b = w.heap.size := Option.some.inj e; omega⟩) (HL.out p hp)) (by simp; omega) (by decide) ?_); intro v5 w5 hO5 hg5 hd5)
  have hE5 : Ext w w5 := ((Ext.refl w).alloc _).grown hg5 (fun b hb => by have h2 : w.heap.size = b := Option.some.inj hb; omega)
  rw [List.nil_append] at hO5
  obtain ⟨A9, c9, hv9, hle9, hV9⟩ := own_vals (l := r) (ok1 := fun b => w.heap.size ≤ b ∨ ok b) hO5 HLN.out.symm (fun j hj => by
    have hjh : j < hs.length := by have := HLN.out; omega
    have := HM.out
    subst this
    rw [getElem!_pos hs j hjh, getElem!_pos _ j hj, List.getElem_map]) (by omega) (fun b hb => .inr hb) (fun b hb => .inl hb)
  subst hv9
  have HV := Lib.hid hV9
  clear hO5 hV9 hg5 hd5
  go_wp2_with fail
  go_ret
  exact ⟨_, _, rfl, hle9, HV.out, hE5⟩
end Go.Proofs.YtgojggmjajlbpaaGreatDoor
