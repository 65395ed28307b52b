/- PARTS OF THE WALKS, joined: RkI. -/
import Derived.Test.YtlkpmbkmmfoakaaDoorU12
import Derived.Carry
/- THE WALK over rank.step: three maps, a calculator, five loops. -/
namespace Go.Proofs.YtlkpmbkmmfoakaaDoor
open Go.RowKit Go.ChangeMaps
open Go.Maps (Keyed int_keyed keyOf_int_mk)
theorem own_kp {w w' : World} {cb base e size n : Nat} {v : Value} {xs : List Value} (h : w.ownsRow base e size v n xs) (x : Kp cb w w') (hb : cb < base) : w'.ownsRow base e size v n xs :=
  ⟨h.1, h.2.imp id (fun ⟨g, cap, cur, h1, h2, h3, h4⟩ => ⟨g, cap, cur, h1, h2, (x.block g (Array.getElem?_eq_some_iff.1 h3).1 (fun e => by have := Option.some.inj e; omega)).trans h3, h4⟩)⟩
theorem frozen_kp {cb : Nat} {a b : World} (e : Kp cb a b) {p : Addr} {v : Value} (hc : a.cell? p = some v) (hf : a.frozen? p = false) (hp : p.block ≠ cb) : b.frozen? p = false := (frozen_heap (a := a) (e.block _ (block_lt_of_cell hc) (fun h => hp (Option.some.inj h)))).trans hf
/-- a fraction's cells, free to be written -/
structure RestAt (w : World) (b : Nat) (r : Fr) : Prop where
  n : w.cell? ⟨b, 0, none⟩ = some (.int .i64 r.1)
  d : w.cell? ⟨b, 1, none⟩ = some (.int .i64 r.2)
  fn : w.frozen? ⟨b, 0, none⟩ = false
  fd : w.frozen? ⟨b, 1, none⟩ = false
theorem RestAt.kp {cb b : Nat} {w w' : World} {r : Fr} (h : RestAt w b r) (k : Kp cb w w') (hne : b ≠ cb) : RestAt w' b r := ⟨k.cell h.n hne, k.cell h.d hne, frozen_kp k h.n h.fn hne, frozen_kp k h.d h.fd hne⟩
theorem RestAt.ext {b : Nat} {w w' : World} {r : Fr} (h : RestAt w b r) (k : Ext w w') : RestAt w' b r := ⟨k.cell h.n, k.cell h.d, frozen_ext k h.n h.fn, frozen_ext k h.d h.fd⟩
theorem set2_cf {w : World} {g : Nat} {v0 v1 u0 u1 : Value} (h0 : w.cell? ⟨g, 0, none⟩ = some v0) (h1 : w.cell? ⟨g, 1, none⟩ = some v1) : ((w.setCell ⟨g, 0, none⟩ u0).setCell ⟨g, 1, none⟩ u1).cell? ⟨g, 0, none⟩ = some u0 ∧ ((w.setCell ⟨g, 0, none⟩ u0).setCell ⟨g, 1, none⟩ u1).cell? ⟨g, 1, none⟩ = some u1 := by
  constructor <;> go_simp
theorem RestAt.set {b : Nat} {w : World} {r : Fr} (h : RestAt w b r) (r' : Fr) : RestAt ((w.setCell ⟨b, 0, none⟩ (.int .i64 r'.1)).setCell ⟨b, 1, none⟩ (.int .i64 r'.2)) b r' := by
  obtain ⟨h1, h2⟩ := set2_cf (u0 := .int .i64 r'.1) (u1 := .int .i64 r'.2) h.n h.d
  exact ⟨h1, h2, by rw [World.frozen?_setCell, World.frozen?_setCell]; exact h.fn, by rw [World.frozen?_setCell, World.frozen?_setCell]; exact h.fd⟩
theorem kp_set2 {b : Nat} {w : World} (u v : Value) : Kp b w ((w.setCell ⟨b, 0, none⟩ u).setCell ⟨b, 1, none⟩ v) :=
  ⟨rfl, rfl, rfl, by simp, fun k _ hk => (Below.heap_setCell _ _ _ k (fun e => hk (by rw [e]))).trans (Below.heap_setCell _ _ _ k (fun e => hk (by rw [e])))⟩
theorem damp_rng {f : Fr} (h : dampB f = true) : -9223372036854775808 ≤ f.1 ∧ f.1 ≤ 9223372036854775807 := by
  unfold dampB at h
  rw [Bool.and_eq_true, Bool.and_eq_true] at h
  have := (validB_iff.1 h.1.1).2.2.1
  omega
/-- where the blocks lie -/
structure Fx (w : World) (q qd cb md ms mi : Nat) : Prop where
  e0 : w.heap.size = q
  e1 : qd = q + 1
  e2 : cb = qd + 1
  e3 : md = cb + 1
  e4 : ms = md + 1
  e5 : mi = ms + 1
/-- what lies in them -/
structure StA (w W : World) (q qd cb md ms mi : Nat) (B : Option Addr) (d : Nat) (E : List EdgeG) (damp : Fr) (ov : Bool) (gd gs gi : Lit → Option Value) (nd ns ni : Nat) : Prop where
  c0 : W.cell? ⟨q, 1, none⟩ = some (.slice B E.length d)
  c1 : W.cell? ⟨qd, 0, none⟩ = some (.int .i64 damp.1)
  c2 : W.cell? ⟨qd, 1, none⟩ = some (.int .i64 damp.2)
  ca : CalcAt W cb ov
  md : MapOf Tryd.prog 3 W md nd gd
  ms : MapOf Tryd.prog 3 W ms ns gs
  mi : MapOf Tryd.prog 3 W mi ni gi
  ext : Ext w W
section
variable {w W V : World} {q qd cb md ms mi : Nat} {B : Option Addr} {d : Nat} {E : List EdgeG} {damp : Fr} {ov ov' : Bool} {gd gs gi g' : Lit → Option Value} {nd ns ni n' b : Nat}
theorem StA.exts (h : StA w W q qd cb md ms mi B d E damp ov gd gs gi nd ns ni) (x : Ext W V) : StA w V q qd cb md ms mi B d E damp ov gd gs gi nd ns ni :=
  ⟨x.cell h.c0, x.cell h.c1, x.cell h.c2, h.ca.ext x, h.md.ext x, h.ms.ext x, h.mi.ext x, h.ext.trans x⟩
theorem StA.kp (h : StA w W q qd cb md ms mi B d E damp ov gd gs gi nd ns ni) (f : Fx w q qd cb md ms mi) (k : Kp cb W V) (hc : CalcAt V cb ov') : StA w V q qd cb md ms mi B d E damp ov' gd gs gi nd ns ni := by
  have := f.e0; have := f.e1; have := f.e2; have := f.e3; have := f.e4; have := f.e5
  exact ⟨k.cell h.c0 (by simp; omega), k.cell h.c1 (by simp; omega), k.cell h.c2 (by simp; omega), hc, k.map h.md (by omega), k.map h.ms (by omega), k.map h.mi (by omega), k.ext h.ext (by omega)⟩
theorem CalcAt.kp (h : CalcAt W cb ov) (k : Kp b W V) (hne : cb ≠ b) : CalcAt V cb ov := ⟨k.cell h.cell hne, frozen_kp k h.cell h.free hne⟩
theorem StA.far (h : StA w W q qd cb md ms mi B d E damp ov gd gs gi nd ns ni) (f : Fx w q qd cb md ms mi) (k : Kp b W V) (hb : mi < b) : StA w V q qd cb md ms mi B d E damp ov gd gs gi nd ns ni := by
  have := f.e0; have := f.e1; have := f.e2; have := f.e3; have := f.e4; have := f.e5
  exact ⟨k.cell h.c0 (by simp; omega), k.cell h.c1 (by simp; omega), k.cell h.c2 (by simp; omega), h.ca.kp k (by omega), k.map h.md (by omega), k.map h.ms (by omega), k.map h.mi (by omega), k.ext h.ext (by omega)⟩
theorem StA.putd (h : StA w W q qd cb md ms mi B d E damp ov gd gs gi nd ns ni) (f : Fx w q qd cb md ms mi) (k : Kp md W V) (hm : MapOf Tryd.prog 3 V md n' g') : StA w V q qd cb md ms mi B d E damp ov g' gs gi n' ns ni := by
  have := f.e0; have := f.e1; have := f.e2; have := f.e3; have := f.e4; have := f.e5
  exact ⟨k.cell h.c0 (by simp; omega), k.cell h.c1 (by simp; omega), k.cell h.c2 (by simp; omega), h.ca.kp k (by omega), hm, k.map h.ms (by omega), k.map h.mi (by omega), k.ext h.ext (by omega)⟩
theorem StA.puts (h : StA w W q qd cb md ms mi B d E damp ov gd gs gi nd ns ni) (f : Fx w q qd cb md ms mi) (k : Kp ms W V) (hm : MapOf Tryd.prog 3 V ms n' g') : StA w V q qd cb md ms mi B d E damp ov gd g' gi nd n' ni := by
  have := f.e0; have := f.e1; have := f.e2; have := f.e3; have := f.e4; have := f.e5
  exact ⟨k.cell h.c0 (by simp; omega), k.cell h.c1 (by simp; omega), k.cell h.c2 (by simp; omega), h.ca.kp k (by omega), k.map h.md (by omega), hm, k.map h.mi (by omega), k.ext h.ext (by omega)⟩
theorem StA.puti (h : StA w W q qd cb md ms mi B d E damp ov gd gs gi nd ns ni) (f : Fx w q qd cb md ms mi) (k : Kp mi W V) (hm : MapOf Tryd.prog 3 V mi n' g') : StA w V q qd cb md ms mi B d E damp ov gd gs g' nd ns n' := by
  have := f.e0; have := f.e1; have := f.e2; have := f.e3; have := f.e4; have := f.e5
  exact ⟨k.cell h.c0 (by simp; omega), k.cell h.c1 (by simp; omega), k.cell h.c2 (by simp; omega), h.ca.kp k (by omega), k.map h.md (by omega), k.map h.ms (by omega), hm, k.ext h.ext (by omega)⟩
end
theorem Kp.le {cb : Nat} {a b : World} (h : Kp cb a b) : a.heap.size ≤ b.heap.size := World.grownBy.size h
/-- a fraction's cells -/
structure FrAt (w : World) (b : Nat) (r : Fr) : Prop where
  n : w.cell? ⟨b, 0, none⟩ = some (.int .i64 r.1)
  d : w.cell? ⟨b, 1, none⟩ = some (.int .i64 r.2)
section
variable {w W V : World} {q qd cb md ms mi : Nat} {B : Option Addr} {d : Nat} {E : List EdgeG} {damp : Fr} {ov : Bool} {gd gs gi : Lit → Option Value} {nd ns ni b : Nat} {row : Option Nat} {r : Fr}
theorem FrAt.ext (h : FrAt w b r) (k : Ext w W) : FrAt W b r := ⟨k.cell h.n, k.cell h.d⟩
theorem FrAt.kp (h : FrAt w b r) (k : Kp cb w W) (hne : b ≠ cb) : FrAt W b r := ⟨k.cell h.n hne, k.cell h.d hne⟩
theorem FrAt.grown (h : FrAt w b r) (k : w.grownBy W row) (hne : some b ≠ row) : FrAt W b r := ⟨k.cell h.n hne, k.cell h.d hne⟩
theorem frozen_grown {a c : World} (e : a.grownBy c row) {p : Addr} {v : Value} (hc : a.cell? p = some v) (hf : a.frozen? p = false) (hp : some p.block ≠ row) : c.frozen? p = false := (frozen_heap (a := a) (e.block _ (block_lt_of_cell hc) hp)).trans hf
theorem RestAt.grown (h : RestAt w b r) (k : w.grownBy W row) (hne : some b ≠ row) : RestAt W b r := ⟨k.cell h.n hne, k.cell h.d hne, frozen_grown k h.n h.fn hne, frozen_grown k h.d h.fd hne⟩
theorem CalcAt.grown (h : CalcAt W cb ov) (k : W.grownBy V row) (hne : some cb ≠ row) : CalcAt V cb ov := ⟨k.cell h.cell hne, frozen_grown k h.cell h.free hne⟩
theorem StA.grown (h : StA w W q qd cb md ms mi B d E damp ov gd gs gi nd ns ni) (f : Fx w q qd cb md ms mi) (k : W.grownBy V row) (hr : ∀ b, row = some b → mi < b) : StA w V q qd cb md ms mi B d E damp ov gd gs gi nd ns ni := by
  have := f.e0; have := f.e1; have := f.e2; have := f.e3; have := f.e4; have := f.e5
  have hx : ∀ b, b ≤ mi → some b ≠ row := fun b hb e => by have := hr b e.symm; omega
  exact ⟨k.cell h.c0 (hx _ (by simp; omega)), k.cell h.c1 (hx _ (by simp; omega)), k.cell h.c2 (hx _ (by simp; omega)), h.ca.grown k (hx _ (by omega)), h.md.grown k (hx _ (by omega)), h.ms.grown k (hx _ (by omega)), h.mi.grown k (hx _ (by omega)), h.ext.grown k (fun b hb => by have := hr b hb; omega)⟩
end
theorem share_in {l : List Sh} {k : Nat} {gs gi : Lit → Option Value} (hd : Dist l) (hk : ¬ k < l.length) (h : Rel0 l k gs gi) {i : Int} (hi : ∃ j < l.length, l[j]!.id = i) : gs (lk i) = some (frV (shareOf l i)) := by
  obtain ⟨j, hj, rfl⟩ := hi
  rw [hd.share hj]; exact (h j (by omega)).1
theorem box_step (w : World) (A B : Option Addr) (c d : Nat) (g : GraphG) (f : Fr) (t t' t'' : TypeId) : ∃ (q qd cb md ms mi : Nat) (W : World), Fx w q qd cb md ms mi ∧ W = (((((w.alloc (.cells #[.slice A g.nodes.length c, .slice B g.edges.length d, .int .i64 g.nn, .int .i64 g.ne] t)).alloc (.cells #[.int .i64 f.1, .int .i64 f.2] t')).alloc (.cells #[.bool false] t'')).alloc (.map #[] 0)).alloc (.map #[] 0)).alloc (.map #[] 0) ∧ StA w W q qd cb md ms mi B d g.edges f false (fun _ => none) (fun _ => none) (fun _ => none) 0 0 0 := by
  refine ⟨_, _, _, _, _, _, _, ⟨rfl, rfl, rfl, rfl, rfl, rfl⟩, rfl, by go_simp, by go_simp, by go_simp, ⟨by go_simp, by go_simp⟩, ?_, ?_, ?_, ((((((Ext.refl _).alloc _).alloc _).alloc _).alloc _).alloc _).alloc _⟩
  · have := MapOf.made Tryd.prog 3 ((((w.alloc (.cells #[.slice A g.nodes.length c, .slice B g.edges.length d, .int .i64 g.nn, .int .i64 g.ne] t)).alloc (.cells #[.int .i64 f.1, .int .i64 f.2] t')).alloc (.cells #[.bool false] t'')))
    have h2 := this.ext (((Ext.refl _).alloc (.map #[] 0)).alloc (.map #[] 0))
    simpa using h2
  · have := MapOf.made Tryd.prog 3 (((((w.alloc (.cells #[.slice A g.nodes.length c, .slice B g.edges.length d, .int .i64 g.nn, .int .i64 g.ne] t)).alloc (.cells #[.int .i64 f.1, .int .i64 f.2] t')).alloc (.cells #[.bool false] t'')).alloc (.map #[] 0)))
    have h2 := this.ext ((Ext.refl _).alloc (.map #[] 0))
    simpa using h2
  · have := MapOf.made Tryd.prog 3 ((((((w.alloc (.cells #[.slice A g.nodes.length c, .slice B g.edges.length d, .int .i64 g.nn, .int .i64 g.ne] t)).alloc (.cells #[.int .i64 f.1, .int .i64 f.2] t')).alloc (.cells #[.bool false] t'')).alloc (.map #[] 0)).alloc (.map #[] 0)))
    simpa using this
/-- a look-up in a drawn region -/
theorem run_look {P : Program} {w : World} {o : Oper} {a : Act} (m x : Operand) (t : TypeId) (hop : o.op = Op.lookup t m x false) {k e : TypeId} (K : Keyed P k) (ht : P.underlying t = some (.map k e)) {z : Value} (hz : (zeroValue e).run P w = .ok z w) {b n : Nat} {g : Lit → Option Value} (hm : a.eval m = .map (some b)) (hown : MapOf P k w b n g) {key : Value} {kl : Lit} (hx : a.eval x = key) (hkey : keyOf P k key = some kl) {v : Value} (hv : (g kl).getD z = v) : (execOp a.eval o).run P w = .ok (.value v) w := by
  have hrun := hown.look K ht hz hkey
  rw [hv] at hrun
  simp [execOp, hop, hm, hx, hrun, Result.andThen]
/-- what step tells -/
def StepTells (V : Option (List Sh)) (w : World) (e : Ending) (w' : World) : Prop := ∃ (O : List Sh) (A' : Option Addr) (c' : Nat) (ov : Bool), e = .returned (.tuple #[.slice A' O.length c', .bool ov]) ∧ O.length ≤ c' ∧ Shares w' (fun b => w.heap.size ≤ b) A' O ∧ ((ov = true → V = none) ∧ (ov = false → V = some O)) ∧ Ext w w'
set_option maxRecDepth 100000 in
set_option maxHeartbeats 6400000 in
theorem rk_step (g : GraphG) (types : List ByteArray) (damp : Fr) (l : List Sh) (ok ok' ok2 : Nat → Prop) (A B T S' : Option Addr) (c d e f : Nat) (w : World) (hz : ZeroAt w) (hg : GraphAt w ok A B g) (ht : Strs w ok' T types) (hl : Shares w ok2 S' l) (h0 : chkG g = 0) (hda : dampB damp = true) (hf : fitsB g l = true) :
    Calls Tryd.prog 45 #[.agg #[.slice A g.nodes.length c, .slice B g.edges.length d, .int .i64 g.nn, .int .i64 g.ne], .slice T types.length e, .agg #[.int .i64 damp.1, .int .i64 damp.2], .slice S' l.length f] w (StepTells (stepN types g.edges damp l) w) := by
  obtain ⟨q, qd, cb, md, ms, mi, w1, hfx, hw1, hst⟩ := box_step w A B c d g damp 34 25 97
  have HW := Lib.hid hw1
  have HFX := Lib.hid hfx
  have hlen := chkG_len h0
  have hll : l.length ≤ 2000 := by have := (fitsB_iff.1 hf).1; omega
  have hel : g.edges.length ≤ 4000 := hlen.2
  have HD := Lib.hid (dist_of h0 hf)
  have HID := Lib.hid (fun k hk => id_rng (k := k) h0 hf hk)
  have HEN := Lib.hid (fun k hk => ends_of (k := k) h0 hf hk)
  have HST := Lib.hid hst
  have HL := Lib.hid (fun W (e : Ext w W) => hl.ext e)
  have HE := Lib.hid (fun W (e : Ext w W) => hg.edges.ext e)
  have HHT := Lib.hid (fun x W B' m' d' (e' : Ext w W) => gr_HasType types x ok' T B' e m' d' W (ht.ext e'))
  have HKEY := Lib.hid (fun (i : Int) (h1 : 1 ≤ i) (h2 : i ≤ 1000001) => (keyOf_int_mk Tryd.underlying3 (a := i) (by simp [Lit.wf, IntKind.min, IntKind.max, IntKind.signed, IntKind.bits]; omega) : keyOf Tryd.prog 3 (.int .i64 i) = some (lk i)))
  have HZ := Lib.hid (fun W (e : Ext w W) => hz.ext e)
  have hdb : -9223372036854775808 ≤ damp.1 ∧ damp.1 ≤ 9223372036854775807 := damp_rng hda
  clear hst hw1 hfx hl hg ht h0 hda hf hlen hz
  have hmm := @run_makeMap Tryd.prog
  go_enter Tryd.func45, Tryd.ntmps45
  go_upto_region 5 with (fail)
  clear hmm
  rw [← HW.out, HFX.out.e0, ← HFX.out.e1, ← HFX.out.e2, ← HFX.out.e3, ← HFX.out.e4, ← HFX.out.e5]
  clear HW
  go_wp2_with fail
  go_loopw [34] (fun u W => ∃ (k : Nat) (gs gi : Lit → Option Value), u = .int .i64 k ∧ k ≤ l.length ∧ Hid (Rel0 l k gs gi) ∧ Hid (StA w W q qd cb md ms mi B d g.edges damp false (fun _ => none) gs gi 0 k k)) (fun u _ => l.length - (intOf u).toNat)
  case atStart => exact ⟨0, _, _, rfl, Nat.zero_le _, Lib.hid (fun j hj => absurd hj (by omega)), Lib.hid (HST.out.exts (by with_reducible repeat (first | exact Ext.refl _ | assumption | refine Ext.drew ?_ | refine Ext.drewN ?_ _ | refine Ext.alloc ?_ _)))⟩
  case round =>
    clear HST
    obtain ⟨k, gs, gi, rfl, hk, hR, hS⟩ := hrel
    have HCB := Lib.hid hS.out.mi.lt
    by_cases hlt : k < l.length
    · obtain ⟨bs, os, rfl, hc⟩ := (HL.out wr hS.out.ext).at_ hlt
      obtain ⟨-, a0, a1, a2⟩ := hc k hlt
      have HNX := Lib.hid (hR.out.next HD.out hlt)
      obtain ⟨hi1, hi2⟩ := HID.out k hlt
      have hkey := HKEY.out _ hi1 hi2
      have hkm : k < maxLen := by unfold maxLen; omega
      obtain ⟨y, w2, hy, hw2, n0, n1, n2, hx2⟩ := box_share wr l[k]! 42
      have HW2 := Lib.hid hw2
      have HY := Lib.hid hy
      have HS2 := Lib.hid (hS.out.exts hx2)
      have hyb : mi < y := by rw [hy]; exact HCB.out
      have hyms : y ≠ ms := (by have h0 := HFX.out.e0; have h1 := HFX.out.e1; have h2 := HFX.out.e2; have h3 := HFX.out.e3; have h4 := HFX.out.e4; have h5 := HFX.out.e5; omega)
      have hymi : y ≠ mi := (by have h0 := HFX.out.e0; have h1 := HFX.out.e1; have h2 := HFX.out.e2; have h3 := HFX.out.e3; have h4 := HFX.out.e4; have h5 := HFX.out.e5; omega)
      have hmm : mi ≠ ms := (by have h0 := HFX.out.e0; have h1 := HFX.out.e1; have h2 := HFX.out.e2; have h3 := HFX.out.e3; have h4 := HFX.out.e4; have h5 := HFX.out.e5; omega)
      clear hc hy hw2 hS hR hi1 hi2 HCB
      generalize l[k]! = x at *
      go_upto_region 8 with (fail)
      rw [← HW2.out, ← HY.out]
      clear HW2 HY a0 a1 a2
      have MKC := Lib.hid (fun V (e : Ext w2 V) => (⟨e.cell n0, e.cell n1, e.cell n2⟩ : V.cell? ⟨y, 0, none⟩ = some (.int .i64 x.id) ∧ V.cell? ⟨y, 1, none⟩ = some (.int .i64 x.n) ∧ V.cell? ⟨y, 2, none⟩ = some (.int .i64 x.d)))
      have MKG := Lib.hid (fun (V V' : World) (b : Nat) (h : V.cell? ⟨y, 0, none⟩ = some (.int .i64 x.id) ∧ V.cell? ⟨y, 1, none⟩ = some (.int .i64 x.n) ∧ V.cell? ⟨y, 2, none⟩ = some (.int .i64 x.d)) (hg : V.grownBy V' (some b)) (hb : y ≠ b) => (⟨Kp.cell hg h.1 hb, Kp.cell hg h.2.1 hb, Kp.cell hg h.2.2 hb⟩ : V'.cell? ⟨y, 0, none⟩ = some (.int .i64 x.id) ∧ V'.cell? ⟨y, 1, none⟩ = some (.int .i64 x.n) ∧ V'.cell? ⟨y, 2, none⟩ = some (.int .i64 x.d)))
      refine wp_region_held_drew (S := (fun V => V.cell? ⟨y, 0, none⟩ = some (.int .i64 x.id) ∧ V.cell? ⟨y, 1, none⟩ = some (.int .i64 x.n) ∧ V.cell? ⟨y, 2, none⟩ = some (.int .i64 x.d))) (by kernel_rfl) ?hs1 (fun hHeld => ?go1)
      case hs1 => (first | exact MKG.out _ _ _ (MKG.out _ _ _ (MKC.out _ hx3) hg4 hyms) hg5 hymi | exact MKG.out _ _ _ (MKC.out _ hx3) hg4 hyms | exact MKC.out _ (by with_reducible repeat (first | exact Ext.refl _ | assumption | refine Ext.drew ?_ | refine Ext.drewN ?_ _ | refine Ext.alloc ?_ _)))
      refine wpAnyH_take (i := 0) (oi := ⟨(some 38), (.move (.tmp 12)), 99, "rank.go:92", #[], none⟩) (v := ?v2) rfl (by kernel_rfl) (by kernel_rfl) (by kernel_rfl) (fun _ _ _ h => h) (Or.inl ⟨rfl, ?hy2⟩) hHeld ?rest2
      case hy2 => (intro w _; go_simp <;> rfl)
      (try simp only [PU])
      refine wpAnyH_take (i := 1) (oi := ⟨(some 39), (.fieldAddr 42 (.tmp 15) 0), 0, "rank.go:92", #[], none⟩) (v := ?v3) rfl (by kernel_rfl) (by kernel_rfl) (by kernel_rfl) (fun _ _ _ h => h) (Or.inl ⟨rfl, ?hy3⟩) hHeld ?rest3
      case hy3 => (intro w _; go_simp <;> rfl)
      (try simp only [PU])
      refine wpAnyH_take (i := 2) (oi := ⟨(some 40), (.load 3 (.tmp 39)), 3, "rank.go:92", #[⟨1, .data⟩], none⟩) (v := ?v4) rfl (by kernel_rfl) (by kernel_rfl) (by kernel_rfl) (fun _ _ _ h => h) (Or.inl ⟨rfl, ?hy4⟩) hHeld ?rest4
      case hy4 => (intro w hSw; (try dsimp only at hSw); go_simp <;> first | with_reducible rfl | rw [if_neg (by omega)] | rw [if_pos (by omega)])
      (try simp only [PU])
      refine wpAnyH_take (i := 3) (oi := ⟨(some 41), (.move (.tmp 13)), 99, "rank.go:92", #[⟨9, (.gcOnly Departure.lateStores)⟩], none⟩) (v := ?v5) rfl (by kernel_rfl) (by kernel_rfl) (by kernel_rfl) (fun _ _ _ h => h) (Or.inl ⟨rfl, ?hy5⟩) hHeld ?rest5
      case hy5 => (intro w _; go_simp <;> rfl)
      (try simp only [PU])
      refine wpAnyH_take (i := 4) (oi := ⟨(some 42), (.fieldAddr 42 (.tmp 15) 0), 0, "rank.go:92", #[⟨9, (.gcOnly Departure.lateStores)⟩], none⟩) (v := ?v6) rfl (by kernel_rfl) (by kernel_rfl) (by kernel_rfl) (fun _ _ _ h => h) (Or.inl ⟨rfl, ?hy6⟩) hHeld ?rest6
      case hy6 => (intro w _; go_simp <;> rfl)
      (try simp only [PU])
      refine wpAnyH_take (i := 5) (oi := ⟨(some 43), (.load 3 (.tmp 42)), 3, "rank.go:92", #[⟨4, .data⟩, ⟨9, (.gcOnly Departure.lateStores)⟩], none⟩) (v := ?v7) rfl (by kernel_rfl) (by kernel_rfl) (by kernel_rfl) (fun _ _ _ h => h) (Or.inl ⟨rfl, ?hy7⟩) hHeld ?rest7
      case hy7 => (intro w hSw; (try dsimp only at hSw); go_simp <;> first | with_reducible rfl | rw [if_neg (by omega)] | rw [if_pos (by omega)])
      (try simp only [PU])
      refine wpAnyH_take (i := 6) (oi := ⟨(some 44), (.fieldAddr 42 (.tmp 15) 1), 0, "rank.go:92", #[], none⟩) (v := ?v8) rfl (by kernel_rfl) (by kernel_rfl) (by kernel_rfl) (fun _ _ _ h => h) (Or.inl ⟨rfl, ?hy8⟩) hHeld ?rest8
      case hy8 => (intro w _; go_simp <;> rfl)
      (try simp only [PU])
      refine wpAnyH_take (i := 7) (oi := ⟨(some 45), (.load 25 (.tmp 44)), 25, "rank.go:92", #[⟨6, .data⟩], none⟩) (v := ?v9) rfl (by kernel_rfl) (by kernel_rfl) (by kernel_rfl) (fun _ _ _ h => h) (Or.inl ⟨rfl, ?hy9⟩) hHeld ?rest9
      case hy9 => (intro w hSw; (try dsimp only at hSw); go_simp <;> first | with_reducible rfl | rw [if_neg (by omega)] | rw [if_pos (by omega)])
      (try simp only [PU])
      refine wpAnyH_ready (rs := [8]) (by kernel_rfl) (by simp) ?_
      refine AllReadyH.cons (o := ⟨(some 46), (.call { callee := (.value (.func 23)), args := #[(.const (.int .i64 0))], argTypes := #[3] }), 25, "rank.go:92", #[], none⟩) rfl (fun K hK => ?step10x0) ?more10x0
      case more10x0 => exact AllReadyH.nil
      go_simp
      (refine (rk_whole 0 _).mono ?_; rintro e w3 ⟨rfl, hx3⟩; replace hx3 : Ext w2 w3 := Ext.trans (by with_reducible repeat (first | exact Ext.refl _ | assumption | refine Ext.drew ?_ | refine Ext.drewN ?_ _ | refine Ext.alloc ?_ _)) hx3)
      refine hK.out _ _ ?hS10x0 (fun hHeld10 => ?rest10x0)
      case hS10x0 => first | (first | exact MKG.out _ _ _ (MKG.out _ _ _ (MKC.out _ hx3) hg4 hyms) hg5 hymi | exact MKG.out _ _ _ (MKC.out _ hx3) hg4 hyms | exact MKC.out _ (by with_reducible repeat (first | exact Ext.refl _ | assumption | refine Ext.drew ?_ | refine Ext.drewN ?_ _ | refine Ext.alloc ?_ _))) | ((try dsimp only); (first | exact MKG.out _ _ _ (MKG.out _ _ _ (MKC.out _ hx3) hg4 hyms) hg5 hymi | exact MKG.out _ _ _ (MKC.out _ hx3) hg4 hyms | exact MKC.out _ (by with_reducible repeat (first | exact Ext.refl _ | assumption | refine Ext.drew ?_ | refine Ext.drewN ?_ _ | refine Ext.alloc ?_ _))))
      clear hK K
      clear hHeld
      (try simp only [PU])
      refine wpAnyH_ready (rs := [9]) (by kernel_rfl) (by simp) ?_
      refine AllReadyH.cons (o := ⟨none, (.mapUpdate 99 (.tmp 38) (.tmp 40) (.tmp 45)), 0, "rank.go:92", #[⟨0, .data⟩, ⟨2, .data⟩, ⟨7, .data⟩, ⟨8, .chain⟩, ⟨0, .phase⟩, ⟨1, .phase⟩, ⟨2, .phase⟩, ⟨3, (.textOnly Departure.lateStores)⟩, ⟨4, (.textOnly Departure.lateStores)⟩, ⟨5, (.textOnly Departure.lateStores)⟩, ⟨6, .phase⟩, ⟨7, .phase⟩, ⟨8, .phase⟩], none⟩) rfl (fun K hK => ?step11x0) ?more11x0
      case more11x0 => exact AllReadyH.nil
      (refine step_put rfl (.tmp 38) (.tmp 40) (.tmp 45) 99 rfl (int_keyed Tryd.underlying3) Tryd.underlying99 ms k gs rfl (HS2.out.ms.ext hx3) hkm (.int .i64 x.id) (frV (x.n, x.d)) (lk x.id) rfl rfl hkey ?_; intro w4 hm4 hg4)
      refine hK.out _ _ ?hS11x0 (fun hHeld11 => ?rest11x0)
      case hS11x0 => first | (first | exact MKG.out _ _ _ (MKG.out _ _ _ (MKC.out _ hx3) hg4 hyms) hg5 hymi | exact MKG.out _ _ _ (MKC.out _ hx3) hg4 hyms | exact MKC.out _ (by with_reducible repeat (first | exact Ext.refl _ | assumption | refine Ext.drew ?_ | refine Ext.drewN ?_ _ | refine Ext.alloc ?_ _))) | ((try dsimp only); (first | exact MKG.out _ _ _ (MKG.out _ _ _ (MKC.out _ hx3) hg4 hyms) hg5 hymi | exact MKG.out _ _ _ (MKC.out _ hx3) hg4 hyms | exact MKC.out _ (by with_reducible repeat (first | exact Ext.refl _ | assumption | refine Ext.drew ?_ | refine Ext.drewN ?_ _ | refine Ext.alloc ?_ _))))
      clear hK K
      clear hHeld10
      refine wpAnyH_ready (rs := [10]) (by kernel_rfl) (by simp) ?_
      refine AllReadyH.cons (o := ⟨none, (.mapUpdate 99 (.tmp 41) (.tmp 43) (.tmp 46)), 0, "rank.go:92", #[⟨3, .data⟩, ⟨5, .data⟩, ⟨8, .data⟩, ⟨9, .chain⟩, ⟨0, .phase⟩, ⟨1, .phase⟩, ⟨2, .phase⟩, ⟨3, .phase⟩, ⟨4, .phase⟩, ⟨5, .phase⟩, ⟨6, .phase⟩, ⟨7, .phase⟩, ⟨8, .phase⟩, ⟨9, .phase⟩], none⟩) rfl (fun K hK => ?step12x0) ?more12x0
      case more12x0 => exact AllReadyH.nil
      (refine step_put rfl (.tmp 41) (.tmp 43) (.tmp 46) 99 rfl (int_keyed Tryd.underlying3) Tryd.underlying99 mi k gi rfl ((HS2.out.mi.ext hx3).grown hg4 (fun e => hmm (Option.some.inj e))) hkm (.int .i64 x.id) (frV (0, 1)) (lk x.id) rfl rfl hkey ?_; intro w5 hm5 hg5)
      refine hK.out _ _ ?hS12x0 (fun hHeld12 => ?rest12x0)
      case hS12x0 => first | (first | exact MKG.out _ _ _ (MKG.out _ _ _ (MKC.out _ hx3) hg4 hyms) hg5 hymi | exact MKG.out _ _ _ (MKC.out _ hx3) hg4 hyms | exact MKC.out _ (by with_reducible repeat (first | exact Ext.refl _ | assumption | refine Ext.drew ?_ | refine Ext.drewN ?_ _ | refine Ext.alloc ?_ _))) | ((try dsimp only); (first | exact MKG.out _ _ _ (MKG.out _ _ _ (MKC.out _ hx3) hg4 hyms) hg5 hymi | exact MKG.out _ _ _ (MKC.out _ hx3) hg4 hyms | exact MKC.out _ (by with_reducible repeat (first | exact Ext.refl _ | assumption | refine Ext.drew ?_ | refine Ext.drewN ?_ _ | refine Ext.alloc ?_ _))))
      clear hK K
      clear hHeld11
      refine wpAnyH_done (by kernel_rfl) ?_ _
      clear hHeld12
      have HS5 := Lib.hid (((HS2.out.exts hx3).puts HFX.out hg4 hm4).puti HFX.out hg5 hm5)
      clear hm4 hm5 hg4 hg5 hx3 MKC MKG HS2 n0 n1 n2
      go_wp2_with fail
      go_roundw
      case rel => exact ⟨k + 1, _, _, by go_num, by omega, HNX, HS5⟩
      case measure => simp [intOf]; omega
    · have s0 := hS.out.c0
      clear HCB
      go_wp2_with fail
      clear s0
      go_loopw [51] (fun u W => ∃ (j : Nat) (gd : Lit → Option Value), u = .int .i64 j ∧ j ≤ g.edges.length ∧ Hid (Rel2 types g.edges j gd) ∧ Hid (StA w W q qd cb md ms mi B d g.edges damp false gd gs gi j k k)) (fun u _ => g.edges.length - (intOf u).toNat)
      case atStart => exact ⟨0, _, rfl, Nat.zero_le _, Lib.hid Rel2.zero, Lib.hid (hS.out.exts (by with_reducible repeat (first | exact Ext.refl _ | assumption | refine Ext.drew ?_ | refine Ext.drewN ?_ _ | refine Ext.alloc ?_ _)))⟩
      case round =>
        clear hS
        obtain ⟨j, gd, rfl, hj, hR2, hS2⟩ := hrel
        have HCB := Lib.hid hS2.out.mi.lt
        by_cases hlj : j < g.edges.length
        · obtain ⟨be, oe, rfl, hc⟩ := (HE.out wr hS2.out.ext).at_ hlj
          have HSK := Lib.hid (fun h => hR2.out.skip hlj h)
          have HNX := Lib.hid (fun h => hR2.out.next hlj h)
          have HGV := Lib.hid (hR2.out g.edges[j]!.frm)
          have hkm : j < maxLen := by unfold maxLen; omega
          have hcn : degN types (g.edges.take j) g.edges[j]!.frm ≤ 4000 := Nat.le_trans (degN_le _ _ _) (by rw [List.length_take]; omega)
          obtain ⟨-, a0, a1, a2, a3, B', d', a4, -, -⟩ := hc j hlj
          obtain ⟨⟨jj, hjj, hje⟩, hto⟩ := HEN.out j hlj
          have hfr : 1 ≤ g.edges[j]!.frm ∧ g.edges[j]!.frm ≤ 1000001 := by rw [← hje]; exact HID.out jj hjj
          have hkey := HKEY.out _ hfr.1 hfr.2
          obtain ⟨y, w2, hy, hw2, n0, n1, n2, n3, n4, hx2⟩ := box_edge wr g.edges[j]! B' d' 55
          have HW2 := Lib.hid hw2
          have HY := Lib.hid hy
          have HC := Lib.hid (HHT.out g.edges[j]!)
          have HS3 := Lib.hid (hS2.out.exts hx2)
          clear hc hy hw2 hS2 hR2 hfr hje hjj hto HCB
          generalize g.edges[j]! = x at *
          generalize degN types (g.edges.take j) x.frm = cn at *
          go_upto_region 13 with (fail)
          rw [← HW2.out, ← HY.out]
          clear HW2 HY a0 a1 a2 a3 a4
          cases htb : typB types x.typ
          · rw [htb] at HC
            go_wp2_with (go_at_call 67; ((with_reducible refine (HC.out _ _ _ _ HS3.out.ext).mono ?_); rintro e w6 ⟨rfl, hx6⟩))
            have HS6 := Lib.hid (HS3.out.exts hx6)
            have HR6 := Lib.hid (HSK.out htb)
            clear HS3 HSK HNX
            go_roundw
            case rel => exact ⟨j + 1, _, by go_num, by omega, HR6, Lib.hid (by first | exact HS6.out | exact ⟨HS6.out.c0, HS6.out.c1, HS6.out.c2, HS6.out.ca, HS6.out.md.mono (by omega), HS6.out.ms, HS6.out.mi, HS6.out.ext⟩)⟩
            case measure => simp [intOf]; omega
          · rw [htb] at HC
            have HR6 := Lib.hid (HNX.out htb)
            clear HSK HNX
            go_upto_region 14 with (go_at_call 67; ((with_reducible refine (HC.out _ _ _ _ HS3.out.ext).mono ?_); rintro e w6 ⟨rfl, hx6⟩; have m1 := hx6.cell n1))
            have HS6 := Lib.hid (HS3.out.exts hx6)
            clear HS3 n0 n1 n2 n3 n4
            go_wp2_with (first | (at_lookup; refine wpList_look rfl (.tmp 58) (.tmp 60) 98 rfl (int_keyed Tryd.underlying3) Tryd.underlying98 (z := .int .i64 0) rfl md j gd rfl HS6.out.md (.int .i64 x.frm) (lk x.frm) rfl hkey ?_; rw [HGV.out]) | (at_mapUpdate; refine wpList_put rfl (.tmp 58) (.tmp 60) (.tmp 62) 98 rfl (int_keyed Tryd.underlying3) Tryd.underlying98 md j gd rfl HS6.out.md hkm (.int .i64 x.frm) (.int .i64 ((cn : Int) + 1)) (lk x.frm) rfl (by first | rfl | go_num) hkey ?_; intro w7 hm7 hg7))
            have HS7 := Lib.hid (HS6.out.putd HFX.out hg7 hm7)
            clear HS6 hg7 hm7 m1
            go_roundw
            case rel => exact ⟨j + 1, _, by go_num, by omega, HR6, HS7⟩
            case measure => simp [intOf]; omega
        · have HDG := Lib.hid (fun i => (by have := hR2.out i; rwa [List.take_of_length_le (by omega)] at this : (gd (lk i)).getD (.int .i64 0) = .int .i64 (degN types g.edges i : Int)))
          have hkl : ¬ k < l.length := hlt
          clear hR2
          go_upto_region 17 with (go_at_call 23; ((with_reducible refine (rk_whole 0 _).mono ?_); rintro e w3 ⟨rfl, hx3⟩))
          obtain ⟨rb, w4, hrb, hw4, r0, r1, r2, r3, hx4⟩ := box_frac w3 0 1 25
          rw [← hw4, ← hrb]
          have hrbm : mi < rb := by rw [hrb]; exact Nat.lt_of_lt_of_le HCB.out hx3.le
          have HRA := Lib.hid (show RestAt w4 rb (0, 1) from ⟨r0, r1, r2, r3⟩)
          have HS4 := Lib.hid (hS2.out.exts (hx3.trans hx4))
          clear hrb hw4 r0 r1 r2 r3 hx3 hx4 hS2 HCB
          go_wp2_with fail
          go_loopw [67] (fun u W => ∃ (i : Nat) (r : Fr) (ov : Bool), u = .int .i64 i ∧ i ≤ l.length ∧ Hid (Rel4 types g.edges damp l i r ov) ∧ Hid (RestAt W rb r) ∧ Hid (StA w W q qd cb md ms mi B d g.edges damp ov gd gs gi j k k)) (fun u _ => l.length - (intOf u).toNat)
          case atStart => exact ⟨0, (0, 1), false, rfl, Nat.zero_le _, Lib.hid Rel4.zero, Lib.hid (HRA.out.ext (by with_reducible repeat (first | exact Ext.refl _ | assumption | refine Ext.drew ?_ | refine Ext.drewN ?_ _ | refine Ext.alloc ?_ _))), Lib.hid (HS4.out.exts (by with_reducible repeat (first | exact Ext.refl _ | assumption | refine Ext.drew ?_ | refine Ext.drewN ?_ _ | refine Ext.alloc ?_ _)))⟩
          case round =>
            clear HRA HS4
            obtain ⟨i, r, ov, rfl, hi, hR4, hRA, hS4⟩ := hrel
            have HRB := Lib.hid (show rb < wr.heap.size from block_lt_of_cell hRA.out.n)
            by_cases hli : i < l.length
            · obtain ⟨bs, os, rfl, hc⟩ := (HL.out wr hS4.out.ext).at_ hli
              obtain ⟨-, a0, a1, a2⟩ := hc i hli
              obtain ⟨hi1, hi2⟩ := HID.out i hli
              have hkey := HKEY.out _ hi1 hi2
              have HGV := Lib.hid (HDG.out l[i]!.id)
              have HSK := Lib.hid (fun h => hR4.out.skip hli h)
              have HNX := Lib.hid (fun h => hR4.out.next hli h)
              obtain ⟨y, w2, hy, hw2, n0, n1, n2, hx2⟩ := box_share wr l[i]! 42
              have HW2 := Lib.hid hw2
              have HY := Lib.hid hy
              have HS2 := Lib.hid (hS4.out.exts hx2)
              have HRA2 := Lib.hid (hRA.out.ext hx2)
              have HADD := Lib.hid (fun W hz h => rk_add cb ov r (l[i]!.n, l[i]!.d) W hz h)
              have hcn : degN types g.edges l[i]!.id ≤ 4000 := Nat.le_trans (degN_le _ _ _) hel
              have hnrc : rb ≠ cb := (by have h0 := HFX.out.e0; have h1 := HFX.out.e1; have h2 := HFX.out.e2; have h3 := HFX.out.e3; have h4 := HFX.out.e4; have h5 := HFX.out.e5; omega)
              obtain ⟨r0, r1, -, -⟩ := HRA2.out
              clear hc hy hw2 hS4 hRA hR4 hi1 hi2 HRB
              generalize addO r (l[i]!.n, l[i]!.d) = av at *
              generalize l[i]! = x at *
              generalize degN types g.edges x.id = cn at *
              generalize orZ av = nv at *
              generalize av.isNone = nb at *
              dsimp only at HADD
              go_upto_region 20 with (fail)
              rw [← HW2.out, ← HY.out]
              clear HW2 HY a0 a1 a2
              by_cases hcz : cn = 0
              · have hz2 : ((cn : Int) == 0) = true := by rw [hcz]; rfl
                have HR6 := Lib.hid (HNX.out hcz)
                clear hcz HSK HNX
                go_wp2_with (first | (at_lookup; refine wpList_look rfl (.tmp 71) (.tmp 73) 98 rfl (int_keyed Tryd.underlying3) Tryd.underlying98 (z := .int .i64 0) rfl md j gd rfl HS2.out.md (.int .i64 x.id) (lk x.id) rfl hkey ?_; rw [HGV.out]) | (go_at_call 68; ((with_reducible refine (HADD.out _ (HZ.out _ HS2.out.ext) HS2.out.ca).mono ?_); rintro e w6 ⟨rfl, hc6, hk6⟩; obtain ⟨s0, s1, s2, s3⟩ := HRA2.out.kp hk6 hnrc)))
                obtain ⟨w7, hw7⟩ : ∃ V, V = (w6.setCell ⟨rb, 0, none⟩ (.int .i64 nv.1)).setCell ⟨rb, 1, none⟩ (.int .i64 nv.2) := ⟨_, rfl⟩
                rw [← hw7]
                have HK7 := Lib.hid (show Kp rb w6 w7 by rw [hw7]; exact kp_set2 _ _)
                have HRA7 := Lib.hid (show RestAt w7 rb nv by rw [hw7]; exact (HRA2.out.kp hk6 hnrc).set nv)
                have HS7 := Lib.hid ((HS2.out.kp HFX.out hk6 hc6).far HFX.out HK7.out hrbm)
                clear HS2 HRA2 hc6 hk6 s0 s1 s2 s3 r0 r1 hw7
                go_roundw
                case rel => exact ⟨i + 1, _, _, by go_num, by omega, HR6, HRA7, HS7⟩
                case measure => simp [intOf]; omega
              · have hz2 : ((cn : Int) == 0) = false := beq_eq_false_iff_ne.2 (by omega)
                have HR6 := Lib.hid (HSK.out hcz)
                clear hcz HSK HNX
                go_wp2_with (at_lookup; refine wpList_look rfl (.tmp 71) (.tmp 73) 98 rfl (int_keyed Tryd.underlying3) Tryd.underlying98 (z := .int .i64 0) rfl md j gd rfl HS2.out.md (.int .i64 x.id) (lk x.id) rfl hkey ?_; rw [HGV.out])
                go_roundw
                case rel => exact ⟨i + 1, _, _, by go_num, by omega, HR6, HRA2, HS2⟩
                case measure => simp [intOf]; omega
            · have HDV := Lib.hid (fun W h => rk_div cb ov r (l.length : Int) W h)
              have HR5 := Lib.hid (hR4.out.div hli)
              have hnrc : rb ≠ cb := (by have h0 := HFX.out.e0; have h1 := HFX.out.e1; have h2 := HFX.out.e2; have h3 := HFX.out.e3; have h4 := HFX.out.e4; have h5 := HFX.out.e5; omega)
              obtain ⟨r0, r1, -, -⟩ := hRA.out
              clear hR4 HRB
              generalize divO r ((l.length : Int), 1) = av at *
              generalize orZ av = nv at *
              generalize av.isNone = nb at *
              go_upto_region 24 with (go_at_call 69; ((with_reducible refine (HDV.out _ hS4.out.ca).mono ?_); rintro e w6 ⟨rfl, hc6, hk6⟩; obtain ⟨s0, s1, s2, s3⟩ := hRA.out.kp hk6 hnrc))
              obtain ⟨w7, hw7⟩ : ∃ V, V = (w6.setCell ⟨rb, 0, none⟩ (.int .i64 nv.1)).setCell ⟨rb, 1, none⟩ (.int .i64 nv.2) := ⟨_, rfl⟩
              rw [← hw7]
              have HK7 := Lib.hid (show Kp rb w6 w7 by rw [hw7]; exact kp_set2 _ _)
              have HRA7 := Lib.hid (show RestAt w7 rb nv by rw [hw7]; exact (hRA.out.kp hk6 hnrc).set nv)
              have HS7 := Lib.hid ((hS4.out.kp HFX.out hk6 hc6).far HFX.out HK7.out hrbm)
              have HR6 := Lib.hid (Rel6.zero hkl HR5.out hR.out)
              have HSH := Lib.hid (fun i (h : ∃ j < l.length, l[j]!.id = i) => share_in HD.out hkl hR.out h)
              have t0 := HS7.out.c0
              clear hS4 hRA hc6 hk6 s0 s1 s2 s3 r0 r1 hw7 HK7 HDV HR5 hR hnrc
              generalize (ov || nb) = ov5 at *

              go_wp2_with fail
              clear t0
              go_loopw [90] (fun u W => ∃ (i : Nat) (gi : Lit → Option Value) (ov : Bool), u = .int .i64 i ∧ i ≤ g.edges.length ∧ Hid (Rel6 types g.edges damp l nv i gi ov) ∧ Hid (RestAt W rb nv) ∧ Hid (StA w W q qd cb md ms mi B d g.edges damp ov gd gs gi j k (k + i))) (fun u _ => g.edges.length - (intOf u).toNat)
              case atStart => exact ⟨0, _, _, rfl, Nat.zero_le _, HR6, Lib.hid (HRA7.out.ext (by with_reducible repeat (first | exact Ext.refl _ | assumption | refine Ext.drew ?_ | refine Ext.drewN ?_ _ | refine Ext.alloc ?_ _))), Lib.hid (HS7.out.exts (by with_reducible repeat (first | exact Ext.refl _ | assumption | refine Ext.drew ?_ | refine Ext.drewN ?_ _ | refine Ext.alloc ?_ _)))⟩
              case round =>
                clear HR6 HRA7 HS7
                obtain ⟨i, gi, ov, rfl, hi, hR6, hRA, hS4⟩ := hrel
                have HRB := Lib.hid (show rb < wr.heap.size from block_lt_of_cell hRA.out.n)
                by_cases hli : i < g.edges.length
                · obtain ⟨be, oe, rfl, hc⟩ := (HE.out wr hS4.out.ext).at_ hli
                  obtain ⟨-, a0, a1, a2, a3, B', d', a4, -, -⟩ := hc i hli
                  obtain ⟨hef, het⟩ := HEN.out i hli
                  have hfr : 1 ≤ g.edges[i]!.frm ∧ g.edges[i]!.frm ≤ 1000001 := by obtain ⟨jj, hjj, hje⟩ := hef; rw [← hje]; exact HID.out jj hjj
                  have hto : 1 ≤ g.edges[i]!.to_ ∧ g.edges[i]!.to_ ≤ 1000001 := by obtain ⟨jj, hjj, hje⟩ := het; rw [← hje]; exact HID.out jj hjj
                  have hkf := HKEY.out _ hfr.1 hfr.2
                  have hkt := HKEY.out _ hto.1 hto.2
                  have HSV := Lib.hid (HSH.out _ hef)
                  have HGV := Lib.hid (HDG.out g.edges[i]!.frm)
                  have HSK := Lib.hid (fun h => hR6.out.skip hli h)
                  obtain ⟨f, hf⟩ := hR6.out.get het
                  have HFV := Lib.hid hf
                  have HNX := Lib.hid (fun h => hR6.out.next hli h het hf rfl)
                  have hkm : k + i < maxLen := by unfold maxLen; omega
                  have hdn : degN types g.edges g.edges[i]!.frm ≤ 4000 := Nat.le_trans (degN_le _ _ _) hel
                  obtain ⟨y, w2, hy, hw2, n0, n1, n2, n3, n4, hx2⟩ := box_edge wr g.edges[i]! B' d' 55
                  have HW2 := Lib.hid hw2
                  have HY := Lib.hid hy
                  have HC := Lib.hid (HHT.out g.edges[i]!)
                  have HS3 := Lib.hid (hS4.out.exts hx2)
                  have HRA3 := Lib.hid (hRA.out.ext hx2)
                  have hyr : rb < y := by rw [hy]; exact HRB.out
                  have hnrc : rb ≠ cb := (by have h0 := HFX.out.e0; have h1 := HFX.out.e1; have h2 := HFX.out.e2; have h3 := HFX.out.e3; have h4 := HFX.out.e4; have h5 := HFX.out.e5; omega)
                  have hnri : rb ≠ mi := (by have h0 := HFX.out.e0; have h1 := HFX.out.e1; have h2 := HFX.out.e2; have h3 := HFX.out.e3; have h4 := HFX.out.e4; have h5 := HFX.out.e5; omega)
                  have hyc : y ≠ cb := (by have h0 := HFX.out.e0; have h1 := HFX.out.e1; have h2 := HFX.out.e2; have h3 := HFX.out.e3; have h4 := HFX.out.e4; have h5 := HFX.out.e5; omega)
                  have HDV := Lib.hid (fun W h => rk_div cb ov (shareOf l g.edges[i]!.frm) (degN types g.edges g.edges[i]!.frm : Int) W h)
                  clear hc hy hw2 hS4 hRA hR6 hfr hto hef het hf HRB
                  generalize g.edges[i]! = x at *
                  generalize degN types g.edges x.frm = dn at *
                  generalize shareOf l x.frm = sh at *
                  generalize divO sh ((dn : Int), 1) = qv at *
                  generalize orZ qv = qz at *
                  generalize qv.isNone = qn at *
                  have HADD := Lib.hid (fun W hz h => rk_add cb (ov || qn) f qz W hz h)
                  generalize addO f qz = av at *
                  generalize orZ av = nf at *
                  generalize av.isNone = nb at *
                  go_upto_region 27 with (fail)
                  rw [← HW2.out, ← HY.out]
                  clear HW2 HY a0 a1 a2 a3 a4
                  cases htb : typB types x.typ
                  · rw [htb] at HC
                    have HR6 := Lib.hid (HSK.out htb)
                    clear HSK HNX
                    go_wp2_with (go_at_call 67; ((with_reducible refine (HC.out _ _ _ _ HS3.out.ext).mono ?_); rintro e w6 ⟨rfl, hx6⟩))
                    have HS6 := Lib.hid (HS3.out.exts hx6)
                    have HRA6 := Lib.hid (HRA3.out.ext hx6)
                    clear HS3 HRA3 hx6
                    go_roundw
                    case rel => exact ⟨i + 1, _, _, by go_num, by omega, HR6, HRA6, Lib.hid (by have h := HS6.out; exact ⟨h.c0, h.c1, h.c2, h.ca, h.md, h.ms, h.mi.mono (by omega), h.ext⟩)⟩
                    case measure => simp [intOf]; omega
                  · rw [htb] at HC
                    have HR6 := Lib.hid (HNX.out htb)
                    clear HSK HNX
                    go_upto_region 28 with (go_at_call 67; ((with_reducible refine (HC.out _ _ _ _ HS3.out.ext).mono ?_); rintro e w6 ⟨rfl, hx6⟩; replace n1 := hx6.cell n1; replace n2 := hx6.cell n2))
                    have HS6 := Lib.hid (HS3.out.exts hx6)
                    have HRA6 := Lib.hid (HRA3.out.ext hx6)
                    have hm1 : md ≠ cb := (by have h0 := HFX.out.e0; have h1 := HFX.out.e1; have h2 := HFX.out.e2; have h3 := HFX.out.e3; have h4 := HFX.out.e4; have h5 := HFX.out.e5; omega)
                    have hm2 : ms ≠ cb := (by have h0 := HFX.out.e0; have h1 := HFX.out.e1; have h2 := HFX.out.e2; have h3 := HFX.out.e3; have h4 := HFX.out.e4; have h5 := HFX.out.e5; omega)
                    have hm3 : mi ≠ cb := (by have h0 := HFX.out.e0; have h1 := HFX.out.e1; have h2 := HFX.out.e2; have h3 := HFX.out.e3; have h4 := HFX.out.e4; have h5 := HFX.out.e5; omega)
                    clear HS3 HRA3 hx6 n0 n3 n4
                    have MKC := Lib.hid (fun V (e : Kp cb w6 V) => (⟨e.cell n1 hyc, e.cell n2 hyc, e.map HS6.out.md hm1, e.map HS6.out.ms hm2, e.map HS6.out.mi hm3⟩ : V.cell? ⟨y, 1, none⟩ = some (.int .i64 x.frm) ∧ V.cell? ⟨y, 2, none⟩ = some (.int .i64 x.to_) ∧ MapOf Tryd.prog 3 V md j gd ∧ MapOf Tryd.prog 3 V ms k gs ∧ MapOf Tryd.prog 3 V mi (k + i) gi))
                    refine AnyE.start (S := (fun V => V.cell? ⟨y, 1, none⟩ = some (.int .i64 x.frm) ∧ V.cell? ⟨y, 2, none⟩ = some (.int .i64 x.to_) ∧ MapOf Tryd.prog 3 V md j gd ∧ MapOf Tryd.prog 3 V ms k gs ∧ MapOf Tryd.prog 3 V mi (k + i) gi)) (E := 19) (by kernel_rfl) ?hs13 (fun hHeld => ?go13)
                    case hs13 => (exact MKC.out _ (by with_reducible repeat (first | exact Kp.refl _ _ | assumption | refine Kp.drew ?_ | refine Kp.drewN ?_ _ | refine Kp.alloc ?_ _)))
                    refine AnyE.takeP (i := 0) (oi := ⟨(some 97), (.move (.tmp 13)), 99, "rank.go:108", #[], none⟩) (v := ?v14) rfl (by kernel_rfl) (by kernel_rfl) (by kernel_rfl) (fun _ _ _ h => h) rfl (Or.inl ⟨rfl, ?hy14⟩) (fun _ => hHeld) ?rest14
                    case hy14 => (intro w _; go_simp <;> rfl)
                    (try simp only [PU])
                    refine AnyE.takeP (i := 1) (oi := ⟨(some 98), (.fieldAddr 55 (.tmp 22) 2), 0, "rank.go:108", #[], none⟩) (v := ?v15) rfl (by kernel_rfl) (by kernel_rfl) (by kernel_rfl) (fun _ _ _ h => h) rfl (Or.inl ⟨rfl, ?hy15⟩) (fun _ => hHeld) ?rest15
                    case hy15 => (intro w _; go_simp <;> rfl)
                    (try simp only [PU])
                    refine AnyE.take (i := 2) (oi := ⟨(some 99), (.load 3 (.tmp 98)), 3, "rank.go:108", #[⟨1, .data⟩], none⟩) (v := ?v16) rfl (by kernel_rfl) (by kernel_rfl) (by kernel_rfl) (fun _ _ _ h => h) (by kernel_rfl) rfl (by kernel_rfl) (Or.inl ⟨rfl, ?hy16⟩) hHeld ?rest16
                    case hy16 => (intro w hSw; (try dsimp only at hSw); go_simp <;> first | with_reducible rfl | rw [if_neg (by omega)] | rw [if_pos (by omega)])
                    (try simp only [PU])
                    refine AnyE.takeP (i := 3) (oi := ⟨(some 100), (.move (.tmp 10)), 95, "rank.go:108", #[], none⟩) (v := ?v17) rfl (by kernel_rfl) (by kernel_rfl) (by kernel_rfl) (fun _ _ _ h => h) rfl (Or.inl ⟨rfl, ?hy17⟩) (fun _ => hHeld) ?rest17
                    case hy17 => (intro w _; go_simp <;> rfl)
                    (try simp only [PU])
                    refine AnyE.takeP (i := 4) (oi := ⟨(some 101), (.move (.tmp 13)), 99, "rank.go:108", #[], none⟩) (v := ?v18) rfl (by kernel_rfl) (by kernel_rfl) (by kernel_rfl) (fun _ _ _ h => h) rfl (Or.inl ⟨rfl, ?hy18⟩) (fun _ => hHeld) ?rest18
                    case hy18 => (intro w _; go_simp <;> rfl)
                    (try simp only [PU])
                    refine AnyE.takeP (i := 5) (oi := ⟨(some 102), (.fieldAddr 55 (.tmp 22) 2), 0, "rank.go:108", #[], none⟩) (v := ?v19) rfl (by kernel_rfl) (by kernel_rfl) (by kernel_rfl) (fun _ _ _ h => h) rfl (Or.inl ⟨rfl, ?hy19⟩) (fun _ => hHeld) ?rest19
                    case hy19 => (intro w _; go_simp <;> rfl)
                    (try simp only [PU])
                    refine AnyE.take (i := 6) (oi := ⟨(some 103), (.load 3 (.tmp 102)), 3, "rank.go:108", #[⟨5, .data⟩], none⟩) (v := ?v20) rfl (by kernel_rfl) (by kernel_rfl) (by kernel_rfl) (fun _ _ _ h => h) (by kernel_rfl) rfl (by kernel_rfl) (Or.inl ⟨rfl, ?hy20⟩) hHeld ?rest20
                    case hy20 => (intro w hSw; (try dsimp only at hSw); go_simp <;> first | with_reducible rfl | rw [if_neg (by omega)] | rw [if_pos (by omega)])
                    (try simp only [PU])
                    refine AnyE.take (i := 7) (oi := ⟨(some 104), (.lookup 99 (.tmp 101) (.tmp 103) false), 25, "rank.go:108", #[⟨4, .data⟩, ⟨6, .data⟩], none⟩) (v := ?v21) rfl (by kernel_rfl) (by kernel_rfl) (by kernel_rfl) (fun _ _ _ h => h) (by kernel_rfl) rfl (by kernel_rfl) (Or.inl ⟨rfl, ?hy21⟩) hHeld ?rest21
                    case hy21 => (intro w hSw; (try dsimp only at hSw); (refine run_look (.tmp 101) (.tmp 103) 99 ?_ (int_keyed Tryd.underlying3) Tryd.underlying99 (z := .agg #[.int .i64 0, .int .i64 0]) (key := .int .i64 x.to_) (kl := lk x.to_) (v := .agg #[.int .i64 f.1, .int .i64 f.2]) ?_ ?_ hSw.2.2.2.2 ?_ hkt ?_) <;> first | rfl | exact HFV.out | (rw [HFV.out]; rfl))
                    (try simp only [PU])
                    refine AnyE.takeP (i := 8) (oi := ⟨(some 105), (.move (.tmp 10)), 95, "rank.go:108", #[], none⟩) (v := ?v22) rfl (by kernel_rfl) (by kernel_rfl) (by kernel_rfl) (fun _ _ _ h => h) rfl (Or.inl ⟨rfl, ?hy22⟩) (fun _ => hHeld) ?rest22
                    case hy22 => (intro w _; go_simp <;> rfl)
                    (try simp only [PU])
                    refine AnyE.takeP (i := 9) (oi := ⟨(some 106), (.move (.tmp 12)), 99, "rank.go:108", #[], none⟩) (v := ?v23) rfl (by kernel_rfl) (by kernel_rfl) (by kernel_rfl) (fun _ _ _ h => h) rfl (Or.inl ⟨rfl, ?hy23⟩) (fun _ => hHeld) ?rest23
                    case hy23 => (intro w _; go_simp <;> rfl)
                    (try simp only [PU])
                    refine AnyE.takeP (i := 10) (oi := ⟨(some 107), (.fieldAddr 55 (.tmp 22) 1), 0, "rank.go:108", #[], none⟩) (v := ?v24) rfl (by kernel_rfl) (by kernel_rfl) (by kernel_rfl) (fun _ _ _ h => h) rfl (Or.inl ⟨rfl, ?hy24⟩) (fun _ => hHeld) ?rest24
                    case hy24 => (intro w _; go_simp <;> rfl)
                    (try simp only [PU])
                    refine AnyE.take (i := 11) (oi := ⟨(some 108), (.load 3 (.tmp 107)), 3, "rank.go:108", #[⟨10, .data⟩], none⟩) (v := ?v25) rfl (by kernel_rfl) (by kernel_rfl) (by kernel_rfl) (fun _ _ _ h => h) (by kernel_rfl) rfl (by kernel_rfl) (Or.inl ⟨rfl, ?hy25⟩) hHeld ?rest25
                    case hy25 => (intro w hSw; (try dsimp only at hSw); go_simp <;> first | with_reducible rfl | rw [if_neg (by omega)] | rw [if_pos (by omega)])
                    (try simp only [PU])
                    refine AnyE.take (i := 12) (oi := ⟨(some 109), (.lookup 99 (.tmp 106) (.tmp 108) false), 25, "rank.go:108", #[⟨9, .data⟩, ⟨11, .data⟩], none⟩) (v := ?v26) rfl (by kernel_rfl) (by kernel_rfl) (by kernel_rfl) (fun _ _ _ h => h) (by kernel_rfl) rfl (by kernel_rfl) (Or.inl ⟨rfl, ?hy26⟩) hHeld ?rest26
                    case hy26 => (intro w hSw; (try dsimp only at hSw); (refine run_look (.tmp 106) (.tmp 108) 99 ?_ (int_keyed Tryd.underlying3) Tryd.underlying99 (z := .agg #[.int .i64 0, .int .i64 0]) (key := .int .i64 x.frm) (kl := lk x.frm) (v := .agg #[.int .i64 sh.1, .int .i64 sh.2]) ?_ ?_ hSw.2.2.2.1 ?_ hkf ?_) <;> first | rfl | exact HSV.out | (rw [HSV.out]; rfl))
                    (try simp only [PU])
                    refine AnyE.takeP (i := 13) (oi := ⟨(some 110), (.move (.tmp 11)), 98, "rank.go:108", #[], none⟩) (v := ?v27) rfl (by kernel_rfl) (by kernel_rfl) (by kernel_rfl) (fun _ _ _ h => h) rfl (Or.inl ⟨rfl, ?hy27⟩) (fun _ => hHeld) ?rest27
                    case hy27 => (intro w _; go_simp <;> rfl)
                    (try simp only [PU])
                    refine AnyE.takeP (i := 14) (oi := ⟨(some 111), (.fieldAddr 55 (.tmp 22) 1), 0, "rank.go:108", #[], none⟩) (v := ?v28) rfl (by kernel_rfl) (by kernel_rfl) (by kernel_rfl) (fun _ _ _ h => h) rfl (Or.inl ⟨rfl, ?hy28⟩) (fun _ => hHeld) ?rest28
                    case hy28 => (intro w _; go_simp <;> rfl)
                    (try simp only [PU])
                    refine AnyE.take (i := 15) (oi := ⟨(some 112), (.load 3 (.tmp 111)), 3, "rank.go:108", #[⟨14, .data⟩], none⟩) (v := ?v29) rfl (by kernel_rfl) (by kernel_rfl) (by kernel_rfl) (fun _ _ _ h => h) (by kernel_rfl) rfl (by kernel_rfl) (Or.inl ⟨rfl, ?hy29⟩) hHeld ?rest29
                    case hy29 => (intro w hSw; (try dsimp only at hSw); go_simp <;> first | with_reducible rfl | rw [if_neg (by omega)] | rw [if_pos (by omega)])
                    (try simp only [PU])
                    refine AnyE.take (i := 16) (oi := ⟨(some 113), (.lookup 98 (.tmp 110) (.tmp 112) false), 3, "rank.go:108", #[⟨13, .data⟩, ⟨15, .data⟩], none⟩) (v := ?v30) rfl (by kernel_rfl) (by kernel_rfl) (by kernel_rfl) (fun _ _ _ h => h) (by kernel_rfl) rfl (by kernel_rfl) (Or.inl ⟨rfl, ?hy30⟩) hHeld ?rest30
                    case hy30 => (intro w hSw; (try dsimp only at hSw); (refine run_look (.tmp 110) (.tmp 112) 98 ?_ (int_keyed Tryd.underlying3) Tryd.underlying98 (z := .int .i64 0) (key := .int .i64 x.frm) (kl := lk x.frm) (v := .int .i64 (dn : Int)) ?_ ?_ hSw.2.2.1 ?_ hkf ?_) <;> first | rfl | exact HGV.out | (rw [HGV.out]; rfl))
                    (try simp only [PU])
                    refine AnyE.ready (rs := [17]) (by kernel_rfl) (by simp) ?_
                    refine AllE.cons (o := ⟨(some 114), (.call { callee := (.value (.func 69)), args := #[(.tmp 105), (.tmp 109), (.tmp 113)], argTypes := #[95, 25, 3] }), 25, "rank.go:108", #[⟨8, .data⟩, ⟨12, .data⟩, ⟨16, .data⟩], none⟩) rfl (fun K hK => ?step31x0) ?more31x0
                    case more31x0 => exact AllE.nil
                    go_simp
                    (refine (HDV.out _ (HS6.out.ca.ext (by with_reducible repeat (first | exact Ext.refl _ | assumption | refine Ext.drew ?_ | refine Ext.drewN ?_ _ | refine Ext.alloc ?_ _)))).mono ?_; rintro e w7 ⟨rfl, hc7, hk7⟩; replace hk7 : Kp cb w6 w7 := Kp.trans (by with_reducible repeat (first | exact Kp.refl _ _ | assumption | refine Kp.drew ?_ | refine Kp.drewN ?_ _ | refine Kp.alloc ?_ _)) hk7)
                    refine hK.out _ _ ?hS31x0 (fun hHeld31 => ?rest31x0)
                    case hS31x0 => intro _; first | (exact MKC.out _ (by with_reducible repeat (first | exact Kp.refl _ _ | assumption | refine Kp.drew ?_ | refine Kp.drewN ?_ _ | refine Kp.alloc ?_ _))) | ((try dsimp only); (exact MKC.out _ (by with_reducible repeat (first | exact Kp.refl _ _ | assumption | refine Kp.drew ?_ | refine Kp.drewN ?_ _ | refine Kp.alloc ?_ _))))
                    clear hK K
                    clear hHeld
                    (try simp only [PU])
                    refine AnyE.ready (rs := [18]) (by kernel_rfl) (by simp) ?_
                    refine AllE.cons (o := ⟨(some 115), (.call { callee := (.value (.func 68)), args := #[(.tmp 100), (.tmp 104), (.tmp 114)], argTypes := #[95, 25, 25] }), 25, "rank.go:108", #[⟨3, .data⟩, ⟨7, .data⟩, ⟨17, .data⟩, ⟨17, .chain⟩], none⟩) rfl (fun K hK => ?step32x0) ?more32x0
                    case more32x0 => exact AllE.nil
                    go_simp
                    (refine (HADD.out _ (HZ.out _ (HS6.out.kp HFX.out (V := _) (by with_reducible repeat (first | exact Kp.refl _ _ | assumption | refine Kp.drew ?_ | refine Kp.drewN ?_ _ | refine Kp.alloc ?_ _)) (hc7.ext (by with_reducible repeat (first | exact Ext.refl _ | assumption | refine Ext.drew ?_ | refine Ext.drewN ?_ _ | refine Ext.alloc ?_ _)))).ext) (hc7.ext (by with_reducible repeat (first | exact Ext.refl _ | assumption | refine Ext.drew ?_ | refine Ext.drewN ?_ _ | refine Ext.alloc ?_ _)))).mono ?_; rintro e w8 ⟨rfl, hc8, hk8⟩; replace hk8 : Kp cb w6 w8 := Kp.trans (by with_reducible repeat (first | exact Kp.refl _ _ | assumption | refine Kp.drew ?_ | refine Kp.drewN ?_ _ | refine Kp.alloc ?_ _)) hk8)
                    refine hK.out _ _ ?hS32x0 (fun hHeld32 => ?rest32x0)
                    case hS32x0 => intro _; first | (exact MKC.out _ (by with_reducible repeat (first | exact Kp.refl _ _ | assumption | refine Kp.drew ?_ | refine Kp.drewN ?_ _ | refine Kp.alloc ?_ _))) | ((try dsimp only); (exact MKC.out _ (by with_reducible repeat (first | exact Kp.refl _ _ | assumption | refine Kp.drew ?_ | refine Kp.drewN ?_ _ | refine Kp.alloc ?_ _))))
                    clear hK K
                    clear hHeld31
                    (try simp only [PU])
                    refine AnyE.ready (rs := [19]) (by kernel_rfl) (by simp) ?_
                    refine AllE.cons (o := ⟨none, (.mapUpdate 99 (.tmp 97) (.tmp 99) (.tmp 115)), 0, "rank.go:108", #[⟨0, .data⟩, ⟨2, .data⟩, ⟨18, .data⟩, ⟨18, .chain⟩, ⟨0, .phase⟩, ⟨1, .phase⟩, ⟨2, .phase⟩, ⟨3, .phase⟩, ⟨4, .phase⟩, ⟨5, .phase⟩, ⟨6, .phase⟩, ⟨7, .phase⟩, ⟨8, .phase⟩, ⟨9, .phase⟩, ⟨10, .phase⟩, ⟨11, .phase⟩, ⟨12, .phase⟩, ⟨13, .phase⟩, ⟨14, .phase⟩, ⟨15, .phase⟩, ⟨16, .phase⟩, ⟨17, .phase⟩, ⟨18, .phase⟩], none⟩) rfl (fun K hK => ?step33x0) ?more33x0
                    case more33x0 => exact AllE.nil
                    (refine step_put rfl (.tmp 97) (.tmp 99) (.tmp 115) 99 rfl (int_keyed Tryd.underlying3) Tryd.underlying99 mi (k + i) gi rfl (hk8.map HS6.out.mi hm3) hkm (.int .i64 x.to_) (frV nf) (lk x.to_) rfl rfl hkt ?_; intro w9 hm9 hg9)
                    refine hK.out _ _ ?hS33x0 (fun hHeld33 => ?rest33x0)
                    case hS33x0 => first | (intro h; exact absurd h (by decide)) | (intro h; simp at h)
                    clear hK K
                    clear hHeld32
                    refine AnyE.done (by kernel_rfl) ?_ _
                    clear hHeld33
                    go_wp2_with fail
                    have HS9 := Lib.hid ((HS6.out.kp HFX.out hk8 hc8).puti HFX.out hg9 hm9)
                    have HRA9 := Lib.hid ((HRA6.out.kp hk8 hnrc).kp hg9 hnri)
                    clear MKC hm9 hg9 hk8 hc8 hk7 hc7 HS6 HRA6 n1 n2 HADD HDV
                    go_roundw
                    case rel => exact ⟨i + 1, _, _, by go_num, by omega, HR6, HRA9, HS9⟩
                    case measure => simp [intOf]; omega
                · have HSB := Lib.hid (fun W hz h => rk_sub cb ov (1, 1) damp W hz hdb.1 hdb.2 h)
                  have HR7 := Lib.hid (hR6.out.base hli rfl)
                  clear hR6 HDG HSH HEN HHT HE
                  generalize subO (1, 1) damp = sv at *
                  generalize orZ sv = sz at *
                  generalize sv.isNone = sn at *
                  have HDV := Lib.hid (fun W h => rk_div cb (ov || sn) sz (l.length : Int) W h)
                  generalize divO sz ((l.length : Int), 1) = bv at *
                  generalize orZ bv = bz at *
                  generalize bv.isNone = bn at *
                  dsimp only at HSB
                  obtain ⟨y4, hy4⟩ : ∃ V, V = wr := ⟨_, rfl⟩
                  subst hy4
                  obtain ⟨i4, hi4⟩ : ∃ V, V = i := ⟨_, rfl⟩
                  subst hi4
                  have HS4 := hS4
                  have HCB := Lib.hid (show cb < y4.heap.size from block_lt_of_cell hS4.out.ca.cell)
                  have HMB := Lib.hid hS4.out.mi.lt
                  have p0 := hS4.out.c1
                  have p1 := hS4.out.c2
                  have hqc : qd ≠ cb := (by have h0 := HFX.out.e0; have h1 := HFX.out.e1; have h2 := HFX.out.e2; have h3 := HFX.out.e3; have h4 := HFX.out.e4; have h5 := HFX.out.e5; omega)
                  have hnrc : rb ≠ cb := (by have h0 := HFX.out.e0; have h1 := HFX.out.e1; have h2 := HFX.out.e2; have h3 := HFX.out.e3; have h4 := HFX.out.e4; have h5 := HFX.out.e5; omega)
                  clear hS4
                  have MKA := Lib.hid (fun V (e : Kp cb y4 V) => (⟨e.cell p0 hqc, e.cell p1 hqc, e⟩ : V.cell? ⟨qd, 0, none⟩ = some (.int .i64 damp.1) ∧ V.cell? ⟨qd, 1, none⟩ = some (.int .i64 damp.2) ∧ Kp cb y4 V))
                  have MKB := Lib.hid (fun V gg u0 u1 (hgg : y4.heap.size ≤ gg) (e : Kp cb y4 V) => (⟨((cell_other (by have := block_lt_of_cell p0; simp at this; omega)).trans ((cell_other (by have := block_lt_of_cell p0; simp at this; omega)).trans (e.cell p0 hqc))), ((cell_other (by have := block_lt_of_cell p1; simp at this; omega)).trans ((cell_other (by have := block_lt_of_cell p1; simp at this; omega)).trans (e.cell p1 hqc))), (Kp.set (Kp.set e hgg _) hgg _)⟩ : ((V.setCell ⟨gg, 0, none⟩ u0).setCell ⟨gg, 1, none⟩ u1).cell? ⟨qd, 0, none⟩ = some (.int .i64 damp.1) ∧ ((V.setCell ⟨gg, 0, none⟩ u0).setCell ⟨gg, 1, none⟩ u1).cell? ⟨qd, 1, none⟩ = some (.int .i64 damp.2) ∧ Kp cb y4 ((V.setCell ⟨gg, 0, none⟩ u0).setCell ⟨gg, 1, none⟩ u1)))
                  go_upto_region 30 with (fail)
                  go_cut [23] (fun p wx => ∃ gx : Nat, p = .pointer (some ⟨gx, 0, none⟩) ∧ y4.heap.size ≤ gx ∧ wx.cell? ⟨gx, 0, none⟩ = some (.int .i64 bz.1) ∧ wx.cell? ⟨gx, 1, none⟩ = some (.int .i64 bz.2) ∧ CalcAt wx cb ((ov || sn) || bn) ∧ Kp cb y4 wx)
                  case first =>
                    refine wp_region_held_drew (S := (fun V => V.cell? ⟨qd, 0, none⟩ = some (.int .i64 damp.1) ∧ V.cell? ⟨qd, 1, none⟩ = some (.int .i64 damp.2) ∧ Kp cb y4 V)) (by kernel_rfl) ?hs5001 (fun hHeld => ?go5001)
                    case hs5001 => (first | with_reducible exact MKB.out _ _ _ _ (by first | exact Nat.le_refl _ | exact Kp.le (cb := cb) (by with_reducible repeat (first | exact Kp.refl _ _ | assumption | refine Kp.drew ?_ | refine Kp.drewN ?_ _ | refine Kp.alloc ?_ _))) (by with_reducible repeat (first | exact Kp.refl _ _ | assumption | refine Kp.drew ?_ | refine Kp.drewN ?_ _ | refine Kp.alloc ?_ _)) | exact MKA.out _ (by with_reducible repeat (first | exact Kp.refl _ _ | assumption | refine Kp.drew ?_ | refine Kp.drewN ?_ _ | refine Kp.alloc ?_ _)))
                    refine wpAnyH_take (i := 0) (oi := ⟨(some 117), (.move (.tmp 10)), 95, "rank.go:111", #[], none⟩) (v := ?v5002) rfl (by kernel_rfl) (by kernel_rfl) (by kernel_rfl) (fun _ _ _ h => h) (Or.inl ⟨rfl, ?hy5002⟩) hHeld ?rest5002
                    case hy5002 => (intro w _; go_simp <;> rfl)
                    (try simp only [PU])
                    refine wpAnyH_take (i := 1) (oi := ⟨(some 118), (.move (.tmp 10)), 95, "rank.go:111", #[], none⟩) (v := ?v5003) rfl (by kernel_rfl) (by kernel_rfl) (by kernel_rfl) (fun _ _ _ h => h) (Or.inl ⟨rfl, ?hy5003⟩) hHeld ?rest5003
                    case hy5003 => (intro w _; go_simp <;> rfl)
                    (try simp only [PU])
                    refine wpAnyH_take (i := 3) (oi := ⟨(some 120), (.load 25 (.tmp 6)), 25, "rank.go:111", #[], none⟩) (v := ?v5004) rfl (by kernel_rfl) (by kernel_rfl) (by kernel_rfl) (fun _ _ _ h => h) (Or.inl ⟨rfl, ?hy5004⟩) hHeld ?rest5004
                    case hy5004 => (intro w hSw; (try dsimp only at hSw); go_simp <;> first | with_reducible rfl | rw [if_neg (by omega)] | rw [if_pos (by omega)])
                    (try simp only [PU])
                    refine wpAnyH_take (i := 5) (oi := ⟨(some 122), (.move (.tmp 3)), 22, "rank.go:111", #[], none⟩) (v := ?v5005) rfl (by kernel_rfl) (by kernel_rfl) (by kernel_rfl) (fun _ _ _ h => h) (Or.inl ⟨rfl, ?hy5005⟩) hHeld ?rest5005
                    case hy5005 => (intro w _; go_simp <;> rfl)
                    (try simp only [PU])
                    refine wpAnyH_take (i := 6) (oi := ⟨(some 123), (.call { callee := (.builtin .len), args := #[(.tmp 122)], argTypes := #[22] }), 3, "rank.go:111", #[⟨5, .data⟩], none⟩) (v := ?v5006) rfl (by kernel_rfl) (by kernel_rfl) (by kernel_rfl) (fun _ _ _ h => h) (Or.inl ⟨rfl, ?hy5006⟩) hHeld ?rest5006
                    case hy5006 => (intro w _; go_simp <;> first | with_reducible rfl | rw [if_neg (by omega)] | rw [if_pos (by omega)])
                    (try simp only [PU])
                    refine wpAnyH_ready (rs := [2, 8]) (by kernel_rfl) (by simp) ?_
                    refine AllReadyH.cons (o := ⟨(some 119), (.call { callee := (.value (.func 23)), args := #[(.const (.int .i64 1))], argTypes := #[3] }), 25, "rank.go:111", #[], none⟩) rfl (fun K hK => ?step5007x0) ?more5007x0
                    case more5007x0 =>
                      refine AllReadyH.cons (o := ⟨(some 23), (.alloc 25), 0, "rank.go:111", #[], none⟩) rfl (fun K hK => ?step5007x1) ?more5007x1
                      case more5007x1 => exact AllReadyH.nil
                      go_simp
                      refine hK.out _ _ ?hS5007x1 (fun hHeld5007 => ?rest5007x1)
                      case hS5007x1 => first | (first | with_reducible exact MKB.out _ _ _ _ (by first | exact Nat.le_refl _ | exact Kp.le (cb := cb) (by with_reducible repeat (first | exact Kp.refl _ _ | assumption | refine Kp.drew ?_ | refine Kp.drewN ?_ _ | refine Kp.alloc ?_ _))) (by with_reducible repeat (first | exact Kp.refl _ _ | assumption | refine Kp.drew ?_ | refine Kp.drewN ?_ _ | refine Kp.alloc ?_ _)) | exact MKA.out _ (by with_reducible repeat (first | exact Kp.refl _ _ | assumption | refine Kp.drew ?_ | refine Kp.drewN ?_ _ | refine Kp.alloc ?_ _))) | ((try dsimp only); (first | with_reducible exact MKB.out _ _ _ _ (by first | exact Nat.le_refl _ | exact Kp.le (cb := cb) (by with_reducible repeat (first | exact Kp.refl _ _ | assumption | refine Kp.drew ?_ | refine Kp.drewN ?_ _ | refine Kp.alloc ?_ _))) (by with_reducible repeat (first | exact Kp.refl _ _ | assumption | refine Kp.drew ?_ | refine Kp.drewN ?_ _ | refine Kp.alloc ?_ _)) | exact MKA.out _ (by with_reducible repeat (first | exact Kp.refl _ _ | assumption | refine Kp.drew ?_ | refine Kp.drewN ?_ _ | refine Kp.alloc ?_ _))))
                      clear hK K
                      clear hHeld
                      (try simp only [PU])
                      refine wpAnyH_ready (rs := [2]) (by kernel_rfl) (by simp) ?_
                      refine AllReadyH.cons (o := ⟨(some 119), (.call { callee := (.value (.func 23)), args := #[(.const (.int .i64 1))], argTypes := #[3] }), 25, "rank.go:111", #[], none⟩) rfl (fun K hK => ?step5008x0) ?more5008x0
                      case more5008x0 => exact AllReadyH.nil
                      go_simp
                      (refine (rk_whole 1 _).mono ?_; rintro e y5 ⟨rfl, hx5⟩; have hk5 := Kp.of_ext (cb := cb) hx5; replace hx5 : Ext y4 y5 := Ext.trans (by with_reducible repeat (first | exact Ext.refl _ | assumption | refine Ext.drew ?_ | refine Ext.drewN ?_ _ | refine Ext.alloc ?_ _)) hx5; have yy0 := frozen_kp hk5 (p := ⟨y4.heap.size, 0, none⟩) (v := (.int .i64 0)) (by go_simp) (by go_simp) (by have h9 := HCB.out; simp; omega); have zz0 := hk5.cell (p := ⟨y4.heap.size, 0, none⟩) (v := (.int .i64 0)) (by go_simp) (by have h9 := HCB.out; simp; omega); have yy1 := frozen_kp hk5 (p := ⟨y4.heap.size, 1, none⟩) (v := (.int .i64 0)) (by go_simp) (by go_simp) (by have h9 := HCB.out; simp; omega); have zz1 := hk5.cell (p := ⟨y4.heap.size, 1, none⟩) (v := (.int .i64 0)) (by go_simp) (by have h9 := HCB.out; simp; omega); replace hk5 : Kp cb y4 y5 := Kp.trans (by with_reducible repeat (first | exact Kp.refl _ _ | assumption | refine Kp.drew ?_ | refine Kp.drewN ?_ _ | refine Kp.alloc ?_ _)) hk5)
                      refine hK.out _ _ ?hS5008x0 (fun hHeld5008 => ?rest5008x0)
                      case hS5008x0 => first | (first | with_reducible exact MKB.out _ _ _ _ (by first | exact Nat.le_refl _ | exact Kp.le (cb := cb) (by with_reducible repeat (first | exact Kp.refl _ _ | assumption | refine Kp.drew ?_ | refine Kp.drewN ?_ _ | refine Kp.alloc ?_ _))) (by with_reducible repeat (first | exact Kp.refl _ _ | assumption | refine Kp.drew ?_ | refine Kp.drewN ?_ _ | refine Kp.alloc ?_ _)) | exact MKA.out _ (by with_reducible repeat (first | exact Kp.refl _ _ | assumption | refine Kp.drew ?_ | refine Kp.drewN ?_ _ | refine Kp.alloc ?_ _))) | ((try dsimp only); (first | with_reducible exact MKB.out _ _ _ _ (by first | exact Nat.le_refl _ | exact Kp.le (cb := cb) (by with_reducible repeat (first | exact Kp.refl _ _ | assumption | refine Kp.drew ?_ | refine Kp.drewN ?_ _ | refine Kp.alloc ?_ _))) (by with_reducible repeat (first | exact Kp.refl _ _ | assumption | refine Kp.drew ?_ | refine Kp.drewN ?_ _ | refine Kp.alloc ?_ _)) | exact MKA.out _ (by with_reducible repeat (first | exact Kp.refl _ _ | assumption | refine Kp.drew ?_ | refine Kp.drewN ?_ _ | refine Kp.alloc ?_ _))))
                      clear hK K
                      clear hHeld5007
                      (try simp only [PU])
                      refine wpAnyH_ready (rs := [4]) (by kernel_rfl) (by simp) ?_
                      refine AllReadyH.cons (o := ⟨(some 121), (.call { callee := (.value (.func 70)), args := #[(.tmp 118), (.tmp 119), (.tmp 120)], argTypes := #[95, 25, 25] }), 25, "rank.go:111", #[⟨1, .data⟩, ⟨2, .data⟩, ⟨3, .data⟩, ⟨2, .chain⟩], none⟩) rfl (fun K hK => ?step5009x0) ?more5009x0
                      case more5009x0 => exact AllReadyH.nil
                      go_simp
                      (refine (HSB.out _ (HZ.out _ (HS4.out.ext.trans (by with_reducible repeat (first | exact Ext.refl _ | assumption | refine Ext.drew ?_ | refine Ext.drewN ?_ _ | refine Ext.alloc ?_ _)))) (HS4.out.ca.ext (by with_reducible repeat (first | exact Ext.refl _ | assumption | refine Ext.drew ?_ | refine Ext.drewN ?_ _ | refine Ext.alloc ?_ _)))).mono ?_; rintro e y6 ⟨rfl, hc6, hk6⟩; replace yy0 := frozen_kp hk6 zz0 yy0 (by have h9 := HCB.out; simp; omega); replace zz0 := hk6.cell zz0 (by have h9 := HCB.out; simp; omega); replace yy1 := frozen_kp hk6 zz1 yy1 (by have h9 := HCB.out; simp; omega); replace zz1 := hk6.cell zz1 (by have h9 := HCB.out; simp; omega); replace hk6 : Kp cb y4 y6 := Kp.trans (by with_reducible repeat (first | exact Kp.refl _ _ | assumption | refine Kp.drew ?_ | refine Kp.drewN ?_ _ | refine Kp.alloc ?_ _)) hk6)
                      refine hK.out _ _ ?hS5009x0 (fun hHeld5009 => ?rest5009x0)
                      case hS5009x0 => first | (first | with_reducible exact MKB.out _ _ _ _ (by first | exact Nat.le_refl _ | exact Kp.le (cb := cb) (by with_reducible repeat (first | exact Kp.refl _ _ | assumption | refine Kp.drew ?_ | refine Kp.drewN ?_ _ | refine Kp.alloc ?_ _))) (by with_reducible repeat (first | exact Kp.refl _ _ | assumption | refine Kp.drew ?_ | refine Kp.drewN ?_ _ | refine Kp.alloc ?_ _)) | exact MKA.out _ (by with_reducible repeat (first | exact Kp.refl _ _ | assumption | refine Kp.drew ?_ | refine Kp.drewN ?_ _ | refine Kp.alloc ?_ _))) | ((try dsimp only); (first | with_reducible exact MKB.out _ _ _ _ (by first | exact Nat.le_refl _ | exact Kp.le (cb := cb) (by with_reducible repeat (first | exact Kp.refl _ _ | assumption | refine Kp.drew ?_ | refine Kp.drewN ?_ _ | refine Kp.alloc ?_ _))) (by with_reducible repeat (first | exact Kp.refl _ _ | assumption | refine Kp.drew ?_ | refine Kp.drewN ?_ _ | refine Kp.alloc ?_ _)) | exact MKA.out _ (by with_reducible repeat (first | exact Kp.refl _ _ | assumption | refine Kp.drew ?_ | refine Kp.drewN ?_ _ | refine Kp.alloc ?_ _))))
                      clear hK K
                      clear hHeld5008
                      (try simp only [PU])
                      refine wpAnyH_ready (rs := [7]) (by kernel_rfl) (by simp) ?_
                      refine AllReadyH.cons (o := ⟨(some 124), (.call { callee := (.value (.func 69)), args := #[(.tmp 117), (.tmp 121), (.tmp 123)], argTypes := #[95, 25, 3] }), 25, "rank.go:111", #[⟨0, .data⟩, ⟨4, .data⟩, ⟨6, .data⟩, ⟨4, .chain⟩], none⟩) rfl (fun K hK => ?step5010x0) ?more5010x0
                      case more5010x0 => exact AllReadyH.nil
                      go_simp
                      (refine (HDV.out _ (hc6.ext (by with_reducible repeat (first | exact Ext.refl _ | assumption | refine Ext.drew ?_ | refine Ext.drewN ?_ _ | refine Ext.alloc ?_ _)))).mono ?_; rintro e y7 ⟨rfl, hc7, hk7⟩; replace yy0 := frozen_kp hk7 zz0 yy0 (by have h9 := HCB.out; simp; omega); replace zz0 := hk7.cell zz0 (by have h9 := HCB.out; simp; omega); replace yy1 := frozen_kp hk7 zz1 yy1 (by have h9 := HCB.out; simp; omega); replace zz1 := hk7.cell zz1 (by have h9 := HCB.out; simp; omega); replace hk7 : Kp cb y4 y7 := Kp.trans (by with_reducible repeat (first | exact Kp.refl _ _ | assumption | refine Kp.drew ?_ | refine Kp.drewN ?_ _ | refine Kp.alloc ?_ _)) hk7)
                      refine hK.out _ _ ?hS5010x0 (fun hHeld5010 => ?rest5010x0)
                      case hS5010x0 => first | (first | with_reducible exact MKB.out _ _ _ _ (by first | exact Nat.le_refl _ | exact Kp.le (cb := cb) (by with_reducible repeat (first | exact Kp.refl _ _ | assumption | refine Kp.drew ?_ | refine Kp.drewN ?_ _ | refine Kp.alloc ?_ _))) (by with_reducible repeat (first | exact Kp.refl _ _ | assumption | refine Kp.drew ?_ | refine Kp.drewN ?_ _ | refine Kp.alloc ?_ _)) | exact MKA.out _ (by with_reducible repeat (first | exact Kp.refl _ _ | assumption | refine Kp.drew ?_ | refine Kp.drewN ?_ _ | refine Kp.alloc ?_ _))) | ((try dsimp only); (first | with_reducible exact MKB.out _ _ _ _ (by first | exact Nat.le_refl _ | exact Kp.le (cb := cb) (by with_reducible repeat (first | exact Kp.refl _ _ | assumption | refine Kp.drew ?_ | refine Kp.drewN ?_ _ | refine Kp.alloc ?_ _))) (by with_reducible repeat (first | exact Kp.refl _ _ | assumption | refine Kp.drew ?_ | refine Kp.drewN ?_ _ | refine Kp.alloc ?_ _)) | exact MKA.out _ (by with_reducible repeat (first | exact Kp.refl _ _ | assumption | refine Kp.drew ?_ | refine Kp.drewN ?_ _ | refine Kp.alloc ?_ _))))
                      clear hK K
                      clear hHeld5009
                      (try simp only [PU])
                      refine wpAnyH_ready (rs := [9]) (by kernel_rfl) (by simp) ?_
                      refine AllReadyH.cons (o := ⟨none, (.store 25 (.tmp 23) (.tmp 124)), 0, "rank.go:111", #[⟨8, .data⟩, ⟨7, .data⟩, ⟨7, .chain⟩, ⟨0, .phase⟩, ⟨1, .phase⟩, ⟨2, .phase⟩, ⟨3, .phase⟩, ⟨4, .phase⟩, ⟨5, .phase⟩, ⟨6, .phase⟩, ⟨7, .phase⟩, ⟨8, .phase⟩], none⟩) rfl (fun K hK => ?step5011x0) ?more5011x0
                      case more5011x0 => exact AllReadyH.nil
                      go_simp
                      refine hK.out _ _ ?hS5011x0 (fun hHeld5011 => ?rest5011x0)
                      case hS5011x0 => first | (first | with_reducible exact MKB.out _ _ _ _ (by first | exact Nat.le_refl _ | exact Kp.le (cb := cb) (by with_reducible repeat (first | exact Kp.refl _ _ | assumption | refine Kp.drew ?_ | refine Kp.drewN ?_ _ | refine Kp.alloc ?_ _))) (by with_reducible repeat (first | exact Kp.refl _ _ | assumption | refine Kp.drew ?_ | refine Kp.drewN ?_ _ | refine Kp.alloc ?_ _)) | exact MKA.out _ (by with_reducible repeat (first | exact Kp.refl _ _ | assumption | refine Kp.drew ?_ | refine Kp.drewN ?_ _ | refine Kp.alloc ?_ _))) | ((try dsimp only); (first | with_reducible exact MKB.out _ _ _ _ (by first | exact Nat.le_refl _ | exact Kp.le (cb := cb) (by with_reducible repeat (first | exact Kp.refl _ _ | assumption | refine Kp.drew ?_ | refine Kp.drewN ?_ _ | refine Kp.alloc ?_ _))) (by with_reducible repeat (first | exact Kp.refl _ _ | assumption | refine Kp.drew ?_ | refine Kp.drewN ?_ _ | refine Kp.alloc ?_ _)) | exact MKA.out _ (by with_reducible repeat (first | exact Kp.refl _ _ | assumption | refine Kp.drew ?_ | refine Kp.drewN ?_ _ | refine Kp.alloc ?_ _))))
                      clear hK K
                      clear hHeld5010
                      refine wpAnyH_done (by kernel_rfl) ?_ _
                      clear hHeld5011
                      go_wp2_with fail
                      go_meet
                      case rel => exact ⟨y4.heap.size, rfl, (by first | exact Nat.le_refl _ | exact Kp.le (cb := cb) (by with_reducible repeat (first | exact Kp.refl _ _ | assumption | refine Kp.drew ?_ | refine Kp.drewN ?_ _ | refine Kp.alloc ?_ _))), by go_simp, by go_simp, (hc7.set_far (by have h9 := HCB.out; simp; omega) _).set_far (by have h9 := HCB.out; simp; omega) _, hk7.set2 (by first | exact Nat.le_refl _ | exact Kp.le (cb := cb) (by with_reducible repeat (first | exact Kp.refl _ _ | assumption | refine Kp.drew ?_ | refine Kp.drewN ?_ _ | refine Kp.alloc ?_ _))) (by first | exact Nat.le_refl _ | exact Kp.le (cb := cb) (by with_reducible repeat (first | exact Kp.refl _ _ | assumption | refine Kp.drew ?_ | refine Kp.drewN ?_ _ | refine Kp.alloc ?_ _))) _ _⟩
                    go_simp
                    (refine (rk_whole 1 _).mono ?_; rintro e y5 ⟨rfl, hx5⟩; have hk5 := Kp.of_ext (cb := cb) hx5; replace hx5 : Ext y4 y5 := Ext.trans (by with_reducible repeat (first | exact Ext.refl _ | assumption | refine Ext.drew ?_ | refine Ext.drewN ?_ _ | refine Ext.alloc ?_ _)) hx5; replace hk5 : Kp cb y4 y5 := Kp.trans (by with_reducible repeat (first | exact Kp.refl _ _ | assumption | refine Kp.drew ?_ | refine Kp.drewN ?_ _ | refine Kp.alloc ?_ _)) hk5)
                    refine hK.out _ _ ?hS5007x0 (fun hHeld5007 => ?rest5007x0)
                    case hS5007x0 => first | (first | with_reducible exact MKB.out _ _ _ _ (by first | exact Nat.le_refl _ | exact Kp.le (cb := cb) (by with_reducible repeat (first | exact Kp.refl _ _ | assumption | refine Kp.drew ?_ | refine Kp.drewN ?_ _ | refine Kp.alloc ?_ _))) (by with_reducible repeat (first | exact Kp.refl _ _ | assumption | refine Kp.drew ?_ | refine Kp.drewN ?_ _ | refine Kp.alloc ?_ _)) | exact MKA.out _ (by with_reducible repeat (first | exact Kp.refl _ _ | assumption | refine Kp.drew ?_ | refine Kp.drewN ?_ _ | refine Kp.alloc ?_ _))) | ((try dsimp only); (first | with_reducible exact MKB.out _ _ _ _ (by first | exact Nat.le_refl _ | exact Kp.le (cb := cb) (by with_reducible repeat (first | exact Kp.refl _ _ | assumption | refine Kp.drew ?_ | refine Kp.drewN ?_ _ | refine Kp.alloc ?_ _))) (by with_reducible repeat (first | exact Kp.refl _ _ | assumption | refine Kp.drew ?_ | refine Kp.drewN ?_ _ | refine Kp.alloc ?_ _)) | exact MKA.out _ (by with_reducible repeat (first | exact Kp.refl _ _ | assumption | refine Kp.drew ?_ | refine Kp.drewN ?_ _ | refine Kp.alloc ?_ _))))
                    clear hK K
                    clear hHeld
                    (try simp only [PU])
                    refine wpAnyH_ready (rs := [4, 8]) (by kernel_rfl) (by simp) ?_
                    refine AllReadyH.cons (o := ⟨(some 121), (.call { callee := (.value (.func 70)), args := #[(.tmp 118), (.tmp 119), (.tmp 120)], argTypes := #[95, 25, 25] }), 25, "rank.go:111", #[⟨1, .data⟩, ⟨2, .data⟩, ⟨3, .data⟩, ⟨2, .chain⟩], none⟩) rfl (fun K hK => ?step5012x0) ?more5012x0
                    case more5012x0 =>
                      refine AllReadyH.cons (o := ⟨(some 23), (.alloc 25), 0, "rank.go:111", #[], none⟩) rfl (fun K hK => ?step5012x1) ?more5012x1
                      case more5012x1 => exact AllReadyH.nil
                      go_simp
                      refine hK.out _ _ ?hS5012x1 (fun hHeld5012 => ?rest5012x1)
                      case hS5012x1 => first | (first | with_reducible exact MKB.out _ _ _ _ (by first | exact Nat.le_refl _ | exact Kp.le (cb := cb) (by with_reducible repeat (first | exact Kp.refl _ _ | assumption | refine Kp.drew ?_ | refine Kp.drewN ?_ _ | refine Kp.alloc ?_ _))) (by with_reducible repeat (first | exact Kp.refl _ _ | assumption | refine Kp.drew ?_ | refine Kp.drewN ?_ _ | refine Kp.alloc ?_ _)) | exact MKA.out _ (by with_reducible repeat (first | exact Kp.refl _ _ | assumption | refine Kp.drew ?_ | refine Kp.drewN ?_ _ | refine Kp.alloc ?_ _))) | ((try dsimp only); (first | with_reducible exact MKB.out _ _ _ _ (by first | exact Nat.le_refl _ | exact Kp.le (cb := cb) (by with_reducible repeat (first | exact Kp.refl _ _ | assumption | refine Kp.drew ?_ | refine Kp.drewN ?_ _ | refine Kp.alloc ?_ _))) (by with_reducible repeat (first | exact Kp.refl _ _ | assumption | refine Kp.drew ?_ | refine Kp.drewN ?_ _ | refine Kp.alloc ?_ _)) | exact MKA.out _ (by with_reducible repeat (first | exact Kp.refl _ _ | assumption | refine Kp.drew ?_ | refine Kp.drewN ?_ _ | refine Kp.alloc ?_ _))))
                      clear hK K
                      clear hHeld5007
                      (try simp only [PU])
                      refine wpAnyH_ready (rs := [4]) (by kernel_rfl) (by simp) ?_
                      refine AllReadyH.cons (o := ⟨(some 121), (.call { callee := (.value (.func 70)), args := #[(.tmp 118), (.tmp 119), (.tmp 120)], argTypes := #[95, 25, 25] }), 25, "rank.go:111", #[⟨1, .data⟩, ⟨2, .data⟩, ⟨3, .data⟩, ⟨2, .chain⟩], none⟩) rfl (fun K hK => ?step5013x0) ?more5013x0
                      case more5013x0 => exact AllReadyH.nil
                      go_simp
                      (refine (HSB.out _ (HZ.out _ (HS4.out.ext.trans (by with_reducible repeat (first | exact Ext.refl _ | assumption | refine Ext.drew ?_ | refine Ext.drewN ?_ _ | refine Ext.alloc ?_ _)))) (HS4.out.ca.ext (by with_reducible repeat (first | exact Ext.refl _ | assumption | refine Ext.drew ?_ | refine Ext.drewN ?_ _ | refine Ext.alloc ?_ _)))).mono ?_; rintro e y6 ⟨rfl, hc6, hk6⟩; have yy0 := frozen_kp hk6 (p := ⟨y5.heap.size, 0, none⟩) (v := (.int .i64 0)) (by go_simp) (by go_simp) (by have h9 := HCB.out; have h8 := World.grownBy.size hk5; simp; omega); have zz0 := hk6.cell (p := ⟨y5.heap.size, 0, none⟩) (v := (.int .i64 0)) (by go_simp) (by have h9 := HCB.out; have h8 := World.grownBy.size hk5; simp; omega); have yy1 := frozen_kp hk6 (p := ⟨y5.heap.size, 1, none⟩) (v := (.int .i64 0)) (by go_simp) (by go_simp) (by have h9 := HCB.out; have h8 := World.grownBy.size hk5; simp; omega); have zz1 := hk6.cell (p := ⟨y5.heap.size, 1, none⟩) (v := (.int .i64 0)) (by go_simp) (by have h9 := HCB.out; have h8 := World.grownBy.size hk5; simp; omega); replace hk6 : Kp cb y4 y6 := Kp.trans (by with_reducible repeat (first | exact Kp.refl _ _ | assumption | refine Kp.drew ?_ | refine Kp.drewN ?_ _ | refine Kp.alloc ?_ _)) hk6)
                      refine hK.out _ _ ?hS5013x0 (fun hHeld5013 => ?rest5013x0)
                      case hS5013x0 => first | (first | with_reducible exact MKB.out _ _ _ _ (by first | exact Nat.le_refl _ | exact Kp.le (cb := cb) (by with_reducible repeat (first | exact Kp.refl _ _ | assumption | refine Kp.drew ?_ | refine Kp.drewN ?_ _ | refine Kp.alloc ?_ _))) (by with_reducible repeat (first | exact Kp.refl _ _ | assumption | refine Kp.drew ?_ | refine Kp.drewN ?_ _ | refine Kp.alloc ?_ _)) | exact MKA.out _ (by with_reducible repeat (first | exact Kp.refl _ _ | assumption | refine Kp.drew ?_ | refine Kp.drewN ?_ _ | refine Kp.alloc ?_ _))) | ((try dsimp only); (first | with_reducible exact MKB.out _ _ _ _ (by first | exact Nat.le_refl _ | exact Kp.le (cb := cb) (by with_reducible repeat (first | exact Kp.refl _ _ | assumption | refine Kp.drew ?_ | refine Kp.drewN ?_ _ | refine Kp.alloc ?_ _))) (by with_reducible repeat (first | exact Kp.refl _ _ | assumption | refine Kp.drew ?_ | refine Kp.drewN ?_ _ | refine Kp.alloc ?_ _)) | exact MKA.out _ (by with_reducible repeat (first | exact Kp.refl _ _ | assumption | refine Kp.drew ?_ | refine Kp.drewN ?_ _ | refine Kp.alloc ?_ _))))
                      clear hK K
                      clear hHeld5012
                      (try simp only [PU])
                      refine wpAnyH_ready (rs := [7]) (by kernel_rfl) (by simp) ?_
                      refine AllReadyH.cons (o := ⟨(some 124), (.call { callee := (.value (.func 69)), args := #[(.tmp 117), (.tmp 121), (.tmp 123)], argTypes := #[95, 25, 3] }), 25, "rank.go:111", #[⟨0, .data⟩, ⟨4, .data⟩, ⟨6, .data⟩, ⟨4, .chain⟩], none⟩) rfl (fun K hK => ?step5014x0) ?more5014x0
                      case more5014x0 => exact AllReadyH.nil
                      go_simp
                      (refine (HDV.out _ (hc6.ext (by with_reducible repeat (first | exact Ext.refl _ | assumption | refine Ext.drew ?_ | refine Ext.drewN ?_ _ | refine Ext.alloc ?_ _)))).mono ?_; rintro e y7 ⟨rfl, hc7, hk7⟩; replace yy0 := frozen_kp hk7 zz0 yy0 (by have h9 := HCB.out; have h8 := World.grownBy.size hk5; simp; omega); replace zz0 := hk7.cell zz0 (by have h9 := HCB.out; have h8 := World.grownBy.size hk5; simp; omega); replace yy1 := frozen_kp hk7 zz1 yy1 (by have h9 := HCB.out; have h8 := World.grownBy.size hk5; simp; omega); replace zz1 := hk7.cell zz1 (by have h9 := HCB.out; have h8 := World.grownBy.size hk5; simp; omega); replace hk7 : Kp cb y4 y7 := Kp.trans (by with_reducible repeat (first | exact Kp.refl _ _ | assumption | refine Kp.drew ?_ | refine Kp.drewN ?_ _ | refine Kp.alloc ?_ _)) hk7)
                      refine hK.out _ _ ?hS5014x0 (fun hHeld5014 => ?rest5014x0)
                      case hS5014x0 => first | (first | with_reducible exact MKB.out _ _ _ _ (by first | exact Nat.le_refl _ | exact Kp.le (cb := cb) (by with_reducible repeat (first | exact Kp.refl _ _ | assumption | refine Kp.drew ?_ | refine Kp.drewN ?_ _ | refine Kp.alloc ?_ _))) (by with_reducible repeat (first | exact Kp.refl _ _ | assumption | refine Kp.drew ?_ | refine Kp.drewN ?_ _ | refine Kp.alloc ?_ _)) | exact MKA.out _ (by with_reducible repeat (first | exact Kp.refl _ _ | assumption | refine Kp.drew ?_ | refine Kp.drewN ?_ _ | refine Kp.alloc ?_ _))) | ((try dsimp only); (first | with_reducible exact MKB.out _ _ _ _ (by first | exact Nat.le_refl _ | exact Kp.le (cb := cb) (by with_reducible repeat (first | exact Kp.refl _ _ | assumption | refine Kp.drew ?_ | refine Kp.drewN ?_ _ | refine Kp.alloc ?_ _))) (by with_reducible repeat (first | exact Kp.refl _ _ | assumption | refine Kp.drew ?_ | refine Kp.drewN ?_ _ | refine Kp.alloc ?_ _)) | exact MKA.out _ (by with_reducible repeat (first | exact Kp.refl _ _ | assumption | refine Kp.drew ?_ | refine Kp.drewN ?_ _ | refine Kp.alloc ?_ _))))
                      clear hK K
                      clear hHeld5013
                      (try simp only [PU])
                      refine wpAnyH_ready (rs := [9]) (by kernel_rfl) (by simp) ?_
                      refine AllReadyH.cons (o := ⟨none, (.store 25 (.tmp 23) (.tmp 124)), 0, "rank.go:111", #[⟨8, .data⟩, ⟨7, .data⟩, ⟨7, .chain⟩, ⟨0, .phase⟩, ⟨1, .phase⟩, ⟨2, .phase⟩, ⟨3, .phase⟩, ⟨4, .phase⟩, ⟨5, .phase⟩, ⟨6, .phase⟩, ⟨7, .phase⟩, ⟨8, .phase⟩], none⟩) rfl (fun K hK => ?step5015x0) ?more5015x0
                      case more5015x0 => exact AllReadyH.nil
                      go_simp
                      refine hK.out _ _ ?hS5015x0 (fun hHeld5015 => ?rest5015x0)
                      case hS5015x0 => first | (first | with_reducible exact MKB.out _ _ _ _ (by first | exact Nat.le_refl _ | exact Kp.le (cb := cb) (by with_reducible repeat (first | exact Kp.refl _ _ | assumption | refine Kp.drew ?_ | refine Kp.drewN ?_ _ | refine Kp.alloc ?_ _))) (by with_reducible repeat (first | exact Kp.refl _ _ | assumption | refine Kp.drew ?_ | refine Kp.drewN ?_ _ | refine Kp.alloc ?_ _)) | exact MKA.out _ (by with_reducible repeat (first | exact Kp.refl _ _ | assumption | refine Kp.drew ?_ | refine Kp.drewN ?_ _ | refine Kp.alloc ?_ _))) | ((try dsimp only); (first | with_reducible exact MKB.out _ _ _ _ (by first | exact Nat.le_refl _ | exact Kp.le (cb := cb) (by with_reducible repeat (first | exact Kp.refl _ _ | assumption | refine Kp.drew ?_ | refine Kp.drewN ?_ _ | refine Kp.alloc ?_ _))) (by with_reducible repeat (first | exact Kp.refl _ _ | assumption | refine Kp.drew ?_ | refine Kp.drewN ?_ _ | refine Kp.alloc ?_ _)) | exact MKA.out _ (by with_reducible repeat (first | exact Kp.refl _ _ | assumption | refine Kp.drew ?_ | refine Kp.drewN ?_ _ | refine Kp.alloc ?_ _))))
                      clear hK K
                      clear hHeld5014
                      refine wpAnyH_done (by kernel_rfl) ?_ _
                      clear hHeld5015
                      go_wp2_with fail
                      go_meet
                      case rel => exact ⟨y5.heap.size, rfl, (by first | exact Nat.le_refl _ | exact Kp.le (cb := cb) (by with_reducible repeat (first | exact Kp.refl _ _ | assumption | refine Kp.drew ?_ | refine Kp.drewN ?_ _ | refine Kp.alloc ?_ _))), by go_simp, by go_simp, (hc7.set_far (by have h9 := HCB.out; have h8 := World.grownBy.size hk5; simp; omega) _).set_far (by have h9 := HCB.out; have h8 := World.grownBy.size hk5; simp; omega) _, hk7.set2 (by first | exact Nat.le_refl _ | exact Kp.le (cb := cb) (by with_reducible repeat (first | exact Kp.refl _ _ | assumption | refine Kp.drew ?_ | refine Kp.drewN ?_ _ | refine Kp.alloc ?_ _))) (by first | exact Nat.le_refl _ | exact Kp.le (cb := cb) (by with_reducible repeat (first | exact Kp.refl _ _ | assumption | refine Kp.drew ?_ | refine Kp.drewN ?_ _ | refine Kp.alloc ?_ _))) _ _⟩
                    go_simp
                    (refine (HSB.out _ (HZ.out _ (HS4.out.ext.trans (by with_reducible repeat (first | exact Ext.refl _ | assumption | refine Ext.drew ?_ | refine Ext.drewN ?_ _ | refine Ext.alloc ?_ _)))) (HS4.out.ca.ext (by with_reducible repeat (first | exact Ext.refl _ | assumption | refine Ext.drew ?_ | refine Ext.drewN ?_ _ | refine Ext.alloc ?_ _)))).mono ?_; rintro e y6 ⟨rfl, hc6, hk6⟩; replace hk6 : Kp cb y4 y6 := Kp.trans (by with_reducible repeat (first | exact Kp.refl _ _ | assumption | refine Kp.drew ?_ | refine Kp.drewN ?_ _ | refine Kp.alloc ?_ _)) hk6)
                    refine hK.out _ _ ?hS5012x0 (fun hHeld5012 => ?rest5012x0)
                    case hS5012x0 => first | (first | with_reducible exact MKB.out _ _ _ _ (by first | exact Nat.le_refl _ | exact Kp.le (cb := cb) (by with_reducible repeat (first | exact Kp.refl _ _ | assumption | refine Kp.drew ?_ | refine Kp.drewN ?_ _ | refine Kp.alloc ?_ _))) (by with_reducible repeat (first | exact Kp.refl _ _ | assumption | refine Kp.drew ?_ | refine Kp.drewN ?_ _ | refine Kp.alloc ?_ _)) | exact MKA.out _ (by with_reducible repeat (first | exact Kp.refl _ _ | assumption | refine Kp.drew ?_ | refine Kp.drewN ?_ _ | refine Kp.alloc ?_ _))) | ((try dsimp only); (first | with_reducible exact MKB.out _ _ _ _ (by first | exact Nat.le_refl _ | exact Kp.le (cb := cb) (by with_reducible repeat (first | exact Kp.refl _ _ | assumption | refine Kp.drew ?_ | refine Kp.drewN ?_ _ | refine Kp.alloc ?_ _))) (by with_reducible repeat (first | exact Kp.refl _ _ | assumption | refine Kp.drew ?_ | refine Kp.drewN ?_ _ | refine Kp.alloc ?_ _)) | exact MKA.out _ (by with_reducible repeat (first | exact Kp.refl _ _ | assumption | refine Kp.drew ?_ | refine Kp.drewN ?_ _ | refine Kp.alloc ?_ _))))
                    clear hK K
                    clear hHeld5007
                    (try simp only [PU])
                    refine wpAnyH_ready (rs := [7, 8]) (by kernel_rfl) (by simp) ?_
                    refine AllReadyH.cons (o := ⟨(some 124), (.call { callee := (.value (.func 69)), args := #[(.tmp 117), (.tmp 121), (.tmp 123)], argTypes := #[95, 25, 3] }), 25, "rank.go:111", #[⟨0, .data⟩, ⟨4, .data⟩, ⟨6, .data⟩, ⟨4, .chain⟩], none⟩) rfl (fun K hK => ?step5016x0) ?more5016x0
                    case more5016x0 =>
                      refine AllReadyH.cons (o := ⟨(some 23), (.alloc 25), 0, "rank.go:111", #[], none⟩) rfl (fun K hK => ?step5016x1) ?more5016x1
                      case more5016x1 => exact AllReadyH.nil
                      go_simp
                      refine hK.out _ _ ?hS5016x1 (fun hHeld5016 => ?rest5016x1)
                      case hS5016x1 => first | (first | with_reducible exact MKB.out _ _ _ _ (by first | exact Nat.le_refl _ | exact Kp.le (cb := cb) (by with_reducible repeat (first | exact Kp.refl _ _ | assumption | refine Kp.drew ?_ | refine Kp.drewN ?_ _ | refine Kp.alloc ?_ _))) (by with_reducible repeat (first | exact Kp.refl _ _ | assumption | refine Kp.drew ?_ | refine Kp.drewN ?_ _ | refine Kp.alloc ?_ _)) | exact MKA.out _ (by with_reducible repeat (first | exact Kp.refl _ _ | assumption | refine Kp.drew ?_ | refine Kp.drewN ?_ _ | refine Kp.alloc ?_ _))) | ((try dsimp only); (first | with_reducible exact MKB.out _ _ _ _ (by first | exact Nat.le_refl _ | exact Kp.le (cb := cb) (by with_reducible repeat (first | exact Kp.refl _ _ | assumption | refine Kp.drew ?_ | refine Kp.drewN ?_ _ | refine Kp.alloc ?_ _))) (by with_reducible repeat (first | exact Kp.refl _ _ | assumption | refine Kp.drew ?_ | refine Kp.drewN ?_ _ | refine Kp.alloc ?_ _)) | exact MKA.out _ (by with_reducible repeat (first | exact Kp.refl _ _ | assumption | refine Kp.drew ?_ | refine Kp.drewN ?_ _ | refine Kp.alloc ?_ _))))
                      clear hK K
                      clear hHeld5012
                      (try simp only [PU])
                      refine wpAnyH_ready (rs := [7]) (by kernel_rfl) (by simp) ?_
                      refine AllReadyH.cons (o := ⟨(some 124), (.call { callee := (.value (.func 69)), args := #[(.tmp 117), (.tmp 121), (.tmp 123)], argTypes := #[95, 25, 3] }), 25, "rank.go:111", #[⟨0, .data⟩, ⟨4, .data⟩, ⟨6, .data⟩, ⟨4, .chain⟩], none⟩) rfl (fun K hK => ?step5017x0) ?more5017x0
                      case more5017x0 => exact AllReadyH.nil
                      go_simp
                      (refine (HDV.out _ (hc6.ext (by with_reducible repeat (first | exact Ext.refl _ | assumption | refine Ext.drew ?_ | refine Ext.drewN ?_ _ | refine Ext.alloc ?_ _)))).mono ?_; rintro e y7 ⟨rfl, hc7, hk7⟩; have yy0 := frozen_kp hk7 (p := ⟨y6.heap.size, 0, none⟩) (v := (.int .i64 0)) (by go_simp) (by go_simp) (by have h9 := HCB.out; have h8 := World.grownBy.size hk6; simp; omega); have zz0 := hk7.cell (p := ⟨y6.heap.size, 0, none⟩) (v := (.int .i64 0)) (by go_simp) (by have h9 := HCB.out; have h8 := World.grownBy.size hk6; simp; omega); have yy1 := frozen_kp hk7 (p := ⟨y6.heap.size, 1, none⟩) (v := (.int .i64 0)) (by go_simp) (by go_simp) (by have h9 := HCB.out; have h8 := World.grownBy.size hk6; simp; omega); have zz1 := hk7.cell (p := ⟨y6.heap.size, 1, none⟩) (v := (.int .i64 0)) (by go_simp) (by have h9 := HCB.out; have h8 := World.grownBy.size hk6; simp; omega); replace hk7 : Kp cb y4 y7 := Kp.trans (by with_reducible repeat (first | exact Kp.refl _ _ | assumption | refine Kp.drew ?_ | refine Kp.drewN ?_ _ | refine Kp.alloc ?_ _)) hk7)
                      refine hK.out _ _ ?hS5017x0 (fun hHeld5017 => ?rest5017x0)
                      case hS5017x0 => first | (first | with_reducible exact MKB.out _ _ _ _ (by first | exact Nat.le_refl _ | exact Kp.le (cb := cb) (by with_reducible repeat (first | exact Kp.refl _ _ | assumption | refine Kp.drew ?_ | refine Kp.drewN ?_ _ | refine Kp.alloc ?_ _))) (by with_reducible repeat (first | exact Kp.refl _ _ | assumption | refine Kp.drew ?_ | refine Kp.drewN ?_ _ | refine Kp.alloc ?_ _)) | exact MKA.out _ (by with_reducible repeat (first | exact Kp.refl _ _ | assumption | refine Kp.drew ?_ | refine Kp.drewN ?_ _ | refine Kp.alloc ?_ _))) | ((try dsimp only); (first | with_reducible exact MKB.out _ _ _ _ (by first | exact Nat.le_refl _ | exact Kp.le (cb := cb) (by with_reducible repeat (first | exact Kp.refl _ _ | assumption | refine Kp.drew ?_ | refine Kp.drewN ?_ _ | refine Kp.alloc ?_ _))) (by with_reducible repeat (first | exact Kp.refl _ _ | assumption | refine Kp.drew ?_ | refine Kp.drewN ?_ _ | refine Kp.alloc ?_ _)) | exact MKA.out _ (by with_reducible repeat (first | exact Kp.refl _ _ | assumption | refine Kp.drew ?_ | refine Kp.drewN ?_ _ | refine Kp.alloc ?_ _))))
                      clear hK K
                      clear hHeld5016
                      (try simp only [PU])
                      refine wpAnyH_ready (rs := [9]) (by kernel_rfl) (by simp) ?_
                      refine AllReadyH.cons (o := ⟨none, (.store 25 (.tmp 23) (.tmp 124)), 0, "rank.go:111", #[⟨8, .data⟩, ⟨7, .data⟩, ⟨7, .chain⟩, ⟨0, .phase⟩, ⟨1, .phase⟩, ⟨2, .phase⟩, ⟨3, .phase⟩, ⟨4, .phase⟩, ⟨5, .phase⟩, ⟨6, .phase⟩, ⟨7, .phase⟩, ⟨8, .phase⟩], none⟩) rfl (fun K hK => ?step5018x0) ?more5018x0
                      case more5018x0 => exact AllReadyH.nil
                      go_simp
                      refine hK.out _ _ ?hS5018x0 (fun hHeld5018 => ?rest5018x0)
                      case hS5018x0 => first | (first | with_reducible exact MKB.out _ _ _ _ (by first | exact Nat.le_refl _ | exact Kp.le (cb := cb) (by with_reducible repeat (first | exact Kp.refl _ _ | assumption | refine Kp.drew ?_ | refine Kp.drewN ?_ _ | refine Kp.alloc ?_ _))) (by with_reducible repeat (first | exact Kp.refl _ _ | assumption | refine Kp.drew ?_ | refine Kp.drewN ?_ _ | refine Kp.alloc ?_ _)) | exact MKA.out _ (by with_reducible repeat (first | exact Kp.refl _ _ | assumption | refine Kp.drew ?_ | refine Kp.drewN ?_ _ | refine Kp.alloc ?_ _))) | ((try dsimp only); (first | with_reducible exact MKB.out _ _ _ _ (by first | exact Nat.le_refl _ | exact Kp.le (cb := cb) (by with_reducible repeat (first | exact Kp.refl _ _ | assumption | refine Kp.drew ?_ | refine Kp.drewN ?_ _ | refine Kp.alloc ?_ _))) (by with_reducible repeat (first | exact Kp.refl _ _ | assumption | refine Kp.drew ?_ | refine Kp.drewN ?_ _ | refine Kp.alloc ?_ _)) | exact MKA.out _ (by with_reducible repeat (first | exact Kp.refl _ _ | assumption | refine Kp.drew ?_ | refine Kp.drewN ?_ _ | refine Kp.alloc ?_ _))))
                      clear hK K
                      clear hHeld5017
                      refine wpAnyH_done (by kernel_rfl) ?_ _
                      clear hHeld5018
                      go_wp2_with fail
                      go_meet
                      case rel => exact ⟨y6.heap.size, rfl, (by first | exact Nat.le_refl _ | exact Kp.le (cb := cb) (by with_reducible repeat (first | exact Kp.refl _ _ | assumption | refine Kp.drew ?_ | refine Kp.drewN ?_ _ | refine Kp.alloc ?_ _))), by go_simp, by go_simp, (hc7.set_far (by have h9 := HCB.out; have h8 := World.grownBy.size hk6; simp; omega) _).set_far (by have h9 := HCB.out; have h8 := World.grownBy.size hk6; simp; omega) _, hk7.set2 (by first | exact Nat.le_refl _ | exact Kp.le (cb := cb) (by with_reducible repeat (first | exact Kp.refl _ _ | assumption | refine Kp.drew ?_ | refine Kp.drewN ?_ _ | refine Kp.alloc ?_ _))) (by first | exact Nat.le_refl _ | exact Kp.le (cb := cb) (by with_reducible repeat (first | exact Kp.refl _ _ | assumption | refine Kp.drew ?_ | refine Kp.drewN ?_ _ | refine Kp.alloc ?_ _))) _ _⟩
                    go_simp
                    (refine (HDV.out _ (hc6.ext (by with_reducible repeat (first | exact Ext.refl _ | assumption | refine Ext.drew ?_ | refine Ext.drewN ?_ _ | refine Ext.alloc ?_ _)))).mono ?_; rintro e y7 ⟨rfl, hc7, hk7⟩; replace hk7 : Kp cb y4 y7 := Kp.trans (by with_reducible repeat (first | exact Kp.refl _ _ | assumption | refine Kp.drew ?_ | refine Kp.drewN ?_ _ | refine Kp.alloc ?_ _)) hk7)
                    refine hK.out _ _ ?hS5016x0 (fun hHeld5016 => ?rest5016x0)
                    case hS5016x0 => first | (first | with_reducible exact MKB.out _ _ _ _ (by first | exact Nat.le_refl _ | exact Kp.le (cb := cb) (by with_reducible repeat (first | exact Kp.refl _ _ | assumption | refine Kp.drew ?_ | refine Kp.drewN ?_ _ | refine Kp.alloc ?_ _))) (by with_reducible repeat (first | exact Kp.refl _ _ | assumption | refine Kp.drew ?_ | refine Kp.drewN ?_ _ | refine Kp.alloc ?_ _)) | exact MKA.out _ (by with_reducible repeat (first | exact Kp.refl _ _ | assumption | refine Kp.drew ?_ | refine Kp.drewN ?_ _ | refine Kp.alloc ?_ _))) | ((try dsimp only); (first | with_reducible exact MKB.out _ _ _ _ (by first | exact Nat.le_refl _ | exact Kp.le (cb := cb) (by with_reducible repeat (first | exact Kp.refl _ _ | assumption | refine Kp.drew ?_ | refine Kp.drewN ?_ _ | refine Kp.alloc ?_ _))) (by with_reducible repeat (first | exact Kp.refl _ _ | assumption | refine Kp.drew ?_ | refine Kp.drewN ?_ _ | refine Kp.alloc ?_ _)) | exact MKA.out _ (by with_reducible repeat (first | exact Kp.refl _ _ | assumption | refine Kp.drew ?_ | refine Kp.drewN ?_ _ | refine Kp.alloc ?_ _))))
                    clear hK K
                    clear hHeld5012
                    (try simp only [PU])
                    refine wpAnyH_ready (rs := [8]) (by kernel_rfl) (by simp) ?_
                    refine AllReadyH.cons (o := ⟨(some 23), (.alloc 25), 0, "rank.go:111", #[], none⟩) rfl (fun K hK => ?step5019x0) ?more5019x0
                    case more5019x0 => exact AllReadyH.nil
                    go_simp
                    refine hK.out _ _ ?hS5019x0 (fun hHeld5019 => ?rest5019x0)
                    case hS5019x0 => first | (first | with_reducible exact MKB.out _ _ _ _ (by first | exact Nat.le_refl _ | exact Kp.le (cb := cb) (by with_reducible repeat (first | exact Kp.refl _ _ | assumption | refine Kp.drew ?_ | refine Kp.drewN ?_ _ | refine Kp.alloc ?_ _))) (by with_reducible repeat (first | exact Kp.refl _ _ | assumption | refine Kp.drew ?_ | refine Kp.drewN ?_ _ | refine Kp.alloc ?_ _)) | exact MKA.out _ (by with_reducible repeat (first | exact Kp.refl _ _ | assumption | refine Kp.drew ?_ | refine Kp.drewN ?_ _ | refine Kp.alloc ?_ _))) | ((try dsimp only); (first | with_reducible exact MKB.out _ _ _ _ (by first | exact Nat.le_refl _ | exact Kp.le (cb := cb) (by with_reducible repeat (first | exact Kp.refl _ _ | assumption | refine Kp.drew ?_ | refine Kp.drewN ?_ _ | refine Kp.alloc ?_ _))) (by with_reducible repeat (first | exact Kp.refl _ _ | assumption | refine Kp.drew ?_ | refine Kp.drewN ?_ _ | refine Kp.alloc ?_ _)) | exact MKA.out _ (by with_reducible repeat (first | exact Kp.refl _ _ | assumption | refine Kp.drew ?_ | refine Kp.drewN ?_ _ | refine Kp.alloc ?_ _))))
                    clear hK K
                    clear hHeld5016
                    (try simp only [PU])
                    refine wpAnyH_ready (rs := [9]) (by kernel_rfl) (by simp) ?_
                    refine AllReadyH.cons (o := ⟨none, (.store 25 (.tmp 23) (.tmp 124)), 0, "rank.go:111", #[⟨8, .data⟩, ⟨7, .data⟩, ⟨7, .chain⟩, ⟨0, .phase⟩, ⟨1, .phase⟩, ⟨2, .phase⟩, ⟨3, .phase⟩, ⟨4, .phase⟩, ⟨5, .phase⟩, ⟨6, .phase⟩, ⟨7, .phase⟩, ⟨8, .phase⟩], none⟩) rfl (fun K hK => ?step5020x0) ?more5020x0
                    case more5020x0 => exact AllReadyH.nil
                    go_simp
                    refine hK.out _ _ ?hS5020x0 (fun hHeld5020 => ?rest5020x0)
                    case hS5020x0 => first | (first | with_reducible exact MKB.out _ _ _ _ (by first | exact Nat.le_refl _ | exact Kp.le (cb := cb) (by with_reducible repeat (first | exact Kp.refl _ _ | assumption | refine Kp.drew ?_ | refine Kp.drewN ?_ _ | refine Kp.alloc ?_ _))) (by with_reducible repeat (first | exact Kp.refl _ _ | assumption | refine Kp.drew ?_ | refine Kp.drewN ?_ _ | refine Kp.alloc ?_ _)) | exact MKA.out _ (by with_reducible repeat (first | exact Kp.refl _ _ | assumption | refine Kp.drew ?_ | refine Kp.drewN ?_ _ | refine Kp.alloc ?_ _))) | ((try dsimp only); (first | with_reducible exact MKB.out _ _ _ _ (by first | exact Nat.le_refl _ | exact Kp.le (cb := cb) (by with_reducible repeat (first | exact Kp.refl _ _ | assumption | refine Kp.drew ?_ | refine Kp.drewN ?_ _ | refine Kp.alloc ?_ _))) (by with_reducible repeat (first | exact Kp.refl _ _ | assumption | refine Kp.drew ?_ | refine Kp.drewN ?_ _ | refine Kp.alloc ?_ _)) | exact MKA.out _ (by with_reducible repeat (first | exact Kp.refl _ _ | assumption | refine Kp.drew ?_ | refine Kp.drewN ?_ _ | refine Kp.alloc ?_ _))))
                    clear hK K
                    clear hHeld5019
                    refine wpAnyH_done (by kernel_rfl) ?_ _
                    clear hHeld5020
                    go_wp2_with fail
                    go_meet
                    case rel => exact ⟨y7.heap.size, rfl, (by first | exact Nat.le_refl _ | exact Kp.le (cb := cb) (by with_reducible repeat (first | exact Kp.refl _ _ | assumption | refine Kp.drew ?_ | refine Kp.drewN ?_ _ | refine Kp.alloc ?_ _))), by go_simp, by go_simp, hc7.ext (by with_reducible repeat (first | exact Ext.refl _ | assumption | refine Ext.drew ?_ | refine Ext.drewN ?_ _ | refine Ext.alloc ?_ _)), (by with_reducible repeat (first | exact Kp.refl _ _ | assumption | refine Kp.drew ?_ | refine Kp.drewN ?_ _ | refine Kp.alloc ?_ _))⟩
                  case rest =>
                    clear MKA MKB
                    obtain ⟨gx, rfl, hgx, b0, b1, hcx, hkx⟩ := hcut
                    have HGX := Lib.hid hgx
                    have hgm : mi < gx := by have := HMB.out; omega
                    have hgr : rb < gx := by have := HRB.out; omega
                    have HSX := Lib.hid (HS4.out.kp HFX.out hkx hcx)
                    have HRX := Lib.hid (hRA.out.kp hkx hnrc)
                    have HFR := Lib.hid (show FrAt wc gx bz from ⟨b0, b1⟩)
                    have hgw : gx < wc.heap.size := block_lt_of_cell b0
                    clear hcx hkx b0 b1 HS4 hRA p0 p1 HSB HDV HRB HMB HCB hgx HGX hqc
                    obtain ⟨wB, hwB⟩ : ∃ V, V = wc := ⟨_, rfl⟩
                    subst hwB
                    generalize ((ov || sn) || bn) = ov7 at *
                    have HS0 := Lib.hid (fun W : World => World.ownsRow_nil W W.heap.size 42 3)
                    go_wp2_with fail
                    go_loopw [24, 127] (fun v u W => ∃ (i : Nat) (O : List Sh) (ov : Bool), u = .int .i64 i ∧ i ≤ l.length ∧ Hid (Rel8 types g.edges damp l nv bz i gi O ov) ∧ Hid (W.ownsRow wB.heap.size 42 3 v i (O.flatMap Sh.cells)) ∧ Hid (RestAt W rb nv) ∧ Hid (FrAt W gx bz) ∧ Hid (wB.heap.size ≤ W.heap.size) ∧ Hid (StA w W q qd cb md ms mi B d g.edges damp ov gd gs gi j k (k + i4))) (fun _ u _ => l.length - (intOf u).toNat)
                    case atStart => exact ⟨0, [], _, rfl, Nat.zero_le _, Lib.hid (Rel8.zero HR7.out), Lib.hid (HS0.out _), HRX, HFR, Lib.hid (Nat.le_refl _), HSX⟩
                    case round =>
                      clear HR7 HS0 HRX HFR HSX
                      obtain ⟨i, O, ov, rfl, hi, hR8, hO, hRA, hFR, hle, hS⟩ := hrel
                      by_cases hli : i < l.length
                      · obtain ⟨bs, os, rfl, hc⟩ := (HL.out wr hS.out.ext).at_ hli
                        obtain ⟨-, a0, a1, a2⟩ := hc i hli
                        obtain ⟨hi1, hi2⟩ := HID.out i hli
                        have hkey := HKEY.out _ hi1 hi2
                        obtain ⟨f, hf⟩ := hR8.out.get hli
                        have HFV := Lib.hid hf
                        have HNX := Lib.hid (hR8.out.next hli hf rfl rfl rfl)
                        obtain ⟨y, w2, hy, hw2, n0, n1, n2, hx2⟩ := box_share wr l[i]! 42
                        have HW2 := Lib.hid hw2
                        have HY := Lib.hid hy
                        have HS2 := Lib.hid (hS.out.exts hx2)
                        have HRA2 := Lib.hid (hRA.out.ext hx2)
                        have HFR2 := Lib.hid (hFR.out.ext hx2)
                        have HO2 := Lib.hid (own_ext hO.out hx2)
                        have hbw : wB.heap.size ≤ w2.heap.size := Nat.le_trans hle.out hx2.le
                        have hyb : wB.heap.size ≤ y := by rw [hy]; exact hle.out
                        have hyc : y ≠ cb := (by have h0 := HFX.out.e0; have h1 := HFX.out.e1; have h2 := HFX.out.e2; have h3 := HFX.out.e3; have h4 := HFX.out.e4; have h5 := HFX.out.e5; omega)
                        have hqc : qd ≠ cb := (by have h0 := HFX.out.e0; have h1 := HFX.out.e1; have h2 := HFX.out.e2; have h3 := HFX.out.e3; have h4 := HFX.out.e4; have h5 := HFX.out.e5; omega)
                        have hgc : gx ≠ cb := (by have h0 := HFX.out.e0; have h1 := HFX.out.e1; have h2 := HFX.out.e2; have h3 := HFX.out.e3; have h4 := HFX.out.e4; have h5 := HFX.out.e5; omega)
                        have hmc : mi ≠ cb := (by have h0 := HFX.out.e0; have h1 := HFX.out.e1; have h2 := HFX.out.e2; have h3 := HFX.out.e3; have h4 := HFX.out.e4; have h5 := HFX.out.e5; omega)
                        have hcw : cb < wB.heap.size := (by have h0 := HFX.out.e0; have h1 := HFX.out.e1; have h2 := HFX.out.e2; have h3 := HFX.out.e3; have h4 := HFX.out.e4; have h5 := HFX.out.e5; omega)
                        have hib : i + 1 ≤ 8388608 := by omega
                        have HBB := Lib.hid (fun k h => (HO2.out.lt k h).1)
                        have HBY := Lib.hid (fun k h => (by rw [hy]; exact (hO.out.lt k h).2 : k < y))
                        have HA1 := Lib.hid (fun W hz h => rk_add cb ov f nv W hz h)
                        clear hc hy hw2 hS hRA hFR hO hR8 hi1 hi2 hf hle
                        generalize l[i]! = x at *
                        generalize addO f nv = yv at *
                        generalize orZ yv = yz at *
                        generalize yv.isNone = yn at *
                        have HM1 := Lib.hid (fun W hz h => rk_mul cb (ov || yn) damp yz W hz h)
                        generalize mulO damp yz = zv at *
                        generalize orZ zv = zz at *
                        generalize zv.isNone = zn at *
                        have HA2 := Lib.hid (fun W hz h => rk_add cb ((ov || yn) || zn) bz zz W hz h)
                        generalize addO bz zz = fv at *
                        generalize orZ fv = fz at *
                        generalize fv.isNone = fn at *
                        have MKC := Lib.hid (fun V (e : Kp cb w2 V) => (⟨e.cell n0 hyc, e.cell HFR2.out.n hgc, e.cell HFR2.out.d hgc, e.cell HS2.out.c1 hqc, e.cell HS2.out.c2 hqc, e.cell HRA2.out.n hnrc, e.cell HRA2.out.d hnrc, e.map HS2.out.mi hmc⟩ : V.cell? ⟨y, 0, none⟩ = some (.int .i64 x.id) ∧ V.cell? ⟨gx, 0, none⟩ = some (.int .i64 bz.1) ∧ V.cell? ⟨gx, 1, none⟩ = some (.int .i64 bz.2) ∧ V.cell? ⟨qd, 0, none⟩ = some (.int .i64 damp.1) ∧ V.cell? ⟨qd, 1, none⟩ = some (.int .i64 damp.2) ∧ V.cell? ⟨rb, 0, none⟩ = some (.int .i64 nv.1) ∧ V.cell? ⟨rb, 1, none⟩ = some (.int .i64 nv.2) ∧ MapOf Tryd.prog 3 V mi (k + i4) gi))
                        have MKD := Lib.hid (fun V V' row (h : V.cell? ⟨y, 0, none⟩ = some (.int .i64 x.id) ∧ V.cell? ⟨gx, 0, none⟩ = some (.int .i64 bz.1) ∧ V.cell? ⟨gx, 1, none⟩ = some (.int .i64 bz.2) ∧ V.cell? ⟨qd, 0, none⟩ = some (.int .i64 damp.1) ∧ V.cell? ⟨qd, 1, none⟩ = some (.int .i64 damp.2) ∧ V.cell? ⟨rb, 0, none⟩ = some (.int .i64 nv.1) ∧ V.cell? ⟨rb, 1, none⟩ = some (.int .i64 nv.2) ∧ MapOf Tryd.prog 3 V mi (k + i4) gi) (hg : V.grownBy V' row) (hr : ∀ b, row = some b → wB.heap.size ≤ b ∧ b < y) => (⟨hg.cell h.1 (fun e => by have := hr _ e.symm; simp at this), hg.cell h.2.1 (fun e => by have := hr _ e.symm; simp at this; omega), hg.cell h.2.2.1 (fun e => by have := hr _ e.symm; simp at this; omega), hg.cell h.2.2.2.1 (fun e => by have := hr _ e.symm; have h0 := HFX.out.e1; have h1 := HFX.out.e2; have h3 := HFX.out.e3; have h4 := HFX.out.e4; have h5 := HFX.out.e5; simp at this; omega), hg.cell h.2.2.2.2.1 (fun e => by have := hr _ e.symm; have h0 := HFX.out.e1; have h1 := HFX.out.e2; have h3 := HFX.out.e3; have h4 := HFX.out.e4; have h5 := HFX.out.e5; simp at this; omega), hg.cell h.2.2.2.2.2.1 (fun e => by have := hr _ e.symm; simp at this; omega), hg.cell h.2.2.2.2.2.2.1 (fun e => by have := hr _ e.symm; simp at this; omega), h.2.2.2.2.2.2.2.grown hg (fun e => by have := hr _ e.symm; omega)⟩ : V'.cell? ⟨y, 0, none⟩ = some (.int .i64 x.id) ∧ V'.cell? ⟨gx, 0, none⟩ = some (.int .i64 bz.1) ∧ V'.cell? ⟨gx, 1, none⟩ = some (.int .i64 bz.2) ∧ V'.cell? ⟨qd, 0, none⟩ = some (.int .i64 damp.1) ∧ V'.cell? ⟨qd, 1, none⟩ = some (.int .i64 damp.2) ∧ V'.cell? ⟨rb, 0, none⟩ = some (.int .i64 nv.1) ∧ V'.cell? ⟨rb, 1, none⟩ = some (.int .i64 nv.2) ∧ MapOf Tryd.prog 3 V' mi (k + i4) gi))
                        go_upto_region 35 with (fail)
                        rw [← HW2.out, ← HY.out]
                        clear HW2 HY a0 a1 a2 n0 n1 n2
                        refine wp_region_held_drew (S := (fun V => V.cell? ⟨y, 0, none⟩ = some (.int .i64 x.id) ∧ V.cell? ⟨gx, 0, none⟩ = some (.int .i64 bz.1) ∧ V.cell? ⟨gx, 1, none⟩ = some (.int .i64 bz.2) ∧ V.cell? ⟨qd, 0, none⟩ = some (.int .i64 damp.1) ∧ V.cell? ⟨qd, 1, none⟩ = some (.int .i64 damp.2) ∧ V.cell? ⟨rb, 0, none⟩ = some (.int .i64 nv.1) ∧ V.cell? ⟨rb, 1, none⟩ = some (.int .i64 nv.2) ∧ MapOf Tryd.prog 3 V mi (k + i4) gi)) (by kernel_rfl) ?hs34 (fun hHeld => ?go34)
                        case hs34 => (first | exact MKD.out _ _ _ (MKC.out _ hk9) hg10 (fun b h => ⟨HBB.out b h, HBY.out b h⟩) | exact MKC.out _ (by with_reducible repeat (first | exact Kp.refl _ _ | assumption | refine Kp.drew ?_ | refine Kp.drewN ?_ _ | refine Kp.alloc ?_ _)))
                        refine wpAnyH_take (i := 0) (oi := ⟨(some 131), (.move (.tmp 24)), 22, "rank.go:114", #[], none⟩) (v := ?v35) rfl (by kernel_rfl) (by kernel_rfl) (by kernel_rfl) (fun _ _ _ h => h) (Or.inl ⟨rfl, ?hy35⟩) hHeld ?rest35
                        case hy35 => (intro w _; go_simp <;> rfl)
                        (try simp only [PU])
                        refine wpAnyH_take (i := 1) (oi := ⟨(some 132), (.fieldAddr 42 (.tmp 26) 0), 0, "rank.go:114", #[], none⟩) (v := ?v36) rfl (by kernel_rfl) (by kernel_rfl) (by kernel_rfl) (fun _ _ _ h => h) (Or.inl ⟨rfl, ?hy36⟩) hHeld ?rest36
                        case hy36 => (intro w _; go_simp <;> rfl)
                        (try simp only [PU])
                        refine wpAnyH_take (i := 2) (oi := ⟨(some 133), (.load 3 (.tmp 132)), 3, "rank.go:114", #[⟨1, .data⟩], none⟩) (v := ?v37) rfl (by kernel_rfl) (by kernel_rfl) (by kernel_rfl) (fun _ _ _ h => h) (Or.inl ⟨rfl, ?hy37⟩) hHeld ?rest37
                        case hy37 => (intro w hSw; (try dsimp only at hSw); go_simp <;> first | with_reducible rfl | rw [if_neg (by omega)] | rw [if_pos (by omega)])
                        (try simp only [PU])
                        refine wpAnyH_take (i := 3) (oi := ⟨(some 134), (.move (.tmp 10)), 95, "rank.go:114", #[], none⟩) (v := ?v38) rfl (by kernel_rfl) (by kernel_rfl) (by kernel_rfl) (fun _ _ _ h => h) (Or.inl ⟨rfl, ?hy38⟩) hHeld ?rest38
                        case hy38 => (intro w _; go_simp <;> rfl)
                        (try simp only [PU])
                        refine wpAnyH_take (i := 4) (oi := ⟨(some 135), (.load 25 (.tmp 23)), 25, "rank.go:114", #[], none⟩) (v := ?v39) rfl (by kernel_rfl) (by kernel_rfl) (by kernel_rfl) (fun _ _ _ h => h) (Or.inl ⟨rfl, ?hy39⟩) hHeld ?rest39
                        case hy39 => (intro w hSw; (try dsimp only at hSw); go_simp <;> first | with_reducible rfl | rw [if_neg (by omega)] | rw [if_pos (by omega)])
                        (try simp only [PU])
                        refine wpAnyH_take (i := 5) (oi := ⟨(some 136), (.move (.tmp 10)), 95, "rank.go:114", #[], none⟩) (v := ?v40) rfl (by kernel_rfl) (by kernel_rfl) (by kernel_rfl) (fun _ _ _ h => h) (Or.inl ⟨rfl, ?hy40⟩) hHeld ?rest40
                        case hy40 => (intro w _; go_simp <;> rfl)
                        (try simp only [PU])
                        refine wpAnyH_take (i := 6) (oi := ⟨(some 137), (.load 25 (.tmp 6)), 25, "rank.go:114", #[], none⟩) (v := ?v41) rfl (by kernel_rfl) (by kernel_rfl) (by kernel_rfl) (fun _ _ _ h => h) (Or.inl ⟨rfl, ?hy41⟩) hHeld ?rest41
                        case hy41 => (intro w hSw; (try dsimp only at hSw); go_simp <;> first | with_reducible rfl | rw [if_neg (by omega)] | rw [if_pos (by omega)])
                        (try simp only [PU])
                        refine wpAnyH_take (i := 7) (oi := ⟨(some 138), (.move (.tmp 10)), 95, "rank.go:114", #[], none⟩) (v := ?v42) rfl (by kernel_rfl) (by kernel_rfl) (by kernel_rfl) (fun _ _ _ h => h) (Or.inl ⟨rfl, ?hy42⟩) hHeld ?rest42
                        case hy42 => (intro w _; go_simp <;> rfl)
                        (try simp only [PU])
                        refine wpAnyH_take (i := 8) (oi := ⟨(some 139), (.move (.tmp 13)), 99, "rank.go:114", #[], none⟩) (v := ?v43) rfl (by kernel_rfl) (by kernel_rfl) (by kernel_rfl) (fun _ _ _ h => h) (Or.inl ⟨rfl, ?hy43⟩) hHeld ?rest43
                        case hy43 => (intro w _; go_simp <;> rfl)
                        (try simp only [PU])
                        refine wpAnyH_take (i := 9) (oi := ⟨(some 140), (.fieldAddr 42 (.tmp 26) 0), 0, "rank.go:114", #[], none⟩) (v := ?v44) rfl (by kernel_rfl) (by kernel_rfl) (by kernel_rfl) (fun _ _ _ h => h) (Or.inl ⟨rfl, ?hy44⟩) hHeld ?rest44
                        case hy44 => (intro w _; go_simp <;> rfl)
                        (try simp only [PU])
                        refine wpAnyH_take (i := 10) (oi := ⟨(some 141), (.load 3 (.tmp 140)), 3, "rank.go:114", #[⟨9, .data⟩], none⟩) (v := ?v45) rfl (by kernel_rfl) (by kernel_rfl) (by kernel_rfl) (fun _ _ _ h => h) (Or.inl ⟨rfl, ?hy45⟩) hHeld ?rest45
                        case hy45 => (intro w hSw; (try dsimp only at hSw); go_simp <;> first | with_reducible rfl | rw [if_neg (by omega)] | rw [if_pos (by omega)])
                        (try simp only [PU])
                        refine wpAnyH_take (i := 11) (oi := ⟨(some 142), (.lookup 99 (.tmp 139) (.tmp 141) false), 25, "rank.go:114", #[⟨8, .data⟩, ⟨10, .data⟩], none⟩) (v := ?v46) rfl (by kernel_rfl) (by kernel_rfl) (by kernel_rfl) (fun _ _ _ h => h) (Or.inl ⟨rfl, ?hy46⟩) hHeld ?rest46
                        case hy46 => (intro w hSw; (try dsimp only at hSw); (refine run_look (.tmp 139) (.tmp 141) 99 ?_ (int_keyed Tryd.underlying3) Tryd.underlying99 (z := .agg #[.int .i64 0, .int .i64 0]) (key := .int .i64 x.id) (kl := lk x.id) (v := .agg #[.int .i64 f.1, .int .i64 f.2]) ?_ ?_ hSw.2.2.2.2.2.2.2 ?_ hkey ?_) <;> first | rfl | exact HFV.out | (rw [HFV.out]; rfl))
                        (try simp only [PU])
                        refine wpAnyH_take (i := 12) (oi := ⟨(some 143), (.load 25 (.tmp 18)), 25, "rank.go:114", #[], none⟩) (v := ?v47) rfl (by kernel_rfl) (by kernel_rfl) (by kernel_rfl) (fun _ _ _ h => h) (Or.inl ⟨rfl, ?hy47⟩) hHeld ?rest47
                        case hy47 => (intro w hSw; (try dsimp only at hSw); go_simp <;> first | with_reducible rfl | rw [if_neg (by omega)] | rw [if_pos (by omega)])
                        (try simp only [PU])
                        refine wpAnyH_ready (rs := [13]) (by kernel_rfl) (by simp) ?_
                        refine AllReadyH.cons (o := ⟨(some 144), (.call { callee := (.value (.func 68)), args := #[(.tmp 138), (.tmp 142), (.tmp 143)], argTypes := #[95, 25, 25] }), 25, "rank.go:114", #[⟨7, .data⟩, ⟨11, .data⟩, ⟨12, .data⟩], none⟩) rfl (fun K hK => ?step48x0) ?more48x0
                        case more48x0 => exact AllReadyH.nil
                        go_simp
                        (refine (HA1.out _ (HZ.out _ (HS2.out.ext.trans (by with_reducible repeat (first | exact Ext.refl _ | assumption | refine Ext.drew ?_ | refine Ext.drewN ?_ _ | refine Ext.alloc ?_ _)))) (HS2.out.ca.ext (by with_reducible repeat (first | exact Ext.refl _ | assumption | refine Ext.drew ?_ | refine Ext.drewN ?_ _ | refine Ext.alloc ?_ _)))).mono ?_; rintro e w7 ⟨rfl, hc7, hk7⟩; replace hk7 : Kp cb w2 w7 := Kp.trans (by with_reducible repeat (first | exact Kp.refl _ _ | assumption | refine Kp.drew ?_ | refine Kp.drewN ?_ _ | refine Kp.alloc ?_ _)) hk7)
                        refine hK.out _ _ ?hS48x0 (fun hHeld48 => ?rest48x0)
                        case hS48x0 => first | (first | exact MKD.out _ _ _ (MKC.out _ hk9) hg10 (fun b h => ⟨HBB.out b h, HBY.out b h⟩) | exact MKC.out _ (by with_reducible repeat (first | exact Kp.refl _ _ | assumption | refine Kp.drew ?_ | refine Kp.drewN ?_ _ | refine Kp.alloc ?_ _))) | ((try dsimp only); (first | exact MKD.out _ _ _ (MKC.out _ hk9) hg10 (fun b h => ⟨HBB.out b h, HBY.out b h⟩) | exact MKC.out _ (by with_reducible repeat (first | exact Kp.refl _ _ | assumption | refine Kp.drew ?_ | refine Kp.drewN ?_ _ | refine Kp.alloc ?_ _))))
                        clear hK K
                        clear hHeld
                        (try simp only [PU])
                        refine wpAnyH_ready (rs := [14]) (by kernel_rfl) (by simp) ?_
                        refine AllReadyH.cons (o := ⟨(some 145), (.call { callee := (.value (.func 71)), args := #[(.tmp 136), (.tmp 137), (.tmp 144)], argTypes := #[95, 25, 25] }), 25, "rank.go:114", #[⟨5, .data⟩, ⟨6, .data⟩, ⟨13, .data⟩, ⟨13, .chain⟩], none⟩) rfl (fun K hK => ?step49x0) ?more49x0
                        case more49x0 => exact AllReadyH.nil
                        go_simp
                        (refine (HM1.out _ (HZ.out _ ((HS2.out.kp HFX.out hk7 hc7).ext.trans (by with_reducible repeat (first | exact Ext.refl _ | assumption | refine Ext.drew ?_ | refine Ext.drewN ?_ _ | refine Ext.alloc ?_ _)))) (hc7.ext (by with_reducible repeat (first | exact Ext.refl _ | assumption | refine Ext.drew ?_ | refine Ext.drewN ?_ _ | refine Ext.alloc ?_ _)))).mono ?_; rintro e w8 ⟨rfl, hc8, hk8⟩; replace hk8 : Kp cb w2 w8 := Kp.trans (by with_reducible repeat (first | exact Kp.refl _ _ | assumption | refine Kp.drew ?_ | refine Kp.drewN ?_ _ | refine Kp.alloc ?_ _)) hk8)
                        refine hK.out _ _ ?hS49x0 (fun hHeld49 => ?rest49x0)
                        case hS49x0 => first | (first | exact MKD.out _ _ _ (MKC.out _ hk9) hg10 (fun b h => ⟨HBB.out b h, HBY.out b h⟩) | exact MKC.out _ (by with_reducible repeat (first | exact Kp.refl _ _ | assumption | refine Kp.drew ?_ | refine Kp.drewN ?_ _ | refine Kp.alloc ?_ _))) | ((try dsimp only); (first | exact MKD.out _ _ _ (MKC.out _ hk9) hg10 (fun b h => ⟨HBB.out b h, HBY.out b h⟩) | exact MKC.out _ (by with_reducible repeat (first | exact Kp.refl _ _ | assumption | refine Kp.drew ?_ | refine Kp.drewN ?_ _ | refine Kp.alloc ?_ _))))
                        clear hK K
                        clear hHeld48
                        (try simp only [PU])
                        refine wpAnyH_ready (rs := [15]) (by kernel_rfl) (by simp) ?_
                        refine AllReadyH.cons (o := ⟨(some 146), (.call { callee := (.value (.func 68)), args := #[(.tmp 134), (.tmp 135), (.tmp 145)], argTypes := #[95, 25, 25] }), 25, "rank.go:114", #[⟨3, .data⟩, ⟨4, .data⟩, ⟨14, .data⟩, ⟨14, .chain⟩], none⟩) rfl (fun K hK => ?step50x0) ?more50x0
                        case more50x0 => exact AllReadyH.nil
                        go_simp
                        (refine (HA2.out _ (HZ.out _ ((HS2.out.kp HFX.out hk8 hc8).ext.trans (by with_reducible repeat (first | exact Ext.refl _ | assumption | refine Ext.drew ?_ | refine Ext.drewN ?_ _ | refine Ext.alloc ?_ _)))) (hc8.ext (by with_reducible repeat (first | exact Ext.refl _ | assumption | refine Ext.drew ?_ | refine Ext.drewN ?_ _ | refine Ext.alloc ?_ _)))).mono ?_; rintro e w9 ⟨rfl, hc9, hk9⟩; replace hk9 : Kp cb w2 w9 := Kp.trans (by with_reducible repeat (first | exact Kp.refl _ _ | assumption | refine Kp.drew ?_ | refine Kp.drewN ?_ _ | refine Kp.alloc ?_ _)) hk9)
                        refine hK.out _ _ ?hS50x0 (fun hHeld50 => ?rest50x0)
                        case hS50x0 => first | (first | exact MKD.out _ _ _ (MKC.out _ hk9) hg10 (fun b h => ⟨HBB.out b h, HBY.out b h⟩) | exact MKC.out _ (by with_reducible repeat (first | exact Kp.refl _ _ | assumption | refine Kp.drew ?_ | refine Kp.drewN ?_ _ | refine Kp.alloc ?_ _))) | ((try dsimp only); (first | exact MKD.out _ _ _ (MKC.out _ hk9) hg10 (fun b h => ⟨HBB.out b h, HBY.out b h⟩) | exact MKC.out _ (by with_reducible repeat (first | exact Kp.refl _ _ | assumption | refine Kp.drew ?_ | refine Kp.drewN ?_ _ | refine Kp.alloc ?_ _))))
                        clear hK K
                        clear hHeld49
                        (try simp only [PU])
                        refine wpAnyH_take (i := 16) (oi := ⟨(some 147), (.build 42 #[(0, (.tmp 133)), (1, (.tmp 146))]), 42, "rank.go:114", #[⟨2, .data⟩, ⟨15, .data⟩], none⟩) (v := ?v51) rfl (by kernel_rfl) (by kernel_rfl) (by kernel_rfl) (fun _ _ _ h => h) (Or.inl ⟨rfl, ?hy51⟩) hHeld50 ?rest51
                        case hy51 => (intro w _; go_simp <;> rfl)
                        (try simp only [PU])
                        refine wpAnyH_ready (rs := [17]) (by kernel_rfl) (by simp) ?_
                        refine AllReadyH.cons (o := ⟨(some 148), (.buildSlice 22 1 #[(0, (.tmp 147))]), 22, "rank.go:114", #[⟨16, .data⟩], none⟩) rfl (fun K hK => ?step52x0) ?more52x0
                        case more52x0 => exact AllReadyH.nil
                        go_simp
                        refine hK.out _ _ ?hS52x0 (fun hHeld52 => ?rest52x0)
                        case hS52x0 => first | (first | exact MKD.out _ _ _ (MKC.out _ hk9) hg10 (fun b h => ⟨HBB.out b h, HBY.out b h⟩) | exact MKC.out _ (by with_reducible repeat (first | exact Kp.refl _ _ | assumption | refine Kp.drew ?_ | refine Kp.drewN ?_ _ | refine Kp.alloc ?_ _))) | ((try dsimp only); (first | exact MKD.out _ _ _ (MKC.out _ hk9) hg10 (fun b h => ⟨HBB.out b h, HBY.out b h⟩) | exact MKC.out _ (by with_reducible repeat (first | exact Kp.refl _ _ | assumption | refine Kp.drew ?_ | refine Kp.drewN ?_ _ | refine Kp.alloc ?_ _))))
                        clear hK K
                        clear hHeld50
                        (try simp only [PU])
                        refine wpAnyH_ready (rs := [18]) (by kernel_rfl) (by simp) ?_
                        refine AllReadyH.cons (o := ⟨(some 149), (.call { callee := (.builtin .append), args := #[(.tmp 131), (.tmp 148)], argTypes := #[22, 22] }), 22, "rank.go:114", #[⟨0, .data⟩, ⟨17, .data⟩, ⟨15, .chain⟩], none⟩) rfl (fun K hK => ?step53x0) ?more53x0
                        case more53x0 => exact AllReadyH.nil
                        (refine step_pushK El_share rfl (.tmp 131) (.tmp 148) rfl wB.heap.size w9 _ i _ [.int .i64 x.id, .int .i64 fz.1, .int .i64 fz.2] rfl (own_kp HO2.out hk9 hcw) (Nat.le_trans hbw (World.grownBy.size hk9)) rfl _ rfl rfl rfl (by simp [Value.oneCell']) hib (by decide) ?_; intro v2 w10 hown2 hg10)
                        refine hK.out _ _ ?hS53x0 (fun hHeld53 => ?rest53x0)
                        case hS53x0 => first | (first | exact MKD.out _ _ _ (MKC.out _ hk9) hg10 (fun b h => ⟨HBB.out b h, HBY.out b h⟩) | exact MKC.out _ (by with_reducible repeat (first | exact Kp.refl _ _ | assumption | refine Kp.drew ?_ | refine Kp.drewN ?_ _ | refine Kp.alloc ?_ _))) | ((try dsimp only); (first | exact MKD.out _ _ _ (MKC.out _ hk9) hg10 (fun b h => ⟨HBB.out b h, HBY.out b h⟩) | exact MKC.out _ (by with_reducible repeat (first | exact Kp.refl _ _ | assumption | refine Kp.drew ?_ | refine Kp.drewN ?_ _ | refine Kp.alloc ?_ _))))
                        clear hK K
                        clear hHeld52
                        (try simp only [PU])
                        refine wpAnyH_take (i := 19) (oi := ⟨(some 24), (.assign (.tmp 149)), 22, "rank.go:114", #[⟨18, .data⟩, ⟨18, .chain⟩, ⟨0, .phase⟩, ⟨1, .phase⟩, ⟨2, .phase⟩, ⟨3, .phase⟩, ⟨4, .phase⟩, ⟨5, .phase⟩, ⟨6, .phase⟩, ⟨7, .phase⟩, ⟨8, .phase⟩, ⟨9, .phase⟩, ⟨10, .phase⟩, ⟨11, .phase⟩, ⟨12, .phase⟩, ⟨13, .phase⟩, ⟨14, .phase⟩, ⟨15, .phase⟩, ⟨16, .phase⟩, ⟨17, .phase⟩, ⟨18, .phase⟩], none⟩) (v := ?v54) rfl (by kernel_rfl) (by kernel_rfl) (by kernel_rfl) (fun _ _ _ h => h) (Or.inl ⟨rfl, ?hy54⟩) hHeld53 ?rest54
                        case hy54 => (intro w _; go_simp <;> first | with_reducible rfl | rw [if_neg (by omega)] | rw [if_pos (by omega)])
                        (try simp only [PU])
                        refine wpAnyH_done (by kernel_rfl) ?_ _
                        clear hHeld53
                        go_wp2_with fail
                        have HOF := Lib.hid (show w10.ownsRow wB.heap.size 42 3 v2 (i + 1) ((O ++ [(⟨x.id, fz.1, fz.2⟩ : Sh)]).flatMap Sh.cells) by rw [List.flatMap_append]; exact hown2)
                        have HS10 := Lib.hid ((HS2.out.kp HFX.out hk9 hc9).grown HFX.out hg10 (fun b hb => by have := HBB.out b hb; omega))
                        have HRA10 := Lib.hid ((HRA2.out.kp hk9 hnrc).grown hg10 (fun h => by have := HBB.out rb h.symm; omega))
                        have HFR10 := Lib.hid ((HFR2.out.kp hk9 hgc).grown hg10 (fun h => by have := HBB.out gx h.symm; omega))
                        have HLE := Lib.hid (show wB.heap.size ≤ w10.heap.size from Nat.le_trans hbw (Nat.le_trans (World.grownBy.size hk9) hg10.size))
                        clear hown2 hg10 hk9 hc9 hk8 hc8 hk7 hc7 MKC MKD HBY HA1 HA2 HM1 HS2 HRA2 HFR2 HO2 HBB
                        go_roundw
                        case rel => exact ⟨i + 1, O ++ [(⟨x.id, fz.1, fz.2⟩ : Sh)], _, by go_num, by omega, HNX, HOF, HRA10, HFR10, HLE, HS10⟩
                        case measure => simp [intOf]; omega
                      · have HDN := Lib.hid (hR8.out.done hli)
                        have hOl : i = O.length := hR8.out.2.1.symm
                        obtain ⟨A9, c9, rfl, h9, hS9⟩ := shares_of_own (l := O) hO.out hOl (by omega)
                        have HS9 := Lib.hid hS9
                        have HX := Lib.hid hS.out.ext
                        have HWB := Lib.hid (show w.heap.size ≤ wB.heap.size by have h0 := HFX.out.e0; have h1 := HFX.out.e1; have h2 := HFX.out.e2; have h3 := HFX.out.e3; have h4 := HFX.out.e4; have h5 := HFX.out.e5; omega)
                        have hcc := hS.out.ca.cell
                        clear hR8 hOl hO hS9 hS hRA hFR hle HL HZ HID HKEY
                        have MKC := Lib.hid (fun V (e : Ext wr V) => e.cell hcc)
                        go_upto_region 37 with (fail)
                        refine wp_region_held_drew (S := (fun V => V.cell? ⟨cb, 0, none⟩ = some (.bool ov))) (by kernel_rfl) ?hs55 (fun hHeld => ?go55)
                        case hs55 => (exact MKC.out _ (by with_reducible repeat (first | exact Ext.refl _ | assumption | refine Ext.drew ?_ | refine Ext.drewN ?_ _ | refine Ext.alloc ?_ _)))
                        refine wpAnyH_take (i := 0) (oi := ⟨(some 151), (.move (.tmp 24)), 22, "rank.go:116", #[], none⟩) (v := ?v56) rfl (by kernel_rfl) (by kernel_rfl) (by kernel_rfl) (fun _ _ _ h => h) (Or.inl ⟨rfl, ?hy56⟩) hHeld ?rest56
                        case hy56 => (intro w _; go_simp <;> rfl)
                        (try simp only [PU])
                        refine wpAnyH_take (i := 1) (oi := ⟨(some 152), (.move (.tmp 10)), 95, "rank.go:116", #[⟨5, (.gcOnly Departure.lateStores)⟩], none⟩) (v := ?v57) rfl (by kernel_rfl) (by kernel_rfl) (by kernel_rfl) (fun _ _ _ h => h) (Or.inl ⟨rfl, ?hy57⟩) hHeld ?rest57
                        case hy57 => (intro w _; go_simp <;> rfl)
                        (try simp only [PU])
                        refine wpAnyH_take (i := 2) (oi := ⟨(some 153), (.nilCheck (.tmp 152)), 0, "rank.go:116", #[⟨1, .data⟩, ⟨5, (.gcOnly Departure.lateStores)⟩], none⟩) (v := ?v58) rfl (by kernel_rfl) (by kernel_rfl) (by kernel_rfl) (fun _ _ _ h => h) (Or.inl ⟨rfl, ?hy58⟩) hHeld ?rest58
                        case hy58 => (intro w _; go_simp <;> first | with_reducible rfl | rw [if_neg (by omega)] | rw [if_pos (by omega)])
                        (try simp only [PU])
                        refine wpAnyH_take (i := 3) (oi := ⟨(some 154), (.fieldAddr 97 (.tmp 153) 0), 0, "rank.go:116", #[⟨2, .data⟩, ⟨5, (.gcOnly Departure.lateStores)⟩], none⟩) (v := ?v59) rfl (by kernel_rfl) (by kernel_rfl) (by kernel_rfl) (fun _ _ _ h => h) (Or.inl ⟨rfl, ?hy59⟩) hHeld ?rest59
                        case hy59 => (intro w _; go_simp <;> rfl)
                        (try simp only [PU])
                        refine wpAnyH_take (i := 4) (oi := ⟨(some 155), (.load 4 (.tmp 154)), 4, "rank.go:116", #[⟨3, .data⟩, ⟨5, (.gcOnly Departure.lateStores)⟩], none⟩) (v := ?v60) rfl (by kernel_rfl) (by kernel_rfl) (by kernel_rfl) (fun _ _ _ h => h) (Or.inl ⟨rfl, ?hy60⟩) hHeld ?rest60
                        case hy60 => (intro w hSw; (try dsimp only at hSw); go_simp <;> first | with_reducible rfl | rw [if_neg (by omega)] | rw [if_pos (by omega)])
                        (try simp only [PU])
                        refine wpAnyH_take (i := 5) (oi := ⟨(some 8), (.assign (.tmp 151)), 22, "rank.go:116", #[⟨0, .data⟩, ⟨0, .phase⟩, ⟨1, (.textOnly Departure.lateStores)⟩, ⟨2, (.textOnly Departure.lateStores)⟩, ⟨3, (.textOnly Departure.lateStores)⟩, ⟨4, (.textOnly Departure.lateStores)⟩], none⟩) (v := ?v61) rfl (by kernel_rfl) (by kernel_rfl) (by kernel_rfl) (fun _ _ _ h => h) (Or.inl ⟨rfl, ?hy61⟩) hHeld ?rest61
                        case hy61 => (intro w _; go_simp <;> first | with_reducible rfl | rw [if_neg (by omega)] | rw [if_pos (by omega)])
                        (try simp only [PU])
                        refine wpAnyH_take (i := 6) (oi := ⟨(some 9), (.assign (.tmp 155)), 4, "rank.go:116", #[⟨4, .data⟩, ⟨5, .chain⟩, ⟨0, .phase⟩, ⟨1, .phase⟩, ⟨2, .phase⟩, ⟨3, .phase⟩, ⟨4, .phase⟩, ⟨5, .phase⟩], none⟩) (v := ?v62) rfl (by kernel_rfl) (by kernel_rfl) (by kernel_rfl) (fun _ _ _ h => h) (Or.inl ⟨rfl, ?hy62⟩) hHeld ?rest62
                        case hy62 => (intro w _; go_simp <;> first | with_reducible rfl | rw [if_neg (by omega)] | rw [if_pos (by omega)])
                        (try simp only [PU])
                        refine wpAnyH_done (by kernel_rfl) ?_ _
                        clear hHeld
                        go_wp2_with fail
                        go_ret2
                        exact ⟨O, A9, c9, ov, rfl, h9, (HS9.out.keep (fun _ _ _ hb hc => ⟨Ext.cell (by with_reducible repeat (first | exact Ext.refl _ | assumption | refine Ext.drew ?_ | refine Ext.drewN ?_ _ | refine Ext.alloc ?_ _)) hc, Nat.le_trans HWB.out hb⟩)), HDN.out, HX.out.trans (by with_reducible repeat (first | exact Ext.refl _ | assumption | refine Ext.drew ?_ | refine Ext.drewN ?_ _ | refine Ext.alloc ?_ _))⟩
end Go.Proofs.YtlkpmbkmmfoakaaDoor
