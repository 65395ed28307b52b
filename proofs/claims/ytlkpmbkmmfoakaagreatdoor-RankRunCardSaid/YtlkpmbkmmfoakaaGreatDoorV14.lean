/- PARTS OF THE WALKS, joined: RkG. -/
import Derived.Test.YtlkpmbkmmfoakaaGreatDoorV13
/- A STEP, plain; the walk over the reference's Step. -/
namespace Go.Proofs.YtlkpmbkmmfoakaaGreatDoor
open Go.RowKit
def outsStep (f : Sh → Option Sh) (a : Option (List Sh)) (x : Sh) : Option (List Sh) := a.bind (fun O => (f x).map (fun y => O ++ [y]))
def outsO (f : Sh → Option Sh) (l : List Sh) : Option (List Sh) := l.foldl (outsStep f) (some [])
theorem outsO_snoc (f : Sh → Option Sh) (l : List Sh) (k : Nat) (h : k < l.length) : outsO f (l.take (k + 1)) = outsStep f (outsO f (l.take k)) l[k]! := by
  unfold outsO
  rw [List.take_succ_eq_append_getElem h, List.foldl_append, getElem!_pos l k h]; rfl
theorem outsO_none {f : Sh → Option Sh} {l : List Sh} {k : Nat} (h : outsO f (l.take k) = none) : outsO f l = none := by
  have : ∀ l' : List Sh, l'.foldl (outsStep f) none = none := fun l' => by
    induction l' with
    | nil => rfl
    | cons x r ih => rw [List.foldl_cons]; exact ih
  unfold outsO at *
  rw [← List.take_append_drop k l, List.foldl_append, h]; exact this _
theorem outsO_len {f : Sh → Option Sh} : ∀ {l O : List Sh}, outsO f l = some O → O.length = l.length := by
  intro l
  have : ∀ (l : List Sh) (a O : List Sh), l.foldl (outsStep f) (some a) = some O → O.length = a.length + l.length := by
    intro l
    induction l with
    | nil => intro a O h; simp at h; rw [h]; rfl
    | cons x r ih =>
      intro a O h
      rw [List.foldl_cons] at h
      unfold outsStep at h
      rw [Option.bind_some] at h
      cases hf : f x with
      | none =>
        rw [hf] at h
        have : ∀ l' : List Sh, l'.foldl (outsStep f) none = none := fun l' => by
          induction l' with
          | nil => rfl
          | cons x r ih => rw [List.foldl_cons]; exact ih
        have h2 := this r
        unfold outsStep at h2
        rw [Option.map_none, h2] at h; cases h
      | some y =>
        rw [hf, Option.map_some] at h
        have := ih (a ++ [y]) O h
        rw [List.length_append] at this
        simp at this ⊢; omega
  intro O h
  have := this l [] O h
  simpa using this
/-- what a share becomes -/
def outF (inV : Option Fr) (r b damp : Fr) : Option Fr := inV.bind (fun x => (addO x r).bind (fun y => (mulO damp y).bind (fun z => addO b z)))
theorem outF_of {inV : Option Fr} {r b damp x y z f : Fr} (h3 : ∀ v, inV = some v → v = x) (h4 : ∀ v, addO x r = some v → v = y) (h5 : ∀ v, mulO damp y = some v → v = z) (h6 : ∀ v, addO b z = some v → v = f) :
    ((inV.isSome && ((addO x r).isSome && ((mulO damp y).isSome && (addO b z).isSome))) = true → outF inV r b damp = some f) ∧ ((inV.isSome && ((addO x r).isSome && ((mulO damp y).isSome && (addO b z).isSome))) = false → outF inV r b damp = none) := by
  unfold outF
  cases inV with
  | none => simp
  | some v =>
    obtain rfl := h3 v rfl
    rw [Option.bind_some]
    cases h : addO v r with
    | none => simp
    | some v2 =>
      obtain rfl := h4 v2 h
      rw [Option.bind_some]
      cases h' : mulO damp v2 with
      | none => simp
      | some v3 =>
        obtain rfl := h5 v3 h'
        rw [Option.bind_some]
        cases h'' : addO b v3 with
        | none => simp
        | some v4 => rw [h6 v4 h'']; simp
/-- a step's shares, where all of them are in range -/
def stepR (types : List ByteArray) (E : List EdgeG) (damp : Fr) (l : List Sh) (nn : Int) : Option (List Sh) :=
  (restV (fun i => degN types E i) l nn).bind (fun r => ((subO (1, 1) damp).bind (fun x => divO x ((l.length : Int), 1))).bind (fun b => outsO (fun s => (outF (inO types (fun i => degN types E i) l E s.id) r b damp).map (fun f => (⟨s.id, f.1, f.2⟩ : Sh))) l))
def stepP (g : GraphG) (types : List ByteArray) (damp : Fr) (l : List Sh) : List Sh × Int :=
  if chkG g = 0 then (if dampB damp && fitsB g l then (if l.length = 0 then ([], 0) else match stepR types g.edges damp l (g.nodes.length : Int) with | some o => (o, 0) | none => ([], 24)) else ([], 1)) else ([], chkG g)
theorem stepP_err {g : GraphG} {types : List ByteArray} {damp : Fr} {l : List Sh} (h : chkG g ≠ 0) : stepP g types damp l = ([], chkG g) := by unfold stepP; rw [if_neg h]
theorem stepP_arg {g : GraphG} {types : List ByteArray} {damp : Fr} {l : List Sh} (h : chkG g = 0) (h1 : (dampB damp && fitsB g l) = false) : stepP g types damp l = ([], 1) := by unfold stepP; rw [if_pos h, h1]; rfl
theorem stepP_nil {g : GraphG} {types : List ByteArray} {damp : Fr} {l : List Sh} (h : chkG g = 0) (h1 : (dampB damp && fitsB g l) = true) (h2 : l.length = 0) : stepP g types damp l = ([], 0) := by unfold stepP; rw [if_pos h, h1, if_pos rfl, if_pos h2]
theorem stepP_on {g : GraphG} {types : List ByteArray} {damp : Fr} {l : List Sh} (h : chkG g = 0) (h1 : (dampB damp && fitsB g l) = true) (h2 : l.length ≠ 0) : stepP g types damp l = match stepR types g.edges damp l (g.nodes.length : Int) with | some o => (o, 0) | none => ([], 24) := by unfold stepP; rw [if_pos h, h1, if_pos rfl, if_neg h2]
theorem step_fail {g : GraphG} {types : List ByteArray} {damp : Fr} {l : List Sh} (hs : stepP g types damp l = match stepR types g.edges damp l (g.nodes.length : Int) with | some o => (o, 0) | none => ([], 24)) {sab : Fr} (hv : ∀ f, subO (1, 1) damp = some f → f = sab)
    (h : restV (fun i => degN types g.edges i) l (g.nodes.length : Int) = none ∨ subO (1, 1) damp = none ∨ divO sab ((l.length : Int), 1) = none) : stepP g types damp l = ([], 24) := by
  have : stepR types g.edges damp l (g.nodes.length : Int) = none := by
    unfold stepR
    cases h1 : restV (fun i => degN types g.edges i) l (g.nodes.length : Int) with
    | none => rfl
    | some r =>
      rw [Option.bind_some]
      cases h2 : subO (1, 1) damp with
      | none => rfl
      | some v =>
        obtain rfl := hv v h2
        rw [Option.bind_some]
        rcases h with h | h | h
        · rw [h1] at h; cases h
        · rw [h2] at h; cases h
        · rw [h]; rfl
  rw [hs, this]
def outFn (types : List ByteArray) (E : List EdgeG) (l : List Sh) (r b damp : Fr) : Sh → Option Sh := fun s => (outF (inO types (fun i => degN types E i) l E s.id) r b damp).map (fun f => (⟨s.id, f.1, f.2⟩ : Sh))
theorem step_on {g : GraphG} {types : List ByteArray} {damp : Fr} {l : List Sh} (hs : stepP g types damp l = match stepR types g.edges damp l (g.nodes.length : Int) with | some o => (o, 0) | none => ([], 24)) {sab r b : Fr}
    (h1 : restV (fun i => degN types g.edges i) l (g.nodes.length : Int) = some r) (h2 : subO (1, 1) damp = some sab) (h3 : divO sab ((l.length : Int), 1) = some b) : stepP g types damp l = match outsO (outFn types g.edges l r b damp) l with | some o => (o, 0) | none => ([], 24) := by
  rw [hs]; unfold stepR; rw [h1, Option.bind_some, h2, Option.bind_some, h3, Option.bind_some]; rfl
theorem outs_next {types : List ByteArray} {E : List EdgeG} {l O : List Sh} {r b damp f : Fr} {k : Nat} (hO : outsO (outFn types E l r b damp) (l.take k) = some O) (hk : k < l.length) (h : outF (inO types (fun i => degN types E i) l E l[k]!.id) r b damp = some f) : outsO (outFn types E l r b damp) (l.take (k + 1)) = some (O ++ [⟨l[k]!.id, f.1, f.2⟩]) := by
  rw [outsO_snoc _ _ _ hk, hO]; unfold outsStep outFn; rw [Option.bind_some, h]; rfl
theorem outs_no {types : List ByteArray} {E : List EdgeG} {l O : List Sh} {r b damp : Fr} {k : Nat} (hO : outsO (outFn types E l r b damp) (l.take k) = some O) (hk : k < l.length) (h : outF (inO types (fun i => degN types E i) l E l[k]!.id) r b damp = none) : outsO (outFn types E l r b damp) l = none := by
  refine outsO_none (k := k + 1) ?_
  rw [outsO_snoc _ _ _ hk, hO]; unfold outsStep outFn; rw [Option.bind_some, h]; rfl
/-- what a function of shares and an error number tells -/
def ShErr (P : List Sh × Int) (w : World) (e : Ending) (w' : World) : Prop := (∃ A' c', e = .returned (.tuple #[.slice A' P.1.length c', .int .i64 P.2]) ∧ P.1.length ≤ c' ∧ Shares w' (fun b => w.heap.size ≤ b) A' P.1) ∧ Ext w w'
theorem shErr_nil (z : Int) (w w' : World) (h : Ext w w') : ShErr ([], z) w (.returned (.tuple #[.slice none 0 0, .int .i64 z])) w' := ⟨⟨none, 0, rfl, Nat.le_refl _, SliceR.nil _ _ _⟩, h⟩
theorem box_gf (w : World) (A B : Option Addr) (c d : Nat) (g : GraphG) (f : Fr) (t t' : TypeId) : ∃ (q : Nat) (w1 : World), q = w.heap.size ∧ w1 = (w.alloc (.cells #[.slice A g.nodes.length c, .slice B g.edges.length d, .int .i64 g.nn, .int .i64 g.ne] t)).alloc (.cells #[.int .i64 f.1, .int .i64 f.2] t') ∧ w1.cell? ⟨q, 0, none⟩ = some (.slice A g.nodes.length c) ∧ w1.cell? ⟨q, 1, none⟩ = some (.slice B g.edges.length d) ∧ w1.cell? ⟨q, 2, none⟩ = some (.int .i64 g.nn) ∧ w1.cell? ⟨q, 3, none⟩ = some (.int .i64 g.ne) ∧ w1.cell? ⟨q + 1, 0, none⟩ = some (.int .i64 f.1) ∧ w1.cell? ⟨q + 1, 1, none⟩ = some (.int .i64 f.2) ∧ Ext w w1 :=
  ⟨_, _, rfl, rfl, by go_simp, by go_simp, by go_simp, by go_simp, by go_simp, by go_simp, ((Ext.refl _).alloc _).alloc _⟩
set_option maxRecDepth 100000 in
set_option maxHeartbeats 6400000 in
theorem r51_Step (g : GraphG) (types : List ByteArray) (damp : Fr) (l : List Sh) (ok ok' ok2 : Nat → Prop) (A B T S' : Option Addr) (c d e f : Nat) (w : World) (hg : GraphAt w ok A B g) (hz : SzG g) (ht : Strs w ok' T types) (hl : Shares w ok2 S' l) :
    Calls Tryz.prog 8 #[.agg #[.slice A g.nodes.length c, .slice B g.edges.length d, .int .i64 g.nn, .int .i64 g.ne], .slice T types.length e, .agg #[.int .i64 damp.1, .int .i64 damp.2], .slice S' l.length f] w (ShErr (stepP g types damp l) w) := by
  have hm := hl.len
  obtain ⟨q, w2, hq, hw2, g0, g1, g2, g3, d0, d1, hx2⟩ := box_gf w A B c d g damp 25 28
  have HW := Lib.hid hw2
  have HG := Lib.hid hq
  have HCH := Lib.hid (fun W (e' : Ext w2 W) => r7_Check g ok A B c d W (hg.ext (hx2.trans e')) hz)
  have HDA := Lib.hid (fun W => r51_damping damp.1 damp.2 W)
  have HFI := Lib.hid (fun W (e' : Ext w2 W) => r51_shares g l ok ok2 A B S' c d f W (hg.nodes.ext (hx2.trans e')) (hl.ext (hx2.trans e')))
  have HRE := Lib.hid (fun W (e' : Ext w2 W) => r51_rest g types l ok ok' ok2 A B T S' c d e f W (hg.edges.ext (hx2.trans e')) (ht.ext (hx2.trans e')) (hl.ext (hx2.trans e')))
  have HINR := Lib.hid (fun i W (e' : Ext w2 W) => r51_in g types l i ok ok' ok2 A B T S' c d e f W (hg.edges.ext (hx2.trans e')) (ht.ext (hx2.trans e')) (hl.ext (hx2.trans e')))
  have HL := Lib.hid (hl.ext hx2)
  have HSUB := Lib.hid (fun W => q3_Sub (1, 1) damp W)
  dsimp only at HSUB
  clear hw2 hq ht hl hz
  by_cases h0 : chkG g = 0
  · have hlen := (chkG_len h0).1
    rw [h0] at HCH
    by_cases h1 : (dampB damp && fitsB g l) = true
    · have hll : l.length ≤ 2000 := by
        rw [Bool.and_eq_true] at h1
        have := (fitsB_iff.1 h1.2).1
        omega
      have h1' := h1
      rw [Bool.and_eq_true] at h1'
      rw [show dampB (damp.1, damp.2) = true from h1'.1] at HDA
      rw [h1'.2] at HFI
      by_cases h2 : l.length = 0
      · rw [stepP_nil h0 h1 h2]
        have hz2 : ((l.length : Int) == 0) = true := by rw [h2]; rfl
        clear h0 h1 h2 h1' hg
        go_enter Tryz.func8, Tryz.ntmps8
        go_upto_region 1 with (fail)
        rw [← HW.out, ← HG.out]
        clear HW HG
        go_wp2_with (first | (go_at_call 21; ((with_reducible refine (HCH.out _ (by with_reducible repeat (first | exact Ext.refl _ | assumption | refine Ext.drew ?_ | refine Ext.drewN ?_ _ | refine Ext.alloc ?_ _))).mono ?_); rintro e v1 ⟨rfl, hv1⟩; have k0 := hv1.cell g0; have k1 := hv1.cell g1; have k2 := hv1.cell g2; have k3 := hv1.cell g3; have p0 := hv1.cell d0; have p1 := hv1.cell d1)) | (go_at_call 22; ((with_reducible refine (HDA.out _).mono ?_); rintro e v2 ⟨rfl, hv2⟩; replace k0 := hv2.cell k0; replace k1 := hv2.cell k1; replace k2 := hv2.cell k2; replace k3 := hv2.cell k3; replace p0 := hv2.cell p0; replace p1 := hv2.cell p1)) | (go_at_call 23; ((with_reducible refine (HFI.out _ (hv1.trans hv2)).mono ?_); rintro e v3 ⟨rfl, hv3⟩; replace k0 := hv3.cell k0; replace k1 := hv3.cell k1; replace k2 := hv3.cell k2; replace k3 := hv3.cell k3; replace p0 := hv3.cell p0; replace p1 := hv3.cell p1)))
        go_ret2
        exact shErr_nil _ _ _ (hx2.trans (hv1.trans (hv2.trans hv3)))
      · have HSTEP := Lib.hid (stepP_on (types := types) h0 h1 h2)
        have hz2 : ((l.length : Int) == 0) = false := beq_eq_false_iff_ne.2 (by omega)
        obtain ⟨rv, hrv⟩ : ∃ rv, rv = restV (fun i => degN types g.edges i) l (g.nodes.length : Int) := ⟨_, rfl⟩
        obtain ⟨sv, hsv⟩ : ∃ sv, sv = subO (1, 1) damp := ⟨_, rfl⟩
        have HRVE := Lib.hid hrv.symm
        have HSVE := Lib.hid hsv.symm
        rw [← hrv] at HRE
        rw [← hsv] at HSUB
        clear h0 h1 h2 h1' hg hrv hsv
        go_enter Tryz.func8, Tryz.ntmps8
        go_upto_region 1 with (fail)
        rw [← HW.out, ← HG.out]
        clear HW HG
        go_upto_region 8 with (first | (go_at_call 21; ((with_reducible refine (HCH.out _ (by with_reducible repeat (first | exact Ext.refl _ | assumption | refine Ext.drew ?_ | refine Ext.drewN ?_ _ | refine Ext.alloc ?_ _))).mono ?_); rintro e v1 ⟨rfl, hv1⟩; have k0 := hv1.cell g0; have k1 := hv1.cell g1; have k2 := hv1.cell g2; have k3 := hv1.cell g3; have p0 := hv1.cell d0; have p1 := hv1.cell d1)) | (go_at_call 22; ((with_reducible refine (HDA.out _).mono ?_); rintro e v2 ⟨rfl, hv2⟩; replace k0 := hv2.cell k0; replace k1 := hv2.cell k1; replace k2 := hv2.cell k2; replace k3 := hv2.cell k3; replace p0 := hv2.cell p0; replace p1 := hv2.cell p1)) | (go_at_call 23; ((with_reducible refine (HFI.out _ (hv1.trans hv2)).mono ?_); rintro e v3 ⟨rfl, hv3⟩; replace k0 := hv3.cell k0; replace k1 := hv3.cell k1; replace k2 := hv3.cell k2; replace k3 := hv3.cell k3; replace p0 := hv3.cell p0; replace p1 := hv3.cell p1)))
        go_upto_region 9 with (go_at_call 24; ((with_reducible refine (HRE.out _ (hv1.trans (hv2.trans hv3))).mono ?_); rintro e v4 ⟨⟨ra, rb, rfl, hvv⟩, hv4⟩; have HRV := Lib.hid hvv; clear hvv))
        obtain ⟨g11, y3, hg11, hy3, r0, r1, -, -, hz3⟩ := box_frac v4 ra rb 28
        rw [← hy3, ← hg11]
        have hq3 := hv4.trans hz3
        replace k0 := hq3.cell k0
        replace k1 := hq3.cell k1
        replace k2 := hq3.cell k2
        replace k3 := hq3.cell k3
        replace p0 := hq3.cell p0
        replace p1 := hq3.cell p1
        have hE3 := (hv1.trans (hv2.trans hv3)).trans hq3
        have hE8 : Ext y3 y3 := Ext.refl _
        clear hv1 hv2 hv3 hv4 hz3 hq3 hg11 hy3 HRE HFI HDA HCH hz2
        have MKA := Lib.hid (fun V (e : Ext y3 V) => (⟨e.cell p0, e.cell p1, e⟩ : V.cell? ⟨q + 1, 0, none⟩ = some (.int .i64 damp.1) ∧ V.cell? ⟨q + 1, 1, none⟩ = some (.int .i64 damp.2) ∧ Ext y3 V))
        have MKB := Lib.hid (fun V gg u0 u1 (hgg : y3.heap.size ≤ gg) (e : Ext y3 V) => (⟨((cell_other (by have := block_lt_of_cell p0; simp at this; omega)).trans ((cell_other (by have := block_lt_of_cell p0; simp at this; omega)).trans (e.cell p0))), ((cell_other (by have := block_lt_of_cell p1; simp at this; omega)).trans ((cell_other (by have := block_lt_of_cell p1; simp at this; omega)).trans (e.cell p1))), (Ext.setCell (Ext.setCell e hgg _) hgg _)⟩ : ((V.setCell ⟨gg, 0, none⟩ u0).setCell ⟨gg, 1, none⟩ u1).cell? ⟨q + 1, 0, none⟩ = some (.int .i64 damp.1) ∧ ((V.setCell ⟨gg, 0, none⟩ u0).setCell ⟨gg, 1, none⟩ u1).cell? ⟨q + 1, 1, none⟩ = some (.int .i64 damp.2) ∧ Ext y3 ((V.setCell ⟨gg, 0, none⟩ u0).setCell ⟨gg, 1, none⟩ u1)))
        go_upto_region 9 with (fail)
        go_cut [13, 14] (fun p r wx => ∃ (gx : Nat) (a b : Int), p = .pointer (some ⟨gx, 0, none⟩) ∧ r = .bool sv.isSome ∧ Hid (∀ f, sv = some f → f = (a, b)) ∧ wx.cell? ⟨gx, 0, none⟩ = some (.int .i64 a) ∧ wx.cell? ⟨gx, 1, none⟩ = some (.int .i64 b) ∧ Ext y3 wx)
        case first =>
          refine wp_region_held_drew (S := (fun V => V.cell? ⟨q + 1, 0, none⟩ = some (.int .i64 damp.1) ∧ V.cell? ⟨q + 1, 1, none⟩ = some (.int .i64 damp.2) ∧ Ext y3 V)) (by kernel_rfl) ?hs5048 (fun hHeld => ?go5048)
          case hs5048 => (first | with_reducible exact MKB.out _ _ _ _ (by first | exact Nat.le_refl _ | exact Ext.le (by with_reducible repeat (first | exact Ext.refl _ | assumption | refine Ext.drew ?_ | refine Ext.drewN ?_ _ | refine Ext.alloc ?_ _))) (by with_reducible repeat (first | exact Ext.refl _ | assumption | refine Ext.drew ?_ | refine Ext.drewN ?_ _ | refine Ext.alloc ?_ _)) | exact MKA.out _ (by with_reducible repeat (first | exact Ext.refl _ | assumption | refine Ext.drew ?_ | refine Ext.drewN ?_ _ | refine Ext.alloc ?_ _)))
          refine wpAnyH_take (i := 1) (oi := ⟨(some 53), (.load 28 (.tmp 6)), 28, "ref.go:110", #[], none⟩) (v := ?v5049) rfl (by kernel_rfl) (by kernel_rfl) (by kernel_rfl) (fun _ _ _ h => h) (Or.inl ⟨rfl, ?hy5049⟩) hHeld ?rest5049
          case hy5049 => (intro w hSw; (try dsimp only at hSw); go_simp <;> first | with_reducible rfl | rw [if_neg (by omega)] | rw [if_pos (by omega)])
          (try simp only [PU])
          refine wpAnyH_ready (rs := [0, 6]) (by kernel_rfl) (by simp) ?_
          refine AllReadyH.cons (o := ⟨(some 52), (.call { callee := (.value (.func 26)), args := #[(.const (.int .i64 1))], argTypes := #[3] }), 28, "ref.go:110", #[], none⟩) rfl (fun K hK => ?step5050x0) ?more5050x0
          case more5050x0 =>
            refine AllReadyH.cons (o := ⟨(some 13), (.alloc 28), 0, "ref.go:110", #[], none⟩) rfl (fun K hK => ?step5050x1) ?more5050x1
            case more5050x1 => exact AllReadyH.nil
            go_simp
            refine hK.out _ _ ?hS5050x1 (fun hHeld5050 => ?rest5050x1)
            case hS5050x1 => first | (first | with_reducible exact MKB.out _ _ _ _ (by first | exact Nat.le_refl _ | exact Ext.le (by with_reducible repeat (first | exact Ext.refl _ | assumption | refine Ext.drew ?_ | refine Ext.drewN ?_ _ | refine Ext.alloc ?_ _))) (by with_reducible repeat (first | exact Ext.refl _ | assumption | refine Ext.drew ?_ | refine Ext.drewN ?_ _ | refine Ext.alloc ?_ _)) | exact MKA.out _ (by with_reducible repeat (first | exact Ext.refl _ | assumption | refine Ext.drew ?_ | refine Ext.drewN ?_ _ | refine Ext.alloc ?_ _))) | ((try dsimp only); (first | with_reducible exact MKB.out _ _ _ _ (by first | exact Nat.le_refl _ | exact Ext.le (by with_reducible repeat (first | exact Ext.refl _ | assumption | refine Ext.drew ?_ | refine Ext.drewN ?_ _ | refine Ext.alloc ?_ _))) (by with_reducible repeat (first | exact Ext.refl _ | assumption | refine Ext.drew ?_ | refine Ext.drewN ?_ _ | refine Ext.alloc ?_ _)) | exact MKA.out _ (by with_reducible repeat (first | exact Ext.refl _ | assumption | refine Ext.drew ?_ | refine Ext.drewN ?_ _ | refine Ext.alloc ?_ _))))
            clear hK K
            clear hHeld
            (try simp only [PU])
            refine wpAnyH_ready (rs := [0]) (by kernel_rfl) (by simp) ?_
            refine AllReadyH.cons (o := ⟨(some 52), (.call { callee := (.value (.func 26)), args := #[(.const (.int .i64 1))], argTypes := #[3] }), 28, "ref.go:110", #[], none⟩) rfl (fun K hK => ?step5051x0) ?more5051x0
            case more5051x0 => exact AllReadyH.nil
            go_simp
            (refine (r51_whole _ _).mono ?_; rintro e y5 ⟨rfl, hy5⟩; have zz0 := hy5.cell (p := ⟨y3.heap.size, 0, none⟩) (v := (.int .i64 0)) (by go_simp); have zz1 := hy5.cell (p := ⟨y3.heap.size, 1, none⟩) (v := (.int .i64 0)) (by go_simp); have yy0 := frozen_ext hy5 (p := ⟨y3.heap.size, 0, none⟩) (v := (.int .i64 0)) (by go_simp) (by go_simp); have yy1 := frozen_ext hy5 (p := ⟨y3.heap.size, 1, none⟩) (v := (.int .i64 0)) (by go_simp) (by go_simp); replace hy5 : Ext y3 y5 := Ext.trans (by with_reducible repeat (first | exact Ext.refl _ | assumption | refine Ext.drew ?_ | refine Ext.drewN ?_ _ | refine Ext.alloc ?_ _)) hy5)
            refine hK.out _ _ ?hS5051x0 (fun hHeld5051 => ?rest5051x0)
            case hS5051x0 => first | (first | with_reducible exact MKB.out _ _ _ _ (by first | exact Nat.le_refl _ | exact Ext.le (by with_reducible repeat (first | exact Ext.refl _ | assumption | refine Ext.drew ?_ | refine Ext.drewN ?_ _ | refine Ext.alloc ?_ _))) (by with_reducible repeat (first | exact Ext.refl _ | assumption | refine Ext.drew ?_ | refine Ext.drewN ?_ _ | refine Ext.alloc ?_ _)) | exact MKA.out _ (by with_reducible repeat (first | exact Ext.refl _ | assumption | refine Ext.drew ?_ | refine Ext.drewN ?_ _ | refine Ext.alloc ?_ _))) | ((try dsimp only); (first | with_reducible exact MKB.out _ _ _ _ (by first | exact Nat.le_refl _ | exact Ext.le (by with_reducible repeat (first | exact Ext.refl _ | assumption | refine Ext.drew ?_ | refine Ext.drewN ?_ _ | refine Ext.alloc ?_ _))) (by with_reducible repeat (first | exact Ext.refl _ | assumption | refine Ext.drew ?_ | refine Ext.drewN ?_ _ | refine Ext.alloc ?_ _)) | exact MKA.out _ (by with_reducible repeat (first | exact Ext.refl _ | assumption | refine Ext.drew ?_ | refine Ext.drewN ?_ _ | refine Ext.alloc ?_ _))))
            clear hK K
            clear hHeld5050
            (try simp only [PU])
            refine wpAnyH_ready (rs := [2]) (by kernel_rfl) (by simp) ?_
            refine AllReadyH.cons (o := ⟨(some 54), (.call { callee := (.value (.func 25)), args := #[(.tmp 52), (.tmp 53)], argTypes := #[28, 28] }), 41, "ref.go:110", #[⟨0, .data⟩, ⟨1, .data⟩, ⟨0, .chain⟩], none⟩) rfl (fun K hK => ?step5052x0) ?more5052x0
            case more5052x0 => exact AllReadyH.nil
            go_simp
            (refine (HSUB.out _).mono ?_; rintro e y6 ⟨⟨sa, sb, rfl, hvv⟩, hy6⟩; have HSV := Lib.hid hvv; clear hvv; replace yy0 := frozen_ext hy6 zz0 yy0; replace zz0 := hy6.cell zz0; replace yy1 := frozen_ext hy6 zz1 yy1; replace zz1 := hy6.cell zz1; replace hy6 : Ext y3 y6 := Ext.trans (by with_reducible repeat (first | exact Ext.refl _ | assumption | refine Ext.drew ?_ | refine Ext.drewN ?_ _ | refine Ext.alloc ?_ _)) hy6)
            refine hK.out _ _ ?hS5052x0 (fun hHeld5052 => ?rest5052x0)
            case hS5052x0 => first | (first | with_reducible exact MKB.out _ _ _ _ (by first | exact Nat.le_refl _ | exact Ext.le (by with_reducible repeat (first | exact Ext.refl _ | assumption | refine Ext.drew ?_ | refine Ext.drewN ?_ _ | refine Ext.alloc ?_ _))) (by with_reducible repeat (first | exact Ext.refl _ | assumption | refine Ext.drew ?_ | refine Ext.drewN ?_ _ | refine Ext.alloc ?_ _)) | exact MKA.out _ (by with_reducible repeat (first | exact Ext.refl _ | assumption | refine Ext.drew ?_ | refine Ext.drewN ?_ _ | refine Ext.alloc ?_ _))) | ((try dsimp only); (first | with_reducible exact MKB.out _ _ _ _ (by first | exact Nat.le_refl _ | exact Ext.le (by with_reducible repeat (first | exact Ext.refl _ | assumption | refine Ext.drew ?_ | refine Ext.drewN ?_ _ | refine Ext.alloc ?_ _))) (by with_reducible repeat (first | exact Ext.refl _ | assumption | refine Ext.drew ?_ | refine Ext.drewN ?_ _ | refine Ext.alloc ?_ _)) | exact MKA.out _ (by with_reducible repeat (first | exact Ext.refl _ | assumption | refine Ext.drew ?_ | refine Ext.drewN ?_ _ | refine Ext.alloc ?_ _))))
            clear hK K
            clear hHeld5051
            (try simp only [PU])
            refine wpAnyH_take (i := 3) (oi := ⟨(some 51), (.move (.tmp 54)), 41, "ref.go:110", #[⟨2, .data⟩], none⟩) (v := ?v5053) rfl (by kernel_rfl) (by kernel_rfl) (by kernel_rfl) (fun _ _ _ h => h) (Or.inl ⟨rfl, ?hy5053⟩) hHeld5052 ?rest5053
            case hy5053 => (intro w _; go_simp <;> rfl)
            (try simp only [PU])
            refine wpAnyH_take (i := 4) (oi := ⟨(some 55), (.extract (.tmp 51) 0), 28, "ref.go:110", #[⟨3, .data⟩], none⟩) (v := ?v5054) rfl (by kernel_rfl) (by kernel_rfl) (by kernel_rfl) (fun _ _ _ h => h) (Or.inl ⟨rfl, ?hy5054⟩) hHeld5052 ?rest5054
            case hy5054 => (intro w _; go_simp <;> rfl)
            (try simp only [PU])
            refine wpAnyH_take (i := 5) (oi := ⟨(some 56), (.extract (.tmp 51) 1), 4, "ref.go:110", #[⟨3, .data⟩, ⟨7, (.gcOnly Departure.lateStores)⟩], none⟩) (v := ?v5055) rfl (by kernel_rfl) (by kernel_rfl) (by kernel_rfl) (fun _ _ _ h => h) (Or.inl ⟨rfl, ?hy5055⟩) hHeld5052 ?rest5055
            case hy5055 => (intro w _; go_simp <;> rfl)
            (try simp only [PU])
            refine wpAnyH_ready (rs := [7]) (by kernel_rfl) (by simp) ?_
            refine AllReadyH.cons (o := ⟨none, (.store 28 (.tmp 13) (.tmp 55)), 0, "ref.go:110", #[⟨6, .data⟩, ⟨4, .data⟩, ⟨2, .chain⟩, ⟨0, .phase⟩, ⟨1, .phase⟩, ⟨2, .phase⟩, ⟨3, .phase⟩, ⟨4, .phase⟩, ⟨5, (.textOnly Departure.lateStores)⟩, ⟨6, .phase⟩], none⟩) rfl (fun K hK => ?step5056x0) ?more5056x0
            case more5056x0 => exact AllReadyH.nil
            go_simp
            refine hK.out _ _ ?hS5056x0 (fun hHeld5056 => ?rest5056x0)
            case hS5056x0 => first | (first | with_reducible exact MKB.out _ _ _ _ (by first | exact Nat.le_refl _ | exact Ext.le (by with_reducible repeat (first | exact Ext.refl _ | assumption | refine Ext.drew ?_ | refine Ext.drewN ?_ _ | refine Ext.alloc ?_ _))) (by with_reducible repeat (first | exact Ext.refl _ | assumption | refine Ext.drew ?_ | refine Ext.drewN ?_ _ | refine Ext.alloc ?_ _)) | exact MKA.out _ (by with_reducible repeat (first | exact Ext.refl _ | assumption | refine Ext.drew ?_ | refine Ext.drewN ?_ _ | refine Ext.alloc ?_ _))) | ((try dsimp only); (first | with_reducible exact MKB.out _ _ _ _ (by first | exact Nat.le_refl _ | exact Ext.le (by with_reducible repeat (first | exact Ext.refl _ | assumption | refine Ext.drew ?_ | refine Ext.drewN ?_ _ | refine Ext.alloc ?_ _))) (by with_reducible repeat (first | exact Ext.refl _ | assumption | refine Ext.drew ?_ | refine Ext.drewN ?_ _ | refine Ext.alloc ?_ _)) | exact MKA.out _ (by with_reducible repeat (first | exact Ext.refl _ | assumption | refine Ext.drew ?_ | refine Ext.drewN ?_ _ | refine Ext.alloc ?_ _))))
            clear hK K
            clear hHeld5052
            refine wpAnyH_take (i := 8) (oi := ⟨(some 14), (.assign (.tmp 56)), 4, "ref.go:110", #[⟨5, .data⟩, ⟨7, .chain⟩, ⟨0, .phase⟩, ⟨1, .phase⟩, ⟨2, .phase⟩, ⟨3, .phase⟩, ⟨4, .phase⟩, ⟨5, .phase⟩, ⟨6, .phase⟩, ⟨7, .phase⟩], none⟩) (v := ?v5057) rfl (by kernel_rfl) (by kernel_rfl) (by kernel_rfl) (fun _ _ _ h => h) (Or.inl ⟨rfl, ?hy5057⟩) hHeld5056 ?rest5057
            case hy5057 => (intro w _; go_simp <;> first | with_reducible rfl | rw [if_neg (by omega)] | rw [if_pos (by omega)])
            (try simp only [PU])
            refine wpAnyH_done (by kernel_rfl) ?_ _
            clear hHeld5056
            go_wp2_with fail
            go_meet
            case rel => exact ⟨y3.heap.size, sa, sb, rfl, rfl, HSV, by go_simp, by go_simp, (Ext.setCell (Ext.setCell (by with_reducible repeat (first | exact Ext.refl _ | assumption | refine Ext.drew ?_ | refine Ext.drewN ?_ _ | refine Ext.alloc ?_ _)) (by first | exact Nat.le_refl _ | exact Ext.le (by with_reducible repeat (first | exact Ext.refl _ | assumption | refine Ext.drew ?_ | refine Ext.drewN ?_ _ | refine Ext.alloc ?_ _))) _) (by first | exact Nat.le_refl _ | exact Ext.le (by with_reducible repeat (first | exact Ext.refl _ | assumption | refine Ext.drew ?_ | refine Ext.drewN ?_ _ | refine Ext.alloc ?_ _))) _)⟩
          go_simp
          (refine (r51_whole _ _).mono ?_; rintro e y5 ⟨rfl, hy5⟩; replace hy5 : Ext y3 y5 := Ext.trans (by with_reducible repeat (first | exact Ext.refl _ | assumption | refine Ext.drew ?_ | refine Ext.drewN ?_ _ | refine Ext.alloc ?_ _)) hy5)
          refine hK.out _ _ ?hS5050x0 (fun hHeld5050 => ?rest5050x0)
          case hS5050x0 => first | (first | with_reducible exact MKB.out _ _ _ _ (by first | exact Nat.le_refl _ | exact Ext.le (by with_reducible repeat (first | exact Ext.refl _ | assumption | refine Ext.drew ?_ | refine Ext.drewN ?_ _ | refine Ext.alloc ?_ _))) (by with_reducible repeat (first | exact Ext.refl _ | assumption | refine Ext.drew ?_ | refine Ext.drewN ?_ _ | refine Ext.alloc ?_ _)) | exact MKA.out _ (by with_reducible repeat (first | exact Ext.refl _ | assumption | refine Ext.drew ?_ | refine Ext.drewN ?_ _ | refine Ext.alloc ?_ _))) | ((try dsimp only); (first | with_reducible exact MKB.out _ _ _ _ (by first | exact Nat.le_refl _ | exact Ext.le (by with_reducible repeat (first | exact Ext.refl _ | assumption | refine Ext.drew ?_ | refine Ext.drewN ?_ _ | refine Ext.alloc ?_ _))) (by with_reducible repeat (first | exact Ext.refl _ | assumption | refine Ext.drew ?_ | refine Ext.drewN ?_ _ | refine Ext.alloc ?_ _)) | exact MKA.out _ (by with_reducible repeat (first | exact Ext.refl _ | assumption | refine Ext.drew ?_ | refine Ext.drewN ?_ _ | refine Ext.alloc ?_ _))))
          clear hK K
          clear hHeld
          (try simp only [PU])
          refine wpAnyH_ready (rs := [2, 6]) (by kernel_rfl) (by simp) ?_
          refine AllReadyH.cons (o := ⟨(some 54), (.call { callee := (.value (.func 25)), args := #[(.tmp 52), (.tmp 53)], argTypes := #[28, 28] }), 41, "ref.go:110", #[⟨0, .data⟩, ⟨1, .data⟩, ⟨0, .chain⟩], none⟩) rfl (fun K hK => ?step5058x0) ?more5058x0
          case more5058x0 =>
            refine AllReadyH.cons (o := ⟨(some 13), (.alloc 28), 0, "ref.go:110", #[], none⟩) rfl (fun K hK => ?step5058x1) ?more5058x1
            case more5058x1 => exact AllReadyH.nil
            go_simp
            refine hK.out _ _ ?hS5058x1 (fun hHeld5058 => ?rest5058x1)
            case hS5058x1 => first | (first | with_reducible exact MKB.out _ _ _ _ (by first | exact Nat.le_refl _ | exact Ext.le (by with_reducible repeat (first | exact Ext.refl _ | assumption | refine Ext.drew ?_ | refine Ext.drewN ?_ _ | refine Ext.alloc ?_ _))) (by with_reducible repeat (first | exact Ext.refl _ | assumption | refine Ext.drew ?_ | refine Ext.drewN ?_ _ | refine Ext.alloc ?_ _)) | exact MKA.out _ (by with_reducible repeat (first | exact Ext.refl _ | assumption | refine Ext.drew ?_ | refine Ext.drewN ?_ _ | refine Ext.alloc ?_ _))) | ((try dsimp only); (first | with_reducible exact MKB.out _ _ _ _ (by first | exact Nat.le_refl _ | exact Ext.le (by with_reducible repeat (first | exact Ext.refl _ | assumption | refine Ext.drew ?_ | refine Ext.drewN ?_ _ | refine Ext.alloc ?_ _))) (by with_reducible repeat (first | exact Ext.refl _ | assumption | refine Ext.drew ?_ | refine Ext.drewN ?_ _ | refine Ext.alloc ?_ _)) | exact MKA.out _ (by with_reducible repeat (first | exact Ext.refl _ | assumption | refine Ext.drew ?_ | refine Ext.drewN ?_ _ | refine Ext.alloc ?_ _))))
            clear hK K
            clear hHeld5050
            (try simp only [PU])
            refine wpAnyH_ready (rs := [2]) (by kernel_rfl) (by simp) ?_
            refine AllReadyH.cons (o := ⟨(some 54), (.call { callee := (.value (.func 25)), args := #[(.tmp 52), (.tmp 53)], argTypes := #[28, 28] }), 41, "ref.go:110", #[⟨0, .data⟩, ⟨1, .data⟩, ⟨0, .chain⟩], none⟩) rfl (fun K hK => ?step5059x0) ?more5059x0
            case more5059x0 => exact AllReadyH.nil
            go_simp
            (refine (HSUB.out _).mono ?_; rintro e y6 ⟨⟨sa, sb, rfl, hvv⟩, hy6⟩; have HSV := Lib.hid hvv; clear hvv; have zz0 := hy6.cell (p := ⟨y5.heap.size, 0, none⟩) (v := (.int .i64 0)) (by go_simp); have zz1 := hy6.cell (p := ⟨y5.heap.size, 1, none⟩) (v := (.int .i64 0)) (by go_simp); have yy0 := frozen_ext hy6 (p := ⟨y5.heap.size, 0, none⟩) (v := (.int .i64 0)) (by go_simp) (by go_simp); have yy1 := frozen_ext hy6 (p := ⟨y5.heap.size, 1, none⟩) (v := (.int .i64 0)) (by go_simp) (by go_simp); replace hy6 : Ext y3 y6 := Ext.trans (by with_reducible repeat (first | exact Ext.refl _ | assumption | refine Ext.drew ?_ | refine Ext.drewN ?_ _ | refine Ext.alloc ?_ _)) hy6)
            refine hK.out _ _ ?hS5059x0 (fun hHeld5059 => ?rest5059x0)
            case hS5059x0 => first | (first | with_reducible exact MKB.out _ _ _ _ (by first | exact Nat.le_refl _ | exact Ext.le (by with_reducible repeat (first | exact Ext.refl _ | assumption | refine Ext.drew ?_ | refine Ext.drewN ?_ _ | refine Ext.alloc ?_ _))) (by with_reducible repeat (first | exact Ext.refl _ | assumption | refine Ext.drew ?_ | refine Ext.drewN ?_ _ | refine Ext.alloc ?_ _)) | exact MKA.out _ (by with_reducible repeat (first | exact Ext.refl _ | assumption | refine Ext.drew ?_ | refine Ext.drewN ?_ _ | refine Ext.alloc ?_ _))) | ((try dsimp only); (first | with_reducible exact MKB.out _ _ _ _ (by first | exact Nat.le_refl _ | exact Ext.le (by with_reducible repeat (first | exact Ext.refl _ | assumption | refine Ext.drew ?_ | refine Ext.drewN ?_ _ | refine Ext.alloc ?_ _))) (by with_reducible repeat (first | exact Ext.refl _ | assumption | refine Ext.drew ?_ | refine Ext.drewN ?_ _ | refine Ext.alloc ?_ _)) | exact MKA.out _ (by with_reducible repeat (first | exact Ext.refl _ | assumption | refine Ext.drew ?_ | refine Ext.drewN ?_ _ | refine Ext.alloc ?_ _))))
            clear hK K
            clear hHeld5058
            (try simp only [PU])
            refine wpAnyH_take (i := 3) (oi := ⟨(some 51), (.move (.tmp 54)), 41, "ref.go:110", #[⟨2, .data⟩], none⟩) (v := ?v5060) rfl (by kernel_rfl) (by kernel_rfl) (by kernel_rfl) (fun _ _ _ h => h) (Or.inl ⟨rfl, ?hy5060⟩) hHeld5059 ?rest5060
            case hy5060 => (intro w _; go_simp <;> rfl)
            (try simp only [PU])
            refine wpAnyH_take (i := 4) (oi := ⟨(some 55), (.extract (.tmp 51) 0), 28, "ref.go:110", #[⟨3, .data⟩], none⟩) (v := ?v5061) rfl (by kernel_rfl) (by kernel_rfl) (by kernel_rfl) (fun _ _ _ h => h) (Or.inl ⟨rfl, ?hy5061⟩) hHeld5059 ?rest5061
            case hy5061 => (intro w _; go_simp <;> rfl)
            (try simp only [PU])
            refine wpAnyH_take (i := 5) (oi := ⟨(some 56), (.extract (.tmp 51) 1), 4, "ref.go:110", #[⟨3, .data⟩, ⟨7, (.gcOnly Departure.lateStores)⟩], none⟩) (v := ?v5062) rfl (by kernel_rfl) (by kernel_rfl) (by kernel_rfl) (fun _ _ _ h => h) (Or.inl ⟨rfl, ?hy5062⟩) hHeld5059 ?rest5062
            case hy5062 => (intro w _; go_simp <;> rfl)
            (try simp only [PU])
            refine wpAnyH_ready (rs := [7]) (by kernel_rfl) (by simp) ?_
            refine AllReadyH.cons (o := ⟨none, (.store 28 (.tmp 13) (.tmp 55)), 0, "ref.go:110", #[⟨6, .data⟩, ⟨4, .data⟩, ⟨2, .chain⟩, ⟨0, .phase⟩, ⟨1, .phase⟩, ⟨2, .phase⟩, ⟨3, .phase⟩, ⟨4, .phase⟩, ⟨5, (.textOnly Departure.lateStores)⟩, ⟨6, .phase⟩], none⟩) rfl (fun K hK => ?step5063x0) ?more5063x0
            case more5063x0 => exact AllReadyH.nil
            go_simp
            refine hK.out _ _ ?hS5063x0 (fun hHeld5063 => ?rest5063x0)
            case hS5063x0 => first | (first | with_reducible exact MKB.out _ _ _ _ (by first | exact Nat.le_refl _ | exact Ext.le (by with_reducible repeat (first | exact Ext.refl _ | assumption | refine Ext.drew ?_ | refine Ext.drewN ?_ _ | refine Ext.alloc ?_ _))) (by with_reducible repeat (first | exact Ext.refl _ | assumption | refine Ext.drew ?_ | refine Ext.drewN ?_ _ | refine Ext.alloc ?_ _)) | exact MKA.out _ (by with_reducible repeat (first | exact Ext.refl _ | assumption | refine Ext.drew ?_ | refine Ext.drewN ?_ _ | refine Ext.alloc ?_ _))) | ((try dsimp only); (first | with_reducible exact MKB.out _ _ _ _ (by first | exact Nat.le_refl _ | exact Ext.le (by with_reducible repeat (first | exact Ext.refl _ | assumption | refine Ext.drew ?_ | refine Ext.drewN ?_ _ | refine Ext.alloc ?_ _))) (by with_reducible repeat (first | exact Ext.refl _ | assumption | refine Ext.drew ?_ | refine Ext.drewN ?_ _ | refine Ext.alloc ?_ _)) | exact MKA.out _ (by with_reducible repeat (first | exact Ext.refl _ | assumption | refine Ext.drew ?_ | refine Ext.drewN ?_ _ | refine Ext.alloc ?_ _))))
            clear hK K
            clear hHeld5059
            refine wpAnyH_take (i := 8) (oi := ⟨(some 14), (.assign (.tmp 56)), 4, "ref.go:110", #[⟨5, .data⟩, ⟨7, .chain⟩, ⟨0, .phase⟩, ⟨1, .phase⟩, ⟨2, .phase⟩, ⟨3, .phase⟩, ⟨4, .phase⟩, ⟨5, .phase⟩, ⟨6, .phase⟩, ⟨7, .phase⟩], none⟩) (v := ?v5064) rfl (by kernel_rfl) (by kernel_rfl) (by kernel_rfl) (fun _ _ _ h => h) (Or.inl ⟨rfl, ?hy5064⟩) hHeld5063 ?rest5064
            case hy5064 => (intro w _; go_simp <;> first | with_reducible rfl | rw [if_neg (by omega)] | rw [if_pos (by omega)])
            (try simp only [PU])
            refine wpAnyH_done (by kernel_rfl) ?_ _
            clear hHeld5063
            go_wp2_with fail
            go_meet
            case rel => exact ⟨y5.heap.size, sa, sb, rfl, rfl, HSV, by go_simp, by go_simp, (Ext.setCell (Ext.setCell (by with_reducible repeat (first | exact Ext.refl _ | assumption | refine Ext.drew ?_ | refine Ext.drewN ?_ _ | refine Ext.alloc ?_ _)) (by first | exact Nat.le_refl _ | exact Ext.le (by with_reducible repeat (first | exact Ext.refl _ | assumption | refine Ext.drew ?_ | refine Ext.drewN ?_ _ | refine Ext.alloc ?_ _))) _) (by first | exact Nat.le_refl _ | exact Ext.le (by with_reducible repeat (first | exact Ext.refl _ | assumption | refine Ext.drew ?_ | refine Ext.drewN ?_ _ | refine Ext.alloc ?_ _))) _)⟩
          go_simp
          (refine (HSUB.out _).mono ?_; rintro e y6 ⟨⟨sa, sb, rfl, hvv⟩, hy6⟩; have HSV := Lib.hid hvv; clear hvv; replace hy6 : Ext y3 y6 := Ext.trans (by with_reducible repeat (first | exact Ext.refl _ | assumption | refine Ext.drew ?_ | refine Ext.drewN ?_ _ | refine Ext.alloc ?_ _)) hy6)
          refine hK.out _ _ ?hS5058x0 (fun hHeld5058 => ?rest5058x0)
          case hS5058x0 => first | (first | with_reducible exact MKB.out _ _ _ _ (by first | exact Nat.le_refl _ | exact Ext.le (by with_reducible repeat (first | exact Ext.refl _ | assumption | refine Ext.drew ?_ | refine Ext.drewN ?_ _ | refine Ext.alloc ?_ _))) (by with_reducible repeat (first | exact Ext.refl _ | assumption | refine Ext.drew ?_ | refine Ext.drewN ?_ _ | refine Ext.alloc ?_ _)) | exact MKA.out _ (by with_reducible repeat (first | exact Ext.refl _ | assumption | refine Ext.drew ?_ | refine Ext.drewN ?_ _ | refine Ext.alloc ?_ _))) | ((try dsimp only); (first | with_reducible exact MKB.out _ _ _ _ (by first | exact Nat.le_refl _ | exact Ext.le (by with_reducible repeat (first | exact Ext.refl _ | assumption | refine Ext.drew ?_ | refine Ext.drewN ?_ _ | refine Ext.alloc ?_ _))) (by with_reducible repeat (first | exact Ext.refl _ | assumption | refine Ext.drew ?_ | refine Ext.drewN ?_ _ | refine Ext.alloc ?_ _)) | exact MKA.out _ (by with_reducible repeat (first | exact Ext.refl _ | assumption | refine Ext.drew ?_ | refine Ext.drewN ?_ _ | refine Ext.alloc ?_ _))))
          clear hK K
          clear hHeld5050
          (try simp only [PU])
          refine wpAnyH_take (i := 3) (oi := ⟨(some 51), (.move (.tmp 54)), 41, "ref.go:110", #[⟨2, .data⟩], none⟩) (v := ?v5065) rfl (by kernel_rfl) (by kernel_rfl) (by kernel_rfl) (fun _ _ _ h => h) (Or.inl ⟨rfl, ?hy5065⟩) hHeld5058 ?rest5065
          case hy5065 => (intro w _; go_simp <;> rfl)
          (try simp only [PU])
          refine wpAnyH_take (i := 4) (oi := ⟨(some 55), (.extract (.tmp 51) 0), 28, "ref.go:110", #[⟨3, .data⟩], none⟩) (v := ?v5066) rfl (by kernel_rfl) (by kernel_rfl) (by kernel_rfl) (fun _ _ _ h => h) (Or.inl ⟨rfl, ?hy5066⟩) hHeld5058 ?rest5066
          case hy5066 => (intro w _; go_simp <;> rfl)
          (try simp only [PU])
          refine wpAnyH_take (i := 5) (oi := ⟨(some 56), (.extract (.tmp 51) 1), 4, "ref.go:110", #[⟨3, .data⟩, ⟨7, (.gcOnly Departure.lateStores)⟩], none⟩) (v := ?v5067) rfl (by kernel_rfl) (by kernel_rfl) (by kernel_rfl) (fun _ _ _ h => h) (Or.inl ⟨rfl, ?hy5067⟩) hHeld5058 ?rest5067
          case hy5067 => (intro w _; go_simp <;> rfl)
          (try simp only [PU])
          refine wpAnyH_ready (rs := [6]) (by kernel_rfl) (by simp) ?_
          refine AllReadyH.cons (o := ⟨(some 13), (.alloc 28), 0, "ref.go:110", #[], none⟩) rfl (fun K hK => ?step5068x0) ?more5068x0
          case more5068x0 => exact AllReadyH.nil
          go_simp
          refine hK.out _ _ ?hS5068x0 (fun hHeld5068 => ?rest5068x0)
          case hS5068x0 => first | (first | with_reducible exact MKB.out _ _ _ _ (by first | exact Nat.le_refl _ | exact Ext.le (by with_reducible repeat (first | exact Ext.refl _ | assumption | refine Ext.drew ?_ | refine Ext.drewN ?_ _ | refine Ext.alloc ?_ _))) (by with_reducible repeat (first | exact Ext.refl _ | assumption | refine Ext.drew ?_ | refine Ext.drewN ?_ _ | refine Ext.alloc ?_ _)) | exact MKA.out _ (by with_reducible repeat (first | exact Ext.refl _ | assumption | refine Ext.drew ?_ | refine Ext.drewN ?_ _ | refine Ext.alloc ?_ _))) | ((try dsimp only); (first | with_reducible exact MKB.out _ _ _ _ (by first | exact Nat.le_refl _ | exact Ext.le (by with_reducible repeat (first | exact Ext.refl _ | assumption | refine Ext.drew ?_ | refine Ext.drewN ?_ _ | refine Ext.alloc ?_ _))) (by with_reducible repeat (first | exact Ext.refl _ | assumption | refine Ext.drew ?_ | refine Ext.drewN ?_ _ | refine Ext.alloc ?_ _)) | exact MKA.out _ (by with_reducible repeat (first | exact Ext.refl _ | assumption | refine Ext.drew ?_ | refine Ext.drewN ?_ _ | refine Ext.alloc ?_ _))))
          clear hK K
          clear hHeld5058
          (try simp only [PU])
          refine wpAnyH_ready (rs := [7]) (by kernel_rfl) (by simp) ?_
          refine AllReadyH.cons (o := ⟨none, (.store 28 (.tmp 13) (.tmp 55)), 0, "ref.go:110", #[⟨6, .data⟩, ⟨4, .data⟩, ⟨2, .chain⟩, ⟨0, .phase⟩, ⟨1, .phase⟩, ⟨2, .phase⟩, ⟨3, .phase⟩, ⟨4, .phase⟩, ⟨5, (.textOnly Departure.lateStores)⟩, ⟨6, .phase⟩], none⟩) rfl (fun K hK => ?step5069x0) ?more5069x0
          case more5069x0 => exact AllReadyH.nil
          go_simp
          refine hK.out _ _ ?hS5069x0 (fun hHeld5069 => ?rest5069x0)
          case hS5069x0 => first | (first | with_reducible exact MKB.out _ _ _ _ (by first | exact Nat.le_refl _ | exact Ext.le (by with_reducible repeat (first | exact Ext.refl _ | assumption | refine Ext.drew ?_ | refine Ext.drewN ?_ _ | refine Ext.alloc ?_ _))) (by with_reducible repeat (first | exact Ext.refl _ | assumption | refine Ext.drew ?_ | refine Ext.drewN ?_ _ | refine Ext.alloc ?_ _)) | exact MKA.out _ (by with_reducible repeat (first | exact Ext.refl _ | assumption | refine Ext.drew ?_ | refine Ext.drewN ?_ _ | refine Ext.alloc ?_ _))) | ((try dsimp only); (first | with_reducible exact MKB.out _ _ _ _ (by first | exact Nat.le_refl _ | exact Ext.le (by with_reducible repeat (first | exact Ext.refl _ | assumption | refine Ext.drew ?_ | refine Ext.drewN ?_ _ | refine Ext.alloc ?_ _))) (by with_reducible repeat (first | exact Ext.refl _ | assumption | refine Ext.drew ?_ | refine Ext.drewN ?_ _ | refine Ext.alloc ?_ _)) | exact MKA.out _ (by with_reducible repeat (first | exact Ext.refl _ | assumption | refine Ext.drew ?_ | refine Ext.drewN ?_ _ | refine Ext.alloc ?_ _))))
          clear hK K
          clear hHeld5068
          refine wpAnyH_take (i := 8) (oi := ⟨(some 14), (.assign (.tmp 56)), 4, "ref.go:110", #[⟨5, .data⟩, ⟨7, .chain⟩, ⟨0, .phase⟩, ⟨1, .phase⟩, ⟨2, .phase⟩, ⟨3, .phase⟩, ⟨4, .phase⟩, ⟨5, .phase⟩, ⟨6, .phase⟩, ⟨7, .phase⟩], none⟩) (v := ?v5070) rfl (by kernel_rfl) (by kernel_rfl) (by kernel_rfl) (fun _ _ _ h => h) (Or.inl ⟨rfl, ?hy5070⟩) hHeld5069 ?rest5070
          case hy5070 => (intro w _; go_simp <;> first | with_reducible rfl | rw [if_neg (by omega)] | rw [if_pos (by omega)])
          (try simp only [PU])
          refine wpAnyH_done (by kernel_rfl) ?_ _
          clear hHeld5069
          go_wp2_with fail
          go_meet
          case rel => exact ⟨y6.heap.size, sa, sb, rfl, rfl, HSV, by go_simp, by go_simp, (by with_reducible repeat (first | exact Ext.refl _ | assumption | refine Ext.drew ?_ | refine Ext.drewN ?_ _ | refine Ext.alloc ?_ _))⟩
        case rest =>
          clear MKA MKB
          obtain ⟨g13, sa, sb, rfl, rfl, HSV, m0, m1, hx9⟩ := hcut
          have hE9 := hE8.trans hx9
          replace k0 := hx9.cell k0
          replace k1 := hx9.cell k1
          replace k2 := hx9.cell k2
          replace k3 := hx9.cell k3
          replace p0 := hx9.cell p0
          replace p1 := hx9.cell p1
          replace r0 := hx9.cell r0
          replace r1 := hx9.cell r1
          clear hE8 hx9 HSUB
          have HFAIL := Lib.hid (step_fail HSTEP.out (sab := (sa, sb)) (by rw [HSVE.out]; exact HSV.out))
          have HGO := Lib.hid (fun r b => step_on HSTEP.out (sab := (sa, sb)) (r := r) (b := b))
          have HDIV := Lib.hid (fun W => q3_Div (sa, sb) ((l.length : Int), 1) W)
          dsimp only at HDIV
          rw [HRVE.out] at HFAIL
          rw [HRVE.out] at HGO
          rw [HSVE.out] at HFAIL HGO
          generalize divO (sa, sb) ((l.length : Int), 1) = dv at *
          clear HSTEP HRVE HSVE
          obtain ⟨y9, hy9⟩ : ∃ V, V = wc := ⟨_, rfl⟩
          subst hy9
          have MKA := Lib.hid (fun V (e : Ext y9 V) => (⟨e.cell m0, e.cell m1, e⟩ : V.cell? ⟨g13, 0, none⟩ = some (.int .i64 sa) ∧ V.cell? ⟨g13, 1, none⟩ = some (.int .i64 sb) ∧ Ext y9 V))
          have MKB := Lib.hid (fun V gg u0 u1 (hgg : y9.heap.size ≤ gg) (e : Ext y9 V) => (⟨((cell_other (by have := block_lt_of_cell m0; simp at this; omega)).trans ((cell_other (by have := block_lt_of_cell m0; simp at this; omega)).trans (e.cell m0))), ((cell_other (by have := block_lt_of_cell m1; simp at this; omega)).trans ((cell_other (by have := block_lt_of_cell m1; simp at this; omega)).trans (e.cell m1))), (Ext.setCell (Ext.setCell e hgg _) hgg _)⟩ : ((V.setCell ⟨gg, 0, none⟩ u0).setCell ⟨gg, 1, none⟩ u1).cell? ⟨g13, 0, none⟩ = some (.int .i64 sa) ∧ ((V.setCell ⟨gg, 0, none⟩ u0).setCell ⟨gg, 1, none⟩ u1).cell? ⟨g13, 1, none⟩ = some (.int .i64 sb) ∧ Ext y9 ((V.setCell ⟨gg, 0, none⟩ u0).setCell ⟨gg, 1, none⟩ u1)))
          go_upto_region 10 with (fail)
          go_cut [15, 16] (fun p r wx => ∃ (gx : Nat) (a b : Int), p = .pointer (some ⟨gx, 0, none⟩) ∧ r = .bool dv.isSome ∧ Hid (∀ f, dv = some f → f = (a, b)) ∧ wx.cell? ⟨gx, 0, none⟩ = some (.int .i64 a) ∧ wx.cell? ⟨gx, 1, none⟩ = some (.int .i64 b) ∧ Ext y9 wx)
          case first =>
            refine wp_region_held_drew (S := (fun V => V.cell? ⟨g13, 0, none⟩ = some (.int .i64 sa) ∧ V.cell? ⟨g13, 1, none⟩ = some (.int .i64 sb) ∧ Ext y9 V)) (by kernel_rfl) ?hs5023 (fun hHeld => ?go5023)
            case hs5023 => (first | with_reducible exact MKB.out _ _ _ _ (by first | exact Nat.le_refl _ | exact Ext.le (by with_reducible repeat (first | exact Ext.refl _ | assumption | refine Ext.drew ?_ | refine Ext.drewN ?_ _ | refine Ext.alloc ?_ _))) (by with_reducible repeat (first | exact Ext.refl _ | assumption | refine Ext.drew ?_ | refine Ext.drewN ?_ _ | refine Ext.alloc ?_ _)) | exact MKA.out _ (by with_reducible repeat (first | exact Ext.refl _ | assumption | refine Ext.drew ?_ | refine Ext.drewN ?_ _ | refine Ext.alloc ?_ _)))
            refine wpAnyH_take (i := 0) (oi := ⟨(some 58), (.load 28 (.tmp 13)), 28, "ref.go:111", #[], none⟩) (v := ?v5024) rfl (by kernel_rfl) (by kernel_rfl) (by kernel_rfl) (fun _ _ _ h => h) (Or.inl ⟨rfl, ?hy5024⟩) hHeld ?rest5024
            case hy5024 => (intro w hSw; (try dsimp only at hSw); go_simp <;> first | with_reducible rfl | rw [if_neg (by omega)] | rw [if_pos (by omega)])
            (try simp only [PU])
            refine wpAnyH_take (i := 1) (oi := ⟨(some 59), (.move (.tmp 3)), 29, "ref.go:111", #[], none⟩) (v := ?v5025) rfl (by kernel_rfl) (by kernel_rfl) (by kernel_rfl) (fun _ _ _ h => h) (Or.inl ⟨rfl, ?hy5025⟩) hHeld ?rest5025
            case hy5025 => (intro w _; go_simp <;> rfl)
            (try simp only [PU])
            refine wpAnyH_take (i := 2) (oi := ⟨(some 60), (.call { callee := (.builtin .len), args := #[(.tmp 59)], argTypes := #[29] }), 3, "ref.go:111", #[⟨1, .data⟩], none⟩) (v := ?v5026) rfl (by kernel_rfl) (by kernel_rfl) (by kernel_rfl) (fun _ _ _ h => h) (Or.inl ⟨rfl, ?hy5026⟩) hHeld ?rest5026
            case hy5026 => (intro w _; go_simp <;> first | with_reducible rfl | rw [if_neg (by omega)] | rw [if_pos (by omega)])
            (try simp only [PU])
            refine wpAnyH_ready (rs := [3, 8]) (by kernel_rfl) (by simp) ?_
            refine AllReadyH.cons (o := ⟨(some 61), (.call { callee := (.value (.func 26)), args := #[(.tmp 60)], argTypes := #[3] }), 28, "ref.go:111", #[⟨2, .data⟩], none⟩) rfl (fun K hK => ?step5027x0) ?more5027x0
            case more5027x0 =>
              refine AllReadyH.cons (o := ⟨(some 15), (.alloc 28), 0, "ref.go:111", #[], none⟩) rfl (fun K hK => ?step5027x1) ?more5027x1
              case more5027x1 => exact AllReadyH.nil
              go_simp
              refine hK.out _ _ ?hS5027x1 (fun hHeld5027 => ?rest5027x1)
              case hS5027x1 => first | (first | with_reducible exact MKB.out _ _ _ _ (by first | exact Nat.le_refl _ | exact Ext.le (by with_reducible repeat (first | exact Ext.refl _ | assumption | refine Ext.drew ?_ | refine Ext.drewN ?_ _ | refine Ext.alloc ?_ _))) (by with_reducible repeat (first | exact Ext.refl _ | assumption | refine Ext.drew ?_ | refine Ext.drewN ?_ _ | refine Ext.alloc ?_ _)) | exact MKA.out _ (by with_reducible repeat (first | exact Ext.refl _ | assumption | refine Ext.drew ?_ | refine Ext.drewN ?_ _ | refine Ext.alloc ?_ _))) | ((try dsimp only); (first | with_reducible exact MKB.out _ _ _ _ (by first | exact Nat.le_refl _ | exact Ext.le (by with_reducible repeat (first | exact Ext.refl _ | assumption | refine Ext.drew ?_ | refine Ext.drewN ?_ _ | refine Ext.alloc ?_ _))) (by with_reducible repeat (first | exact Ext.refl _ | assumption | refine Ext.drew ?_ | refine Ext.drewN ?_ _ | refine Ext.alloc ?_ _)) | exact MKA.out _ (by with_reducible repeat (first | exact Ext.refl _ | assumption | refine Ext.drew ?_ | refine Ext.drewN ?_ _ | refine Ext.alloc ?_ _))))
              clear hK K
              clear hHeld
              (try simp only [PU])
              refine wpAnyH_ready (rs := [3]) (by kernel_rfl) (by simp) ?_
              refine AllReadyH.cons (o := ⟨(some 61), (.call { callee := (.value (.func 26)), args := #[(.tmp 60)], argTypes := #[3] }), 28, "ref.go:111", #[⟨2, .data⟩], none⟩) rfl (fun K hK => ?step5028x0) ?more5028x0
              case more5028x0 => exact AllReadyH.nil
              go_simp
              (refine (r51_whole _ _).mono ?_; rintro e y5 ⟨rfl, hy5⟩; have zz0 := hy5.cell (p := ⟨y9.heap.size, 0, none⟩) (v := (.int .i64 0)) (by go_simp); have zz1 := hy5.cell (p := ⟨y9.heap.size, 1, none⟩) (v := (.int .i64 0)) (by go_simp); have yy0 := frozen_ext hy5 (p := ⟨y9.heap.size, 0, none⟩) (v := (.int .i64 0)) (by go_simp) (by go_simp); have yy1 := frozen_ext hy5 (p := ⟨y9.heap.size, 1, none⟩) (v := (.int .i64 0)) (by go_simp) (by go_simp); replace hy5 : Ext y9 y5 := Ext.trans (by with_reducible repeat (first | exact Ext.refl _ | assumption | refine Ext.drew ?_ | refine Ext.drewN ?_ _ | refine Ext.alloc ?_ _)) hy5)
              refine hK.out _ _ ?hS5028x0 (fun hHeld5028 => ?rest5028x0)
              case hS5028x0 => first | (first | with_reducible exact MKB.out _ _ _ _ (by first | exact Nat.le_refl _ | exact Ext.le (by with_reducible repeat (first | exact Ext.refl _ | assumption | refine Ext.drew ?_ | refine Ext.drewN ?_ _ | refine Ext.alloc ?_ _))) (by with_reducible repeat (first | exact Ext.refl _ | assumption | refine Ext.drew ?_ | refine Ext.drewN ?_ _ | refine Ext.alloc ?_ _)) | exact MKA.out _ (by with_reducible repeat (first | exact Ext.refl _ | assumption | refine Ext.drew ?_ | refine Ext.drewN ?_ _ | refine Ext.alloc ?_ _))) | ((try dsimp only); (first | with_reducible exact MKB.out _ _ _ _ (by first | exact Nat.le_refl _ | exact Ext.le (by with_reducible repeat (first | exact Ext.refl _ | assumption | refine Ext.drew ?_ | refine Ext.drewN ?_ _ | refine Ext.alloc ?_ _))) (by with_reducible repeat (first | exact Ext.refl _ | assumption | refine Ext.drew ?_ | refine Ext.drewN ?_ _ | refine Ext.alloc ?_ _)) | exact MKA.out _ (by with_reducible repeat (first | exact Ext.refl _ | assumption | refine Ext.drew ?_ | refine Ext.drewN ?_ _ | refine Ext.alloc ?_ _))))
              clear hK K
              clear hHeld5027
              (try simp only [PU])
              refine wpAnyH_ready (rs := [4]) (by kernel_rfl) (by simp) ?_
              refine AllReadyH.cons (o := ⟨(some 62), (.call { callee := (.value (.func 27)), args := #[(.tmp 58), (.tmp 61)], argTypes := #[28, 28] }), 41, "ref.go:111", #[⟨0, .data⟩, ⟨3, .data⟩, ⟨3, .chain⟩], none⟩) rfl (fun K hK => ?step5029x0) ?more5029x0
              case more5029x0 => exact AllReadyH.nil
              go_simp
              (refine (HDIV.out _).mono ?_; rintro e y6 ⟨⟨ba, bb, rfl, hvv⟩, hy6⟩; have HBV := Lib.hid hvv; clear hvv; replace yy0 := frozen_ext hy6 zz0 yy0; replace zz0 := hy6.cell zz0; replace yy1 := frozen_ext hy6 zz1 yy1; replace zz1 := hy6.cell zz1; replace hy6 : Ext y9 y6 := Ext.trans (by with_reducible repeat (first | exact Ext.refl _ | assumption | refine Ext.drew ?_ | refine Ext.drewN ?_ _ | refine Ext.alloc ?_ _)) hy6)
              refine hK.out _ _ ?hS5029x0 (fun hHeld5029 => ?rest5029x0)
              case hS5029x0 => first | (first | with_reducible exact MKB.out _ _ _ _ (by first | exact Nat.le_refl _ | exact Ext.le (by with_reducible repeat (first | exact Ext.refl _ | assumption | refine Ext.drew ?_ | refine Ext.drewN ?_ _ | refine Ext.alloc ?_ _))) (by with_reducible repeat (first | exact Ext.refl _ | assumption | refine Ext.drew ?_ | refine Ext.drewN ?_ _ | refine Ext.alloc ?_ _)) | exact MKA.out _ (by with_reducible repeat (first | exact Ext.refl _ | assumption | refine Ext.drew ?_ | refine Ext.drewN ?_ _ | refine Ext.alloc ?_ _))) | ((try dsimp only); (first | with_reducible exact MKB.out _ _ _ _ (by first | exact Nat.le_refl _ | exact Ext.le (by with_reducible repeat (first | exact Ext.refl _ | assumption | refine Ext.drew ?_ | refine Ext.drewN ?_ _ | refine Ext.alloc ?_ _))) (by with_reducible repeat (first | exact Ext.refl _ | assumption | refine Ext.drew ?_ | refine Ext.drewN ?_ _ | refine Ext.alloc ?_ _)) | exact MKA.out _ (by with_reducible repeat (first | exact Ext.refl _ | assumption | refine Ext.drew ?_ | refine Ext.drewN ?_ _ | refine Ext.alloc ?_ _))))
              clear hK K
              clear hHeld5028
              (try simp only [PU])
              refine wpAnyH_take (i := 5) (oi := ⟨(some 57), (.move (.tmp 62)), 41, "ref.go:111", #[⟨4, .data⟩], none⟩) (v := ?v5030) rfl (by kernel_rfl) (by kernel_rfl) (by kernel_rfl) (fun _ _ _ h => h) (Or.inl ⟨rfl, ?hy5030⟩) hHeld5029 ?rest5030
              case hy5030 => (intro w _; go_simp <;> rfl)
              (try simp only [PU])
              refine wpAnyH_take (i := 6) (oi := ⟨(some 63), (.extract (.tmp 57) 0), 28, "ref.go:111", #[⟨5, .data⟩], none⟩) (v := ?v5031) rfl (by kernel_rfl) (by kernel_rfl) (by kernel_rfl) (fun _ _ _ h => h) (Or.inl ⟨rfl, ?hy5031⟩) hHeld5029 ?rest5031
              case hy5031 => (intro w _; go_simp <;> rfl)
              (try simp only [PU])
              refine wpAnyH_take (i := 7) (oi := ⟨(some 64), (.extract (.tmp 57) 1), 4, "ref.go:111", #[⟨5, .data⟩, ⟨9, (.gcOnly Departure.lateStores)⟩], none⟩) (v := ?v5032) rfl (by kernel_rfl) (by kernel_rfl) (by kernel_rfl) (fun _ _ _ h => h) (Or.inl ⟨rfl, ?hy5032⟩) hHeld5029 ?rest5032
              case hy5032 => (intro w _; go_simp <;> rfl)
              (try simp only [PU])
              refine wpAnyH_ready (rs := [9]) (by kernel_rfl) (by simp) ?_
              refine AllReadyH.cons (o := ⟨none, (.store 28 (.tmp 15) (.tmp 63)), 0, "ref.go:111", #[⟨8, .data⟩, ⟨6, .data⟩, ⟨4, .chain⟩, ⟨0, .phase⟩, ⟨1, .phase⟩, ⟨2, .phase⟩, ⟨3, .phase⟩, ⟨4, .phase⟩, ⟨5, .phase⟩, ⟨6, .phase⟩, ⟨7, (.textOnly Departure.lateStores)⟩, ⟨8, .phase⟩], none⟩) rfl (fun K hK => ?step5033x0) ?more5033x0
              case more5033x0 => exact AllReadyH.nil
              go_simp
              refine hK.out _ _ ?hS5033x0 (fun hHeld5033 => ?rest5033x0)
              case hS5033x0 => first | (first | with_reducible exact MKB.out _ _ _ _ (by first | exact Nat.le_refl _ | exact Ext.le (by with_reducible repeat (first | exact Ext.refl _ | assumption | refine Ext.drew ?_ | refine Ext.drewN ?_ _ | refine Ext.alloc ?_ _))) (by with_reducible repeat (first | exact Ext.refl _ | assumption | refine Ext.drew ?_ | refine Ext.drewN ?_ _ | refine Ext.alloc ?_ _)) | exact MKA.out _ (by with_reducible repeat (first | exact Ext.refl _ | assumption | refine Ext.drew ?_ | refine Ext.drewN ?_ _ | refine Ext.alloc ?_ _))) | ((try dsimp only); (first | with_reducible exact MKB.out _ _ _ _ (by first | exact Nat.le_refl _ | exact Ext.le (by with_reducible repeat (first | exact Ext.refl _ | assumption | refine Ext.drew ?_ | refine Ext.drewN ?_ _ | refine Ext.alloc ?_ _))) (by with_reducible repeat (first | exact Ext.refl _ | assumption | refine Ext.drew ?_ | refine Ext.drewN ?_ _ | refine Ext.alloc ?_ _)) | exact MKA.out _ (by with_reducible repeat (first | exact Ext.refl _ | assumption | refine Ext.drew ?_ | refine Ext.drewN ?_ _ | refine Ext.alloc ?_ _))))
              clear hK K
              clear hHeld5029
              refine wpAnyH_take (i := 10) (oi := ⟨(some 16), (.assign (.tmp 64)), 4, "ref.go:111", #[⟨7, .data⟩, ⟨9, .chain⟩, ⟨0, .phase⟩, ⟨1, .phase⟩, ⟨2, .phase⟩, ⟨3, .phase⟩, ⟨4, .phase⟩, ⟨5, .phase⟩, ⟨6, .phase⟩, ⟨7, .phase⟩, ⟨8, .phase⟩, ⟨9, .phase⟩], none⟩) (v := ?v5034) rfl (by kernel_rfl) (by kernel_rfl) (by kernel_rfl) (fun _ _ _ h => h) (Or.inl ⟨rfl, ?hy5034⟩) hHeld5033 ?rest5034
              case hy5034 => (intro w _; go_simp <;> first | with_reducible rfl | rw [if_neg (by omega)] | rw [if_pos (by omega)])
              (try simp only [PU])
              refine wpAnyH_done (by kernel_rfl) ?_ _
              clear hHeld5033
              go_wp2_with fail
              go_meet
              case rel => exact ⟨y9.heap.size, ba, bb, rfl, rfl, HBV, by go_simp, by go_simp, (Ext.setCell (Ext.setCell (by with_reducible repeat (first | exact Ext.refl _ | assumption | refine Ext.drew ?_ | refine Ext.drewN ?_ _ | refine Ext.alloc ?_ _)) (by first | exact Nat.le_refl _ | exact Ext.le (by with_reducible repeat (first | exact Ext.refl _ | assumption | refine Ext.drew ?_ | refine Ext.drewN ?_ _ | refine Ext.alloc ?_ _))) _) (by first | exact Nat.le_refl _ | exact Ext.le (by with_reducible repeat (first | exact Ext.refl _ | assumption | refine Ext.drew ?_ | refine Ext.drewN ?_ _ | refine Ext.alloc ?_ _))) _)⟩
            go_simp
            (refine (r51_whole _ _).mono ?_; rintro e y5 ⟨rfl, hy5⟩; replace hy5 : Ext y9 y5 := Ext.trans (by with_reducible repeat (first | exact Ext.refl _ | assumption | refine Ext.drew ?_ | refine Ext.drewN ?_ _ | refine Ext.alloc ?_ _)) hy5)
            refine hK.out _ _ ?hS5027x0 (fun hHeld5027 => ?rest5027x0)
            case hS5027x0 => first | (first | with_reducible exact MKB.out _ _ _ _ (by first | exact Nat.le_refl _ | exact Ext.le (by with_reducible repeat (first | exact Ext.refl _ | assumption | refine Ext.drew ?_ | refine Ext.drewN ?_ _ | refine Ext.alloc ?_ _))) (by with_reducible repeat (first | exact Ext.refl _ | assumption | refine Ext.drew ?_ | refine Ext.drewN ?_ _ | refine Ext.alloc ?_ _)) | exact MKA.out _ (by with_reducible repeat (first | exact Ext.refl _ | assumption | refine Ext.drew ?_ | refine Ext.drewN ?_ _ | refine Ext.alloc ?_ _))) | ((try dsimp only); (first | with_reducible exact MKB.out _ _ _ _ (by first | exact Nat.le_refl _ | exact Ext.le (by with_reducible repeat (first | exact Ext.refl _ | assumption | refine Ext.drew ?_ | refine Ext.drewN ?_ _ | refine Ext.alloc ?_ _))) (by with_reducible repeat (first | exact Ext.refl _ | assumption | refine Ext.drew ?_ | refine Ext.drewN ?_ _ | refine Ext.alloc ?_ _)) | exact MKA.out _ (by with_reducible repeat (first | exact Ext.refl _ | assumption | refine Ext.drew ?_ | refine Ext.drewN ?_ _ | refine Ext.alloc ?_ _))))
            clear hK K
            clear hHeld
            (try simp only [PU])
            refine wpAnyH_ready (rs := [4, 8]) (by kernel_rfl) (by simp) ?_
            refine AllReadyH.cons (o := ⟨(some 62), (.call { callee := (.value (.func 27)), args := #[(.tmp 58), (.tmp 61)], argTypes := #[28, 28] }), 41, "ref.go:111", #[⟨0, .data⟩, ⟨3, .data⟩, ⟨3, .chain⟩], none⟩) rfl (fun K hK => ?step5035x0) ?more5035x0
            case more5035x0 =>
              refine AllReadyH.cons (o := ⟨(some 15), (.alloc 28), 0, "ref.go:111", #[], none⟩) rfl (fun K hK => ?step5035x1) ?more5035x1
              case more5035x1 => exact AllReadyH.nil
              go_simp
              refine hK.out _ _ ?hS5035x1 (fun hHeld5035 => ?rest5035x1)
              case hS5035x1 => first | (first | with_reducible exact MKB.out _ _ _ _ (by first | exact Nat.le_refl _ | exact Ext.le (by with_reducible repeat (first | exact Ext.refl _ | assumption | refine Ext.drew ?_ | refine Ext.drewN ?_ _ | refine Ext.alloc ?_ _))) (by with_reducible repeat (first | exact Ext.refl _ | assumption | refine Ext.drew ?_ | refine Ext.drewN ?_ _ | refine Ext.alloc ?_ _)) | exact MKA.out _ (by with_reducible repeat (first | exact Ext.refl _ | assumption | refine Ext.drew ?_ | refine Ext.drewN ?_ _ | refine Ext.alloc ?_ _))) | ((try dsimp only); (first | with_reducible exact MKB.out _ _ _ _ (by first | exact Nat.le_refl _ | exact Ext.le (by with_reducible repeat (first | exact Ext.refl _ | assumption | refine Ext.drew ?_ | refine Ext.drewN ?_ _ | refine Ext.alloc ?_ _))) (by with_reducible repeat (first | exact Ext.refl _ | assumption | refine Ext.drew ?_ | refine Ext.drewN ?_ _ | refine Ext.alloc ?_ _)) | exact MKA.out _ (by with_reducible repeat (first | exact Ext.refl _ | assumption | refine Ext.drew ?_ | refine Ext.drewN ?_ _ | refine Ext.alloc ?_ _))))
              clear hK K
              clear hHeld5027
              (try simp only [PU])
              refine wpAnyH_ready (rs := [4]) (by kernel_rfl) (by simp) ?_
              refine AllReadyH.cons (o := ⟨(some 62), (.call { callee := (.value (.func 27)), args := #[(.tmp 58), (.tmp 61)], argTypes := #[28, 28] }), 41, "ref.go:111", #[⟨0, .data⟩, ⟨3, .data⟩, ⟨3, .chain⟩], none⟩) rfl (fun K hK => ?step5036x0) ?more5036x0
              case more5036x0 => exact AllReadyH.nil
              go_simp
              (refine (HDIV.out _).mono ?_; rintro e y6 ⟨⟨ba, bb, rfl, hvv⟩, hy6⟩; have HBV := Lib.hid hvv; clear hvv; have zz0 := hy6.cell (p := ⟨y5.heap.size, 0, none⟩) (v := (.int .i64 0)) (by go_simp); have zz1 := hy6.cell (p := ⟨y5.heap.size, 1, none⟩) (v := (.int .i64 0)) (by go_simp); have yy0 := frozen_ext hy6 (p := ⟨y5.heap.size, 0, none⟩) (v := (.int .i64 0)) (by go_simp) (by go_simp); have yy1 := frozen_ext hy6 (p := ⟨y5.heap.size, 1, none⟩) (v := (.int .i64 0)) (by go_simp) (by go_simp); replace hy6 : Ext y9 y6 := Ext.trans (by with_reducible repeat (first | exact Ext.refl _ | assumption | refine Ext.drew ?_ | refine Ext.drewN ?_ _ | refine Ext.alloc ?_ _)) hy6)
              refine hK.out _ _ ?hS5036x0 (fun hHeld5036 => ?rest5036x0)
              case hS5036x0 => first | (first | with_reducible exact MKB.out _ _ _ _ (by first | exact Nat.le_refl _ | exact Ext.le (by with_reducible repeat (first | exact Ext.refl _ | assumption | refine Ext.drew ?_ | refine Ext.drewN ?_ _ | refine Ext.alloc ?_ _))) (by with_reducible repeat (first | exact Ext.refl _ | assumption | refine Ext.drew ?_ | refine Ext.drewN ?_ _ | refine Ext.alloc ?_ _)) | exact MKA.out _ (by with_reducible repeat (first | exact Ext.refl _ | assumption | refine Ext.drew ?_ | refine Ext.drewN ?_ _ | refine Ext.alloc ?_ _))) | ((try dsimp only); (first | with_reducible exact MKB.out _ _ _ _ (by first | exact Nat.le_refl _ | exact Ext.le (by with_reducible repeat (first | exact Ext.refl _ | assumption | refine Ext.drew ?_ | refine Ext.drewN ?_ _ | refine Ext.alloc ?_ _))) (by with_reducible repeat (first | exact Ext.refl _ | assumption | refine Ext.drew ?_ | refine Ext.drewN ?_ _ | refine Ext.alloc ?_ _)) | exact MKA.out _ (by with_reducible repeat (first | exact Ext.refl _ | assumption | refine Ext.drew ?_ | refine Ext.drewN ?_ _ | refine Ext.alloc ?_ _))))
              clear hK K
              clear hHeld5035
              (try simp only [PU])
              refine wpAnyH_take (i := 5) (oi := ⟨(some 57), (.move (.tmp 62)), 41, "ref.go:111", #[⟨4, .data⟩], none⟩) (v := ?v5037) rfl (by kernel_rfl) (by kernel_rfl) (by kernel_rfl) (fun _ _ _ h => h) (Or.inl ⟨rfl, ?hy5037⟩) hHeld5036 ?rest5037
              case hy5037 => (intro w _; go_simp <;> rfl)
              (try simp only [PU])
              refine wpAnyH_take (i := 6) (oi := ⟨(some 63), (.extract (.tmp 57) 0), 28, "ref.go:111", #[⟨5, .data⟩], none⟩) (v := ?v5038) rfl (by kernel_rfl) (by kernel_rfl) (by kernel_rfl) (fun _ _ _ h => h) (Or.inl ⟨rfl, ?hy5038⟩) hHeld5036 ?rest5038
              case hy5038 => (intro w _; go_simp <;> rfl)
              (try simp only [PU])
              refine wpAnyH_take (i := 7) (oi := ⟨(some 64), (.extract (.tmp 57) 1), 4, "ref.go:111", #[⟨5, .data⟩, ⟨9, (.gcOnly Departure.lateStores)⟩], none⟩) (v := ?v5039) rfl (by kernel_rfl) (by kernel_rfl) (by kernel_rfl) (fun _ _ _ h => h) (Or.inl ⟨rfl, ?hy5039⟩) hHeld5036 ?rest5039
              case hy5039 => (intro w _; go_simp <;> rfl)
              (try simp only [PU])
              refine wpAnyH_ready (rs := [9]) (by kernel_rfl) (by simp) ?_
              refine AllReadyH.cons (o := ⟨none, (.store 28 (.tmp 15) (.tmp 63)), 0, "ref.go:111", #[⟨8, .data⟩, ⟨6, .data⟩, ⟨4, .chain⟩, ⟨0, .phase⟩, ⟨1, .phase⟩, ⟨2, .phase⟩, ⟨3, .phase⟩, ⟨4, .phase⟩, ⟨5, .phase⟩, ⟨6, .phase⟩, ⟨7, (.textOnly Departure.lateStores)⟩, ⟨8, .phase⟩], none⟩) rfl (fun K hK => ?step5040x0) ?more5040x0
              case more5040x0 => exact AllReadyH.nil
              go_simp
              refine hK.out _ _ ?hS5040x0 (fun hHeld5040 => ?rest5040x0)
              case hS5040x0 => first | (first | with_reducible exact MKB.out _ _ _ _ (by first | exact Nat.le_refl _ | exact Ext.le (by with_reducible repeat (first | exact Ext.refl _ | assumption | refine Ext.drew ?_ | refine Ext.drewN ?_ _ | refine Ext.alloc ?_ _))) (by with_reducible repeat (first | exact Ext.refl _ | assumption | refine Ext.drew ?_ | refine Ext.drewN ?_ _ | refine Ext.alloc ?_ _)) | exact MKA.out _ (by with_reducible repeat (first | exact Ext.refl _ | assumption | refine Ext.drew ?_ | refine Ext.drewN ?_ _ | refine Ext.alloc ?_ _))) | ((try dsimp only); (first | with_reducible exact MKB.out _ _ _ _ (by first | exact Nat.le_refl _ | exact Ext.le (by with_reducible repeat (first | exact Ext.refl _ | assumption | refine Ext.drew ?_ | refine Ext.drewN ?_ _ | refine Ext.alloc ?_ _))) (by with_reducible repeat (first | exact Ext.refl _ | assumption | refine Ext.drew ?_ | refine Ext.drewN ?_ _ | refine Ext.alloc ?_ _)) | exact MKA.out _ (by with_reducible repeat (first | exact Ext.refl _ | assumption | refine Ext.drew ?_ | refine Ext.drewN ?_ _ | refine Ext.alloc ?_ _))))
              clear hK K
              clear hHeld5036
              refine wpAnyH_take (i := 10) (oi := ⟨(some 16), (.assign (.tmp 64)), 4, "ref.go:111", #[⟨7, .data⟩, ⟨9, .chain⟩, ⟨0, .phase⟩, ⟨1, .phase⟩, ⟨2, .phase⟩, ⟨3, .phase⟩, ⟨4, .phase⟩, ⟨5, .phase⟩, ⟨6, .phase⟩, ⟨7, .phase⟩, ⟨8, .phase⟩, ⟨9, .phase⟩], none⟩) (v := ?v5041) rfl (by kernel_rfl) (by kernel_rfl) (by kernel_rfl) (fun _ _ _ h => h) (Or.inl ⟨rfl, ?hy5041⟩) hHeld5040 ?rest5041
              case hy5041 => (intro w _; go_simp <;> first | with_reducible rfl | rw [if_neg (by omega)] | rw [if_pos (by omega)])
              (try simp only [PU])
              refine wpAnyH_done (by kernel_rfl) ?_ _
              clear hHeld5040
              go_wp2_with fail
              go_meet
              case rel => exact ⟨y5.heap.size, ba, bb, rfl, rfl, HBV, by go_simp, by go_simp, (Ext.setCell (Ext.setCell (by with_reducible repeat (first | exact Ext.refl _ | assumption | refine Ext.drew ?_ | refine Ext.drewN ?_ _ | refine Ext.alloc ?_ _)) (by first | exact Nat.le_refl _ | exact Ext.le (by with_reducible repeat (first | exact Ext.refl _ | assumption | refine Ext.drew ?_ | refine Ext.drewN ?_ _ | refine Ext.alloc ?_ _))) _) (by first | exact Nat.le_refl _ | exact Ext.le (by with_reducible repeat (first | exact Ext.refl _ | assumption | refine Ext.drew ?_ | refine Ext.drewN ?_ _ | refine Ext.alloc ?_ _))) _)⟩
            go_simp
            (refine (HDIV.out _).mono ?_; rintro e y6 ⟨⟨ba, bb, rfl, hvv⟩, hy6⟩; have HBV := Lib.hid hvv; clear hvv; replace hy6 : Ext y9 y6 := Ext.trans (by with_reducible repeat (first | exact Ext.refl _ | assumption | refine Ext.drew ?_ | refine Ext.drewN ?_ _ | refine Ext.alloc ?_ _)) hy6)
            refine hK.out _ _ ?hS5035x0 (fun hHeld5035 => ?rest5035x0)
            case hS5035x0 => first | (first | with_reducible exact MKB.out _ _ _ _ (by first | exact Nat.le_refl _ | exact Ext.le (by with_reducible repeat (first | exact Ext.refl _ | assumption | refine Ext.drew ?_ | refine Ext.drewN ?_ _ | refine Ext.alloc ?_ _))) (by with_reducible repeat (first | exact Ext.refl _ | assumption | refine Ext.drew ?_ | refine Ext.drewN ?_ _ | refine Ext.alloc ?_ _)) | exact MKA.out _ (by with_reducible repeat (first | exact Ext.refl _ | assumption | refine Ext.drew ?_ | refine Ext.drewN ?_ _ | refine Ext.alloc ?_ _))) | ((try dsimp only); (first | with_reducible exact MKB.out _ _ _ _ (by first | exact Nat.le_refl _ | exact Ext.le (by with_reducible repeat (first | exact Ext.refl _ | assumption | refine Ext.drew ?_ | refine Ext.drewN ?_ _ | refine Ext.alloc ?_ _))) (by with_reducible repeat (first | exact Ext.refl _ | assumption | refine Ext.drew ?_ | refine Ext.drewN ?_ _ | refine Ext.alloc ?_ _)) | exact MKA.out _ (by with_reducible repeat (first | exact Ext.refl _ | assumption | refine Ext.drew ?_ | refine Ext.drewN ?_ _ | refine Ext.alloc ?_ _))))
            clear hK K
            clear hHeld5027
            (try simp only [PU])
            refine wpAnyH_take (i := 5) (oi := ⟨(some 57), (.move (.tmp 62)), 41, "ref.go:111", #[⟨4, .data⟩], none⟩) (v := ?v5042) rfl (by kernel_rfl) (by kernel_rfl) (by kernel_rfl) (fun _ _ _ h => h) (Or.inl ⟨rfl, ?hy5042⟩) hHeld5035 ?rest5042
            case hy5042 => (intro w _; go_simp <;> rfl)
            (try simp only [PU])
            refine wpAnyH_take (i := 6) (oi := ⟨(some 63), (.extract (.tmp 57) 0), 28, "ref.go:111", #[⟨5, .data⟩], none⟩) (v := ?v5043) rfl (by kernel_rfl) (by kernel_rfl) (by kernel_rfl) (fun _ _ _ h => h) (Or.inl ⟨rfl, ?hy5043⟩) hHeld5035 ?rest5043
            case hy5043 => (intro w _; go_simp <;> rfl)
            (try simp only [PU])
            refine wpAnyH_take (i := 7) (oi := ⟨(some 64), (.extract (.tmp 57) 1), 4, "ref.go:111", #[⟨5, .data⟩, ⟨9, (.gcOnly Departure.lateStores)⟩], none⟩) (v := ?v5044) rfl (by kernel_rfl) (by kernel_rfl) (by kernel_rfl) (fun _ _ _ h => h) (Or.inl ⟨rfl, ?hy5044⟩) hHeld5035 ?rest5044
            case hy5044 => (intro w _; go_simp <;> rfl)
            (try simp only [PU])
            refine wpAnyH_ready (rs := [8]) (by kernel_rfl) (by simp) ?_
            refine AllReadyH.cons (o := ⟨(some 15), (.alloc 28), 0, "ref.go:111", #[], none⟩) rfl (fun K hK => ?step5045x0) ?more5045x0
            case more5045x0 => exact AllReadyH.nil
            go_simp
            refine hK.out _ _ ?hS5045x0 (fun hHeld5045 => ?rest5045x0)
            case hS5045x0 => first | (first | with_reducible exact MKB.out _ _ _ _ (by first | exact Nat.le_refl _ | exact Ext.le (by with_reducible repeat (first | exact Ext.refl _ | assumption | refine Ext.drew ?_ | refine Ext.drewN ?_ _ | refine Ext.alloc ?_ _))) (by with_reducible repeat (first | exact Ext.refl _ | assumption | refine Ext.drew ?_ | refine Ext.drewN ?_ _ | refine Ext.alloc ?_ _)) | exact MKA.out _ (by with_reducible repeat (first | exact Ext.refl _ | assumption | refine Ext.drew ?_ | refine Ext.drewN ?_ _ | refine Ext.alloc ?_ _))) | ((try dsimp only); (first | with_reducible exact MKB.out _ _ _ _ (by first | exact Nat.le_refl _ | exact Ext.le (by with_reducible repeat (first | exact Ext.refl _ | assumption | refine Ext.drew ?_ | refine Ext.drewN ?_ _ | refine Ext.alloc ?_ _))) (by with_reducible repeat (first | exact Ext.refl _ | assumption | refine Ext.drew ?_ | refine Ext.drewN ?_ _ | refine Ext.alloc ?_ _)) | exact MKA.out _ (by with_reducible repeat (first | exact Ext.refl _ | assumption | refine Ext.drew ?_ | refine Ext.drewN ?_ _ | refine Ext.alloc ?_ _))))
            clear hK K
            clear hHeld5035
            (try simp only [PU])
            refine wpAnyH_ready (rs := [9]) (by kernel_rfl) (by simp) ?_
            refine AllReadyH.cons (o := ⟨none, (.store 28 (.tmp 15) (.tmp 63)), 0, "ref.go:111", #[⟨8, .data⟩, ⟨6, .data⟩, ⟨4, .chain⟩, ⟨0, .phase⟩, ⟨1, .phase⟩, ⟨2, .phase⟩, ⟨3, .phase⟩, ⟨4, .phase⟩, ⟨5, .phase⟩, ⟨6, .phase⟩, ⟨7, (.textOnly Departure.lateStores)⟩, ⟨8, .phase⟩], none⟩) rfl (fun K hK => ?step5046x0) ?more5046x0
            case more5046x0 => exact AllReadyH.nil
            go_simp
            refine hK.out _ _ ?hS5046x0 (fun hHeld5046 => ?rest5046x0)
            case hS5046x0 => first | (first | with_reducible exact MKB.out _ _ _ _ (by first | exact Nat.le_refl _ | exact Ext.le (by with_reducible repeat (first | exact Ext.refl _ | assumption | refine Ext.drew ?_ | refine Ext.drewN ?_ _ | refine Ext.alloc ?_ _))) (by with_reducible repeat (first | exact Ext.refl _ | assumption | refine Ext.drew ?_ | refine Ext.drewN ?_ _ | refine Ext.alloc ?_ _)) | exact MKA.out _ (by with_reducible repeat (first | exact Ext.refl _ | assumption | refine Ext.drew ?_ | refine Ext.drewN ?_ _ | refine Ext.alloc ?_ _))) | ((try dsimp only); (first | with_reducible exact MKB.out _ _ _ _ (by first | exact Nat.le_refl _ | exact Ext.le (by with_reducible repeat (first | exact Ext.refl _ | assumption | refine Ext.drew ?_ | refine Ext.drewN ?_ _ | refine Ext.alloc ?_ _))) (by with_reducible repeat (first | exact Ext.refl _ | assumption | refine Ext.drew ?_ | refine Ext.drewN ?_ _ | refine Ext.alloc ?_ _)) | exact MKA.out _ (by with_reducible repeat (first | exact Ext.refl _ | assumption | refine Ext.drew ?_ | refine Ext.drewN ?_ _ | refine Ext.alloc ?_ _))))
            clear hK K
            clear hHeld5045
            refine wpAnyH_take (i := 10) (oi := ⟨(some 16), (.assign (.tmp 64)), 4, "ref.go:111", #[⟨7, .data⟩, ⟨9, .chain⟩, ⟨0, .phase⟩, ⟨1, .phase⟩, ⟨2, .phase⟩, ⟨3, .phase⟩, ⟨4, .phase⟩, ⟨5, .phase⟩, ⟨6, .phase⟩, ⟨7, .phase⟩, ⟨8, .phase⟩, ⟨9, .phase⟩], none⟩) (v := ?v5047) rfl (by kernel_rfl) (by kernel_rfl) (by kernel_rfl) (fun _ _ _ h => h) (Or.inl ⟨rfl, ?hy5047⟩) hHeld5046 ?rest5047
            case hy5047 => (intro w _; go_simp <;> first | with_reducible rfl | rw [if_neg (by omega)] | rw [if_pos (by omega)])
            (try simp only [PU])
            refine wpAnyH_done (by kernel_rfl) ?_ _
            clear hHeld5046
            go_wp2_with fail
            go_meet
            case rel => exact ⟨y6.heap.size, ba, bb, rfl, rfl, HBV, by go_simp, by go_simp, (by with_reducible repeat (first | exact Ext.refl _ | assumption | refine Ext.drew ?_ | refine Ext.drewN ?_ _ | refine Ext.alloc ?_ _))⟩
          case rest =>
            clear MKA MKB
            obtain ⟨g15, ba, bb, rfl, rfl, HBV, b0, b1, hx10⟩ := hcut
            have hE10 := hE9.trans hx10
            replace k0 := hx10.cell k0
            replace k1 := hx10.cell k1
            replace k2 := hx10.cell k2
            replace k3 := hx10.cell k3
            replace p0 := hx10.cell p0
            replace p1 := hx10.cell p1
            replace r0 := hx10.cell r0
            replace r1 := hx10.cell r1
            clear m0 m1 HDIV hE9 hx10
            cases hrv : rv with
            | none =>
              have HT := Lib.hid (HFAIL.out (.inl hrv))
              clear HFAIL
              go_wp2_with fail
              go_ret2
              rw [HT.out]
              exact shErr_nil _ _ _ (hx2.trans (hE3.trans hE10))
            | some rf =>
              cases hsv : sv with
              | none =>
                have HT := Lib.hid (HFAIL.out (.inr (.inl hsv)))
                clear HFAIL
                go_wp2_with fail
                go_ret2
                rw [HT.out]
                exact shErr_nil _ _ _ (hx2.trans (hE3.trans hE10))
              | some sf =>
                cases hdv : dv with
                | none =>
                  have HT := Lib.hid (HFAIL.out (.inr (.inr hdv)))
                  clear HFAIL
                  go_wp2_with fail
                  go_ret2
                  rw [HT.out]
                  exact shErr_nil _ _ _ (hx2.trans (hE3.trans hE10))
                | some df =>
                  obtain rfl := HRV.out rf hrv
                  obtain rfl := HSV.out sf hsv
                  obtain rfl := HBV.out df hdv
                  have HOO := Lib.hid (HGO.out _ _ hrv hsv hdv)
                  clear HFAIL HRV HBV HSV HGO
                  have HNN := Lib.hid (fun (h : outsO (outFn types g.edges l (ra, rb) (ba, bb) damp) l = none) => (by rw [HOO.out, h] : stepP g types damp l = ([], 24)))
                  have HS0 := Lib.hid (fun W : World => World.ownsRow_nil W W.heap.size 46 3)
                  have hEw := hx2.trans (hE3.trans hE10)
                  obtain ⟨w10, hw10⟩ : ∃ V, V = wc := ⟨_, rfl⟩
                  subst hw10
                  simp only [Option.isSome_some]
                  go_wp2_with fail
                  go_loopw [17, 18] (fun v u W => ∃ (k : Nat) (O : List Sh), u = .int .i64 k ∧ k ≤ l.length ∧ Hid (outsO (outFn types g.edges l (ra, rb) (ba, bb) damp) (l.take k) = some O) ∧ Hid (W.ownsRow w10.heap.size 46 3 v k (O.flatMap Sh.cells)) ∧ Ext w10 W) (fun _ u _ => l.length - (intOf u).toNat)
                  case atStart => exact ⟨0, [], rfl, Nat.zero_le _, Lib.hid rfl, Lib.hid (HS0.out _), Ext.refl _⟩
                  case round =>
                    clear HS0
                    obtain ⟨k, O, rfl, hk, hO, HO, hEr⟩ := hrel
                    by_cases hlt : k < l.length
                    · obtain ⟨bs, os, rfl, hc⟩ := HL.out.at_ hlt
                      obtain ⟨-, hs0, -, -⟩ := hc k hlt
                      have HB1 := Lib.hid (show bs < w10.heap.size from block_lt_of_cell (hE10.cell (hE3.cell hs0)))
                      replace hs0 := hEr.cell (hE10.cell (hE3.cell hs0))
                      have q1 : (k : Int) < (l.length : Int) := by omega
                      replace k0 := hEr.cell k0
                      replace k1 := hEr.cell k1
                      replace k2 := hEr.cell k2
                      replace k3 := hEr.cell k3
                      replace p0 := hEr.cell p0
                      replace p1 := hEr.cell p1
                      replace r0 := hEr.cell r0
                      replace r1 := hEr.cell r1
                      replace b0 := hEr.cell b0
                      replace b1 := hEr.cell b1
                      have HNEX := Lib.hid (fun f h => outs_next (f := f) hO.out hlt h)
                      have HNON := Lib.hid (fun h => HNN.out (outs_no hO.out hlt h))
                      have HIN := Lib.hid (fun W (e' : Ext wr W) => HINR.out l[k]!.id W ((hE3.trans hE10).trans (hEr.trans e')))
                      clear hc HNN hO HINR HOO
                      generalize l[k]! = x at *
                      generalize inO types (fun i => degN types g.edges i) l g.edges x.id = iv at *
                      have MKA := Lib.hid (fun V (e : Ext wr V) => (⟨e.cell k0, e.cell k1, e.cell k2, e.cell k3, e.cell hs0, e⟩ : V.cell? ⟨q, 0, none⟩ = some (.slice A g.nodes.length c) ∧ V.cell? ⟨q, 1, none⟩ = some (.slice B g.edges.length d) ∧ V.cell? ⟨q, 2, none⟩ = some (.int .i64 g.nn) ∧ V.cell? ⟨q, 3, none⟩ = some (.int .i64 g.ne) ∧ V.cell? ⟨bs, os + k * 3, none⟩ = some (.int .i64 x.id) ∧ Ext wr V))
                      have MKB := Lib.hid (fun V gg u0 u1 (hgg : wr.heap.size ≤ gg) (e : Ext wr V) => (⟨((cell_other (by have := block_lt_of_cell k0; simp at this; omega)).trans ((cell_other (by have := block_lt_of_cell k0; simp at this; omega)).trans (e.cell k0))), ((cell_other (by have := block_lt_of_cell k1; simp at this; omega)).trans ((cell_other (by have := block_lt_of_cell k1; simp at this; omega)).trans (e.cell k1))), ((cell_other (by have := block_lt_of_cell k2; simp at this; omega)).trans ((cell_other (by have := block_lt_of_cell k2; simp at this; omega)).trans (e.cell k2))), ((cell_other (by have := block_lt_of_cell k3; simp at this; omega)).trans ((cell_other (by have := block_lt_of_cell k3; simp at this; omega)).trans (e.cell k3))), ((cell_other (by have := block_lt_of_cell hs0; simp at this; omega)).trans ((cell_other (by have := block_lt_of_cell hs0; simp at this; omega)).trans (e.cell hs0))), (Ext.setCell (Ext.setCell e hgg _) hgg _)⟩ : ((V.setCell ⟨gg, 0, none⟩ u0).setCell ⟨gg, 1, none⟩ u1).cell? ⟨q, 0, none⟩ = some (.slice A g.nodes.length c) ∧ ((V.setCell ⟨gg, 0, none⟩ u0).setCell ⟨gg, 1, none⟩ u1).cell? ⟨q, 1, none⟩ = some (.slice B g.edges.length d) ∧ ((V.setCell ⟨gg, 0, none⟩ u0).setCell ⟨gg, 1, none⟩ u1).cell? ⟨q, 2, none⟩ = some (.int .i64 g.nn) ∧ ((V.setCell ⟨gg, 0, none⟩ u0).setCell ⟨gg, 1, none⟩ u1).cell? ⟨q, 3, none⟩ = some (.int .i64 g.ne) ∧ ((V.setCell ⟨gg, 0, none⟩ u0).setCell ⟨gg, 1, none⟩ u1).cell? ⟨bs, os + k * 3, none⟩ = some (.int .i64 x.id) ∧ Ext wr ((V.setCell ⟨gg, 0, none⟩ u0).setCell ⟨gg, 1, none⟩ u1)))
                      go_upto_region 17 with (fail)
                      go_cut [19, 20] from 75 to 134 (fun p r wx => ∃ (gx : Nat) (a b : Int), p = .pointer (some ⟨gx, 0, none⟩) ∧ r = .bool iv.isSome ∧ Hid (∀ f, iv = some f → f = (a, b)) ∧ wx.cell? ⟨gx, 0, none⟩ = some (.int .i64 a) ∧ wx.cell? ⟨gx, 1, none⟩ = some (.int .i64 b) ∧ Ext wr wx)
                      case first =>
                        refine wp_region_held_drew (S := (fun V => V.cell? ⟨q, 0, none⟩ = some (.slice A g.nodes.length c) ∧ V.cell? ⟨q, 1, none⟩ = some (.slice B g.edges.length d) ∧ V.cell? ⟨q, 2, none⟩ = some (.int .i64 g.nn) ∧ V.cell? ⟨q, 3, none⟩ = some (.int .i64 g.ne) ∧ V.cell? ⟨bs, os + k * 3, none⟩ = some (.int .i64 x.id) ∧ Ext wr V)) (by kernel_rfl) ?hs5001 (fun hHeld => ?go5001)
                        case hs5001 => (first | with_reducible exact MKB.out _ _ _ _ (by first | exact Nat.le_refl _ | exact Ext.le (by with_reducible repeat (first | exact Ext.refl _ | assumption | refine Ext.drew ?_ | refine Ext.drewN ?_ _ | refine Ext.alloc ?_ _))) (by with_reducible repeat (first | exact Ext.refl _ | assumption | refine Ext.drew ?_ | refine Ext.drewN ?_ _ | refine Ext.alloc ?_ _)) | exact MKA.out _ (by with_reducible repeat (first | exact Ext.refl _ | assumption | refine Ext.drew ?_ | refine Ext.drewN ?_ _ | refine Ext.alloc ?_ _)))
                        refine wpAnyH_take (i := 0) (oi := ⟨(some 82), (.load 25 (.tmp 4)), 25, "ref.go:117", #[], none⟩) (v := ?v5002) rfl (by kernel_rfl) (by kernel_rfl) (by kernel_rfl) (fun _ _ _ h => h) (Or.inl ⟨rfl, ?hy5002⟩) hHeld ?rest5002
                        case hy5002 => (intro w hSw; (try dsimp only at hSw); go_simp <;> first | with_reducible rfl | rw [if_neg (by omega)] | rw [if_pos (by omega)])
                        (try simp only [PU])
                        refine wpAnyH_take (i := 1) (oi := ⟨(some 83), (.move (.tmp 1)), 26, "ref.go:117", #[], none⟩) (v := ?v5003) rfl (by kernel_rfl) (by kernel_rfl) (by kernel_rfl) (fun _ _ _ h => h) (Or.inl ⟨rfl, ?hy5003⟩) hHeld ?rest5003
                        case hy5003 => (intro w _; go_simp <;> rfl)
                        (try simp only [PU])
                        refine wpAnyH_take (i := 2) (oi := ⟨(some 84), (.move (.tmp 3)), 29, "ref.go:117", #[], none⟩) (v := ?v5004) rfl (by kernel_rfl) (by kernel_rfl) (by kernel_rfl) (fun _ _ _ h => h) (Or.inl ⟨rfl, ?hy5004⟩) hHeld ?rest5004
                        case hy5004 => (intro w _; go_simp <;> rfl)
                        (try simp only [PU])
                        refine wpAnyH_take (i := 3) (oi := ⟨(some 85), (.move (.tmp 3)), 29, "ref.go:117", #[], none⟩) (v := ?v5005) rfl (by kernel_rfl) (by kernel_rfl) (by kernel_rfl) (fun _ _ _ h => h) (Or.inl ⟨rfl, ?hy5005⟩) hHeld ?rest5005
                        case hy5005 => (intro w _; go_simp <;> rfl)
                        (try simp only [PU])
                        refine wpAnyH_take (i := 4) (oi := ⟨(some 86), (.move (.tmp 18)), 3, "ref.go:117", #[], none⟩) (v := ?v5006) rfl (by kernel_rfl) (by kernel_rfl) (by kernel_rfl) (fun _ _ _ h => h) (Or.inl ⟨rfl, ?hy5006⟩) hHeld ?rest5006
                        case hy5006 => (intro w _; go_simp <;> rfl)
                        (try simp only [PU])
                        refine wpAnyH_take (i := 5) (oi := ⟨(some 87), (.indexAddr 29 (.tmp 85) (.tmp 86)), 0, "ref.go:117", #[⟨3, .data⟩, ⟨4, .data⟩], none⟩) (v := ?v5007) rfl (by kernel_rfl) (by kernel_rfl) (by kernel_rfl) (fun _ _ _ h => h) (Or.inl ⟨rfl, ?hy5007⟩) hHeld ?rest5007
                        case hy5007 => (intro w _; go_simp <;> first | with_reducible rfl | rw [if_neg (by omega)] | rw [if_pos (by omega)])
                        (try simp only [PU])
                        refine wpAnyH_take (i := 6) (oi := ⟨(some 88), (.fieldAddr 46 (.tmp 87) 0), 0, "ref.go:117", #[⟨5, .data⟩], none⟩) (v := ?v5008) rfl (by kernel_rfl) (by kernel_rfl) (by kernel_rfl) (fun _ _ _ h => h) (Or.inl ⟨rfl, ?hy5008⟩) hHeld ?rest5008
                        case hy5008 => (intro w _; go_simp <;> rfl)
                        (try simp only [PU])
                        refine wpAnyH_take (i := 7) (oi := ⟨(some 89), (.load 3 (.tmp 88)), 3, "ref.go:117", #[⟨6, .data⟩], none⟩) (v := ?v5009) rfl (by kernel_rfl) (by kernel_rfl) (by kernel_rfl) (fun _ _ _ h => h) (Or.inl ⟨rfl, ?hy5009⟩) hHeld ?rest5009
                        case hy5009 => (intro w hSw; (try dsimp only at hSw); go_simp <;> first | with_reducible rfl | rw [if_neg (by omega)] | rw [if_pos (by omega)])
                        (try simp only [PU])
                        refine wpAnyH_ready (rs := [8, 12]) (by kernel_rfl) (by simp) ?_
                        refine AllReadyH.cons (o := ⟨(some 90), (.call { callee := (.value (.func 28)), args := #[(.tmp 82), (.tmp 83), (.tmp 84), (.tmp 89)], argTypes := #[25, 26, 29, 3] }), 41, "ref.go:117", #[⟨0, .data⟩, ⟨1, .data⟩, ⟨2, .data⟩, ⟨7, .data⟩], none⟩) rfl (fun K hK => ?step5010x0) ?more5010x0
                        case more5010x0 =>
                          refine AllReadyH.cons (o := ⟨(some 19), (.alloc 28), 0, "ref.go:117", #[], none⟩) rfl (fun K hK => ?step5010x1) ?more5010x1
                          case more5010x1 => exact AllReadyH.nil
                          go_simp
                          refine hK.out _ _ ?hS5010x1 (fun hHeld5010 => ?rest5010x1)
                          case hS5010x1 => first | (first | with_reducible exact MKB.out _ _ _ _ (by first | exact Nat.le_refl _ | exact Ext.le (by with_reducible repeat (first | exact Ext.refl _ | assumption | refine Ext.drew ?_ | refine Ext.drewN ?_ _ | refine Ext.alloc ?_ _))) (by with_reducible repeat (first | exact Ext.refl _ | assumption | refine Ext.drew ?_ | refine Ext.drewN ?_ _ | refine Ext.alloc ?_ _)) | exact MKA.out _ (by with_reducible repeat (first | exact Ext.refl _ | assumption | refine Ext.drew ?_ | refine Ext.drewN ?_ _ | refine Ext.alloc ?_ _))) | ((try dsimp only); (first | with_reducible exact MKB.out _ _ _ _ (by first | exact Nat.le_refl _ | exact Ext.le (by with_reducible repeat (first | exact Ext.refl _ | assumption | refine Ext.drew ?_ | refine Ext.drewN ?_ _ | refine Ext.alloc ?_ _))) (by with_reducible repeat (first | exact Ext.refl _ | assumption | refine Ext.drew ?_ | refine Ext.drewN ?_ _ | refine Ext.alloc ?_ _)) | exact MKA.out _ (by with_reducible repeat (first | exact Ext.refl _ | assumption | refine Ext.drew ?_ | refine Ext.drewN ?_ _ | refine Ext.alloc ?_ _))))
                          clear hK K
                          clear hHeld
                          (try simp only [PU])
                          refine wpAnyH_ready (rs := [8]) (by kernel_rfl) (by simp) ?_
                          refine AllReadyH.cons (o := ⟨(some 90), (.call { callee := (.value (.func 28)), args := #[(.tmp 82), (.tmp 83), (.tmp 84), (.tmp 89)], argTypes := #[25, 26, 29, 3] }), 41, "ref.go:117", #[⟨0, .data⟩, ⟨1, .data⟩, ⟨2, .data⟩, ⟨7, .data⟩], none⟩) rfl (fun K hK => ?step5011x0) ?more5011x0
                          case more5011x0 => exact AllReadyH.nil
                          go_simp
                          (refine (HIN.out _ (by with_reducible repeat (first | exact Ext.refl _ | assumption | refine Ext.drew ?_ | refine Ext.drewN ?_ _ | refine Ext.alloc ?_ _))).mono ?_; rintro e y5 ⟨⟨xa, xb, rfl, hvv⟩, hy5⟩; have HXV := Lib.hid hvv; clear hvv; have zz0 := hy5.cell (p := ⟨wr.heap.size, 0, none⟩) (v := (.int .i64 0)) (by go_simp); have zz1 := hy5.cell (p := ⟨wr.heap.size, 1, none⟩) (v := (.int .i64 0)) (by go_simp); have yy0 := frozen_ext hy5 (p := ⟨wr.heap.size, 0, none⟩) (v := (.int .i64 0)) (by go_simp) (by go_simp); have yy1 := frozen_ext hy5 (p := ⟨wr.heap.size, 1, none⟩) (v := (.int .i64 0)) (by go_simp) (by go_simp); replace hy5 : Ext wr y5 := Ext.trans (by with_reducible repeat (first | exact Ext.refl _ | assumption | refine Ext.drew ?_ | refine Ext.drewN ?_ _ | refine Ext.alloc ?_ _)) hy5)
                          refine hK.out _ _ ?hS5011x0 (fun hHeld5011 => ?rest5011x0)
                          case hS5011x0 => first | (first | with_reducible exact MKB.out _ _ _ _ (by first | exact Nat.le_refl _ | exact Ext.le (by with_reducible repeat (first | exact Ext.refl _ | assumption | refine Ext.drew ?_ | refine Ext.drewN ?_ _ | refine Ext.alloc ?_ _))) (by with_reducible repeat (first | exact Ext.refl _ | assumption | refine Ext.drew ?_ | refine Ext.drewN ?_ _ | refine Ext.alloc ?_ _)) | exact MKA.out _ (by with_reducible repeat (first | exact Ext.refl _ | assumption | refine Ext.drew ?_ | refine Ext.drewN ?_ _ | refine Ext.alloc ?_ _))) | ((try dsimp only); (first | with_reducible exact MKB.out _ _ _ _ (by first | exact Nat.le_refl _ | exact Ext.le (by with_reducible repeat (first | exact Ext.refl _ | assumption | refine Ext.drew ?_ | refine Ext.drewN ?_ _ | refine Ext.alloc ?_ _))) (by with_reducible repeat (first | exact Ext.refl _ | assumption | refine Ext.drew ?_ | refine Ext.drewN ?_ _ | refine Ext.alloc ?_ _)) | exact MKA.out _ (by with_reducible repeat (first | exact Ext.refl _ | assumption | refine Ext.drew ?_ | refine Ext.drewN ?_ _ | refine Ext.alloc ?_ _))))
                          clear hK K
                          clear hHeld5010
                          (try simp only [PU])
                          refine wpAnyH_take (i := 9) (oi := ⟨(some 81), (.move (.tmp 90)), 41, "ref.go:117", #[⟨8, .data⟩], none⟩) (v := ?v5012) rfl (by kernel_rfl) (by kernel_rfl) (by kernel_rfl) (fun _ _ _ h => h) (Or.inl ⟨rfl, ?hy5012⟩) hHeld5011 ?rest5012
                          case hy5012 => (intro w _; go_simp <;> rfl)
                          (try simp only [PU])
                          refine wpAnyH_take (i := 10) (oi := ⟨(some 91), (.extract (.tmp 81) 0), 28, "ref.go:117", #[⟨9, .data⟩], none⟩) (v := ?v5013) rfl (by kernel_rfl) (by kernel_rfl) (by kernel_rfl) (fun _ _ _ h => h) (Or.inl ⟨rfl, ?hy5013⟩) hHeld5011 ?rest5013
                          case hy5013 => (intro w _; go_simp <;> rfl)
                          (try simp only [PU])
                          refine wpAnyH_take (i := 11) (oi := ⟨(some 92), (.extract (.tmp 81) 1), 4, "ref.go:117", #[⟨9, .data⟩, ⟨13, (.gcOnly Departure.lateStores)⟩], none⟩) (v := ?v5014) rfl (by kernel_rfl) (by kernel_rfl) (by kernel_rfl) (fun _ _ _ h => h) (Or.inl ⟨rfl, ?hy5014⟩) hHeld5011 ?rest5014
                          case hy5014 => (intro w _; go_simp <;> rfl)
                          (try simp only [PU])
                          refine wpAnyH_ready (rs := [13]) (by kernel_rfl) (by simp) ?_
                          refine AllReadyH.cons (o := ⟨none, (.store 28 (.tmp 19) (.tmp 91)), 0, "ref.go:117", #[⟨12, .data⟩, ⟨10, .data⟩, ⟨8, .chain⟩, ⟨0, .phase⟩, ⟨1, .phase⟩, ⟨2, .phase⟩, ⟨3, .phase⟩, ⟨4, .phase⟩, ⟨5, .phase⟩, ⟨6, .phase⟩, ⟨7, .phase⟩, ⟨8, .phase⟩, ⟨9, .phase⟩, ⟨10, .phase⟩, ⟨11, (.textOnly Departure.lateStores)⟩, ⟨12, .phase⟩], none⟩) rfl (fun K hK => ?step5015x0) ?more5015x0
                          case more5015x0 => exact AllReadyH.nil
                          go_simp
                          refine hK.out _ _ ?hS5015x0 (fun hHeld5015 => ?rest5015x0)
                          case hS5015x0 => first | (first | with_reducible exact MKB.out _ _ _ _ (by first | exact Nat.le_refl _ | exact Ext.le (by with_reducible repeat (first | exact Ext.refl _ | assumption | refine Ext.drew ?_ | refine Ext.drewN ?_ _ | refine Ext.alloc ?_ _))) (by with_reducible repeat (first | exact Ext.refl _ | assumption | refine Ext.drew ?_ | refine Ext.drewN ?_ _ | refine Ext.alloc ?_ _)) | exact MKA.out _ (by with_reducible repeat (first | exact Ext.refl _ | assumption | refine Ext.drew ?_ | refine Ext.drewN ?_ _ | refine Ext.alloc ?_ _))) | ((try dsimp only); (first | with_reducible exact MKB.out _ _ _ _ (by first | exact Nat.le_refl _ | exact Ext.le (by with_reducible repeat (first | exact Ext.refl _ | assumption | refine Ext.drew ?_ | refine Ext.drewN ?_ _ | refine Ext.alloc ?_ _))) (by with_reducible repeat (first | exact Ext.refl _ | assumption | refine Ext.drew ?_ | refine Ext.drewN ?_ _ | refine Ext.alloc ?_ _)) | exact MKA.out _ (by with_reducible repeat (first | exact Ext.refl _ | assumption | refine Ext.drew ?_ | refine Ext.drewN ?_ _ | refine Ext.alloc ?_ _))))
                          clear hK K
                          clear hHeld5011
                          refine wpAnyH_take (i := 14) (oi := ⟨(some 20), (.assign (.tmp 92)), 4, "ref.go:117", #[⟨11, .data⟩, ⟨13, .chain⟩, ⟨0, .phase⟩, ⟨1, .phase⟩, ⟨2, .phase⟩, ⟨3, .phase⟩, ⟨4, .phase⟩, ⟨5, .phase⟩, ⟨6, .phase⟩, ⟨7, .phase⟩, ⟨8, .phase⟩, ⟨9, .phase⟩, ⟨10, .phase⟩, ⟨11, .phase⟩, ⟨12, .phase⟩, ⟨13, .phase⟩], none⟩) (v := ?v5016) rfl (by kernel_rfl) (by kernel_rfl) (by kernel_rfl) (fun _ _ _ h => h) (Or.inl ⟨rfl, ?hy5016⟩) hHeld5015 ?rest5016
                          case hy5016 => (intro w _; go_simp <;> first | with_reducible rfl | rw [if_neg (by omega)] | rw [if_pos (by omega)])
                          (try simp only [PU])
                          refine wpAnyH_done (by kernel_rfl) ?_ _
                          clear hHeld5015
                          go_wp2_with fail
                          go_meet
                          case rel => exact ⟨wr.heap.size, xa, xb, rfl, rfl, HXV, by go_simp, by go_simp, (Ext.setCell (Ext.setCell (by with_reducible repeat (first | exact Ext.refl _ | assumption | refine Ext.drew ?_ | refine Ext.drewN ?_ _ | refine Ext.alloc ?_ _)) (by first | exact Nat.le_refl _ | exact Ext.le (by with_reducible repeat (first | exact Ext.refl _ | assumption | refine Ext.drew ?_ | refine Ext.drewN ?_ _ | refine Ext.alloc ?_ _))) _) (by first | exact Nat.le_refl _ | exact Ext.le (by with_reducible repeat (first | exact Ext.refl _ | assumption | refine Ext.drew ?_ | refine Ext.drewN ?_ _ | refine Ext.alloc ?_ _))) _)⟩
                        go_simp
                        (refine (HIN.out _ (by with_reducible repeat (first | exact Ext.refl _ | assumption | refine Ext.drew ?_ | refine Ext.drewN ?_ _ | refine Ext.alloc ?_ _))).mono ?_; rintro e y5 ⟨⟨xa, xb, rfl, hvv⟩, hy5⟩; have HXV := Lib.hid hvv; clear hvv; replace hy5 : Ext wr y5 := Ext.trans (by with_reducible repeat (first | exact Ext.refl _ | assumption | refine Ext.drew ?_ | refine Ext.drewN ?_ _ | refine Ext.alloc ?_ _)) hy5)
                        refine hK.out _ _ ?hS5010x0 (fun hHeld5010 => ?rest5010x0)
                        case hS5010x0 => first | (first | with_reducible exact MKB.out _ _ _ _ (by first | exact Nat.le_refl _ | exact Ext.le (by with_reducible repeat (first | exact Ext.refl _ | assumption | refine Ext.drew ?_ | refine Ext.drewN ?_ _ | refine Ext.alloc ?_ _))) (by with_reducible repeat (first | exact Ext.refl _ | assumption | refine Ext.drew ?_ | refine Ext.drewN ?_ _ | refine Ext.alloc ?_ _)) | exact MKA.out _ (by with_reducible repeat (first | exact Ext.refl _ | assumption | refine Ext.drew ?_ | refine Ext.drewN ?_ _ | refine Ext.alloc ?_ _))) | ((try dsimp only); (first | with_reducible exact MKB.out _ _ _ _ (by first | exact Nat.le_refl _ | exact Ext.le (by with_reducible repeat (first | exact Ext.refl _ | assumption | refine Ext.drew ?_ | refine Ext.drewN ?_ _ | refine Ext.alloc ?_ _))) (by with_reducible repeat (first | exact Ext.refl _ | assumption | refine Ext.drew ?_ | refine Ext.drewN ?_ _ | refine Ext.alloc ?_ _)) | exact MKA.out _ (by with_reducible repeat (first | exact Ext.refl _ | assumption | refine Ext.drew ?_ | refine Ext.drewN ?_ _ | refine Ext.alloc ?_ _))))
                        clear hK K
                        clear hHeld
                        (try simp only [PU])
                        refine wpAnyH_take (i := 9) (oi := ⟨(some 81), (.move (.tmp 90)), 41, "ref.go:117", #[⟨8, .data⟩], none⟩) (v := ?v5017) rfl (by kernel_rfl) (by kernel_rfl) (by kernel_rfl) (fun _ _ _ h => h) (Or.inl ⟨rfl, ?hy5017⟩) hHeld5010 ?rest5017
                        case hy5017 => (intro w _; go_simp <;> rfl)
                        (try simp only [PU])
                        refine wpAnyH_take (i := 10) (oi := ⟨(some 91), (.extract (.tmp 81) 0), 28, "ref.go:117", #[⟨9, .data⟩], none⟩) (v := ?v5018) rfl (by kernel_rfl) (by kernel_rfl) (by kernel_rfl) (fun _ _ _ h => h) (Or.inl ⟨rfl, ?hy5018⟩) hHeld5010 ?rest5018
                        case hy5018 => (intro w _; go_simp <;> rfl)
                        (try simp only [PU])
                        refine wpAnyH_take (i := 11) (oi := ⟨(some 92), (.extract (.tmp 81) 1), 4, "ref.go:117", #[⟨9, .data⟩, ⟨13, (.gcOnly Departure.lateStores)⟩], none⟩) (v := ?v5019) rfl (by kernel_rfl) (by kernel_rfl) (by kernel_rfl) (fun _ _ _ h => h) (Or.inl ⟨rfl, ?hy5019⟩) hHeld5010 ?rest5019
                        case hy5019 => (intro w _; go_simp <;> rfl)
                        (try simp only [PU])
                        refine wpAnyH_ready (rs := [12]) (by kernel_rfl) (by simp) ?_
                        refine AllReadyH.cons (o := ⟨(some 19), (.alloc 28), 0, "ref.go:117", #[], none⟩) rfl (fun K hK => ?step5020x0) ?more5020x0
                        case more5020x0 => exact AllReadyH.nil
                        go_simp
                        refine hK.out _ _ ?hS5020x0 (fun hHeld5020 => ?rest5020x0)
                        case hS5020x0 => first | (first | with_reducible exact MKB.out _ _ _ _ (by first | exact Nat.le_refl _ | exact Ext.le (by with_reducible repeat (first | exact Ext.refl _ | assumption | refine Ext.drew ?_ | refine Ext.drewN ?_ _ | refine Ext.alloc ?_ _))) (by with_reducible repeat (first | exact Ext.refl _ | assumption | refine Ext.drew ?_ | refine Ext.drewN ?_ _ | refine Ext.alloc ?_ _)) | exact MKA.out _ (by with_reducible repeat (first | exact Ext.refl _ | assumption | refine Ext.drew ?_ | refine Ext.drewN ?_ _ | refine Ext.alloc ?_ _))) | ((try dsimp only); (first | with_reducible exact MKB.out _ _ _ _ (by first | exact Nat.le_refl _ | exact Ext.le (by with_reducible repeat (first | exact Ext.refl _ | assumption | refine Ext.drew ?_ | refine Ext.drewN ?_ _ | refine Ext.alloc ?_ _))) (by with_reducible repeat (first | exact Ext.refl _ | assumption | refine Ext.drew ?_ | refine Ext.drewN ?_ _ | refine Ext.alloc ?_ _)) | exact MKA.out _ (by with_reducible repeat (first | exact Ext.refl _ | assumption | refine Ext.drew ?_ | refine Ext.drewN ?_ _ | refine Ext.alloc ?_ _))))
                        clear hK K
                        clear hHeld5010
                        (try simp only [PU])
                        refine wpAnyH_ready (rs := [13]) (by kernel_rfl) (by simp) ?_
                        refine AllReadyH.cons (o := ⟨none, (.store 28 (.tmp 19) (.tmp 91)), 0, "ref.go:117", #[⟨12, .data⟩, ⟨10, .data⟩, ⟨8, .chain⟩, ⟨0, .phase⟩, ⟨1, .phase⟩, ⟨2, .phase⟩, ⟨3, .phase⟩, ⟨4, .phase⟩, ⟨5, .phase⟩, ⟨6, .phase⟩, ⟨7, .phase⟩, ⟨8, .phase⟩, ⟨9, .phase⟩, ⟨10, .phase⟩, ⟨11, (.textOnly Departure.lateStores)⟩, ⟨12, .phase⟩], none⟩) rfl (fun K hK => ?step5021x0) ?more5021x0
                        case more5021x0 => exact AllReadyH.nil
                        go_simp
                        refine hK.out _ _ ?hS5021x0 (fun hHeld5021 => ?rest5021x0)
                        case hS5021x0 => first | (first | with_reducible exact MKB.out _ _ _ _ (by first | exact Nat.le_refl _ | exact Ext.le (by with_reducible repeat (first | exact Ext.refl _ | assumption | refine Ext.drew ?_ | refine Ext.drewN ?_ _ | refine Ext.alloc ?_ _))) (by with_reducible repeat (first | exact Ext.refl _ | assumption | refine Ext.drew ?_ | refine Ext.drewN ?_ _ | refine Ext.alloc ?_ _)) | exact MKA.out _ (by with_reducible repeat (first | exact Ext.refl _ | assumption | refine Ext.drew ?_ | refine Ext.drewN ?_ _ | refine Ext.alloc ?_ _))) | ((try dsimp only); (first | with_reducible exact MKB.out _ _ _ _ (by first | exact Nat.le_refl _ | exact Ext.le (by with_reducible repeat (first | exact Ext.refl _ | assumption | refine Ext.drew ?_ | refine Ext.drewN ?_ _ | refine Ext.alloc ?_ _))) (by with_reducible repeat (first | exact Ext.refl _ | assumption | refine Ext.drew ?_ | refine Ext.drewN ?_ _ | refine Ext.alloc ?_ _)) | exact MKA.out _ (by with_reducible repeat (first | exact Ext.refl _ | assumption | refine Ext.drew ?_ | refine Ext.drewN ?_ _ | refine Ext.alloc ?_ _))))
                        clear hK K
                        clear hHeld5020
                        refine wpAnyH_take (i := 14) (oi := ⟨(some 20), (.assign (.tmp 92)), 4, "ref.go:117", #[⟨11, .data⟩, ⟨13, .chain⟩, ⟨0, .phase⟩, ⟨1, .phase⟩, ⟨2, .phase⟩, ⟨3, .phase⟩, ⟨4, .phase⟩, ⟨5, .phase⟩, ⟨6, .phase⟩, ⟨7, .phase⟩, ⟨8, .phase⟩, ⟨9, .phase⟩, ⟨10, .phase⟩, ⟨11, .phase⟩, ⟨12, .phase⟩, ⟨13, .phase⟩], none⟩) (v := ?v5022) rfl (by kernel_rfl) (by kernel_rfl) (by kernel_rfl) (fun _ _ _ h => h) (Or.inl ⟨rfl, ?hy5022⟩) hHeld5021 ?rest5022
                        case hy5022 => (intro w _; go_simp <;> first | with_reducible rfl | rw [if_neg (by omega)] | rw [if_pos (by omega)])
                        (try simp only [PU])
                        refine wpAnyH_done (by kernel_rfl) ?_ _
                        clear hHeld5021
                        go_wp2_with fail
                        go_meet
                        case rel => exact ⟨y5.heap.size, xa, xb, rfl, rfl, HXV, by go_simp, by go_simp, (by with_reducible repeat (first | exact Ext.refl _ | assumption | refine Ext.drew ?_ | refine Ext.drewN ?_ _ | refine Ext.alloc ?_ _))⟩
                      case rest =>
                        clear MKA MKB
                        obtain ⟨g19, xa, xb, rfl, rfl, HXV, x0, x1, hx17⟩ := hcut
                        replace r0 := hx17.cell r0
                        replace r1 := hx17.cell r1
                        replace b0 := hx17.cell b0
                        replace b1 := hx17.cell b1
                        replace p0 := hx17.cell p0
                        replace p1 := hx17.cell p1
                        replace hs0 := hx17.cell hs0
                        have HO2 := Lib.hid (own_ext HO.out hx17)
                        have hE17 := hEr.trans hx17
                        clear k0 k1 k2 k3 hx17 HO hEr
                        have HA1 := Lib.hid (fun W => q3_Add (xa, xb) (ra, rb) W)
                        dsimp only at HA1
                        generalize hv4 : addO (xa, xb) (ra, rb) = v4 at *
                        have HV4 := Lib.hid hv4
                        clear hv4
                        go_upto_region 19 with (go_at_call 29; ((with_reducible refine (HA1.out _).mono ?_); rintro e y7 ⟨⟨ya, yb, rfl, hvv⟩, hy7⟩))
                        have HYV := Lib.hid hvv
                        clear hvv HA1
                        obtain ⟨g21, y8, hg21, hy8, l0, l1, -, -, hz8⟩ := box_frac y7 ya yb 28
                        rw [← hy8, ← hg21]
                        have hq8 := hy7.trans hz8
                        replace b0 := hq8.cell b0
                        replace b1 := hq8.cell b1
                        replace p0 := hq8.cell p0
                        replace p1 := hq8.cell p1
                        replace hs0 := hq8.cell hs0
                        have hE18 := hE17.trans hq8
                        have HO3 := Lib.hid (own_ext HO2.out hq8)
                        clear hg21 hy8 hz8 hy7 x0 x1 hq8 r0 r1 HO2 hE17
                        have HA2 := Lib.hid (fun W => q3_Mul damp (ya, yb) W)
                        dsimp only at HA2
                        generalize hv5 : mulO damp (ya, yb) = v5 at *
                        have HV5 := Lib.hid hv5
                        clear hv5
                        go_upto_region 20 with (go_at_call 30; ((with_reducible refine (HA2.out _).mono ?_); rintro e y9 ⟨⟨za, zb, rfl, hvv⟩, hy9⟩))
                        have HZV := Lib.hid hvv
                        clear hvv HA2
                        obtain ⟨g23, y10, hg23, hy10, m0, m1, -, -, hz10⟩ := box_frac y9 za zb 28
                        rw [← hy10, ← hg23]
                        have hq10 := hy9.trans hz10
                        replace b0 := hq10.cell b0
                        replace b1 := hq10.cell b1
                        replace hs0 := hq10.cell hs0
                        have hE19 := hE18.trans hq10
                        have HO4 := Lib.hid (own_ext HO3.out hq10)
                        clear hg23 hy10 hz10 hy9 l0 l1 hq10 p0 p1 HO3 hE18
                        have HA3 := Lib.hid (fun W => q3_Add (ba, bb) (za, zb) W)
                        dsimp only at HA3
                        generalize hv6 : addO (ba, bb) (za, zb) = v6 at *
                        have HV6 := Lib.hid hv6
                        clear hv6
                        go_upto_region 21 with (go_at_call 29; ((with_reducible refine (HA3.out _).mono ?_); rintro e y11 ⟨⟨fa, fb, rfl, hvv⟩, hy11⟩))
                        have HFV := Lib.hid hvv
                        clear hvv HA3
                        obtain ⟨g25, y12, hg25, hy12, o0, o1, -, -, hz12⟩ := box_frac y11 fa fb 28
                        rw [← hy12, ← hg25]
                        have hq12 := hy11.trans hz12
                        have HB2 := Lib.hid (fun kk h => (Nat.lt_of_lt_of_le (HO4.out.lt kk h).2 (by have := hy11.le; omega) : kk < g25))
                        replace hs0 := hq12.cell hs0
                        have hE20 := hE19.trans hq12
                        have HO5 := Lib.hid (own_ext HO4.out hq12)
                        clear hg25 hy12 hz12 hy11 m0 m1 hq12 b0 b1 HO4 hE19
                        have HOUT := Lib.hid (outF_of (inV := iv) (r := (ra, rb)) (b := (ba, bb)) (damp := damp) (x := (xa, xb)) (y := (ya, yb)) (z := (za, zb)) (f := (fa, fb)) HXV.out (by rw [HV4.out]; exact HYV.out) (by rw [HV5.out]; exact HZV.out) (by rw [HV6.out]; exact HFV.out))
                        rw [HV4.out, HV5.out, HV6.out] at HOUT
                        clear HV4 HV5 HV6 HXV HYV HZV HFV
                        generalize outF iv (ra, rb) (ba, bb) damp = ov at *
                        generalize iv.isSome = s3 at *
                        generalize v4.isSome = s4 at *
                        generalize v5.isSome = s5 at *
                        generalize v6.isSome = s6 at *
                        cases s3
                        · have HT := Lib.hid (HNON.out (HOUT.out.2 rfl))
                          clear HOUT HNEX HNON
                          go_wp2_with fail
                          go_ret2
                          rw [HT.out]
                          exact shErr_nil _ _ _ (hEw.trans hE20)
                        · cases s4
                          · have HT := Lib.hid (HNON.out (HOUT.out.2 rfl))
                            clear HOUT HNEX HNON
                            go_wp2_with fail
                            go_ret2
                            rw [HT.out]
                            exact shErr_nil _ _ _ (hEw.trans hE20)
                          · cases s5
                            · have HT := Lib.hid (HNON.out (HOUT.out.2 rfl))
                              clear HOUT HNEX HNON
                              go_wp2_with fail
                              go_ret2
                              rw [HT.out]
                              exact shErr_nil _ _ _ (hEw.trans hE20)
                            · cases s6
                              · have HT := Lib.hid (HNON.out (HOUT.out.2 rfl))
                                clear HOUT HNEX HNON
                                go_wp2_with fail
                                go_ret2
                                rw [HT.out]
                                exact shErr_nil _ _ _ (hEw.trans hE20)
                              · have HT := Lib.hid (HNEX.out _ (HOUT.out.1 rfl))
                                dsimp only at HT
                                clear HOUT HNEX HNON
                                have hkb : k + 1 ≤ 8388608 := by omega
                                have MKC := Lib.hid (fun V (e : Ext y12 V) => (⟨e.cell hs0, e.cell o0, e.cell o1, trivial⟩ : V.cell? ⟨bs, os + k * 3, none⟩ = some (.int .i64 x.id) ∧ V.cell? ⟨g25, 0, none⟩ = some (.int .i64 fa) ∧ V.cell? ⟨g25, 1, none⟩ = some (.int .i64 fb) ∧ True))
                                have hD12 : Ext y12 y12.drew := (Ext.refl _).drew
                                have MKD := Lib.hid (fun V row (hg : y12.drew.grownBy V row) (h1 : some bs ≠ row) (h2 : some g25 ≠ row) => (⟨hg.cell (hD12.cell hs0) h1, hg.cell (hD12.cell o0) h2, hg.cell (hD12.cell o1) h2, trivial⟩ : V.cell? ⟨bs, os + k * 3, none⟩ = some (.int .i64 x.id) ∧ V.cell? ⟨g25, 0, none⟩ = some (.int .i64 fa) ∧ V.cell? ⟨g25, 1, none⟩ = some (.int .i64 fb) ∧ True))
                                go_upto_region 23 with (fail)
                                refine wp_region_held_drew (S := (fun V => V.cell? ⟨bs, os + k * 3, none⟩ = some (.int .i64 x.id) ∧ V.cell? ⟨g25, 0, none⟩ = some (.int .i64 fa) ∧ V.cell? ⟨g25, 1, none⟩ = some (.int .i64 fb) ∧ True)) (by kernel_rfl) ?hs1 (fun hHeld => ?go1)
                                case hs1 => (first | exact MKD.out _ _ hg9x (fun h => by have := (HO5.out.lt bs h.symm).1; have := HB1.out; omega) (fun h => by have := HB2.out _ h.symm; omega) | exact MKC.out _ (by with_reducible repeat (first | exact Ext.refl _ | assumption | refine Ext.drew ?_ | refine Ext.drewN ?_ _ | refine Ext.alloc ?_ _)))
                                refine wpAnyH_take (i := 0) (oi := ⟨(some 125), (.move (.tmp 17)), 29, "ref.go:124", #[], none⟩) (v := ?v2) rfl (by kernel_rfl) (by kernel_rfl) (by kernel_rfl) (fun _ _ _ h => h) (Or.inl ⟨rfl, ?hy2⟩) hHeld ?rest2
                                case hy2 => (intro w _; go_simp <;> rfl)
                                (try simp only [PU])
                                refine wpAnyH_take (i := 1) (oi := ⟨(some 126), (.move (.tmp 3)), 29, "ref.go:124", #[], none⟩) (v := ?v3) rfl (by kernel_rfl) (by kernel_rfl) (by kernel_rfl) (fun _ _ _ h => h) (Or.inl ⟨rfl, ?hy3⟩) hHeld ?rest3
                                case hy3 => (intro w _; go_simp <;> rfl)
                                (try simp only [PU])
                                refine wpAnyH_take (i := 2) (oi := ⟨(some 127), (.move (.tmp 18)), 3, "ref.go:124", #[], none⟩) (v := ?v4) rfl (by kernel_rfl) (by kernel_rfl) (by kernel_rfl) (fun _ _ _ h => h) (Or.inl ⟨rfl, ?hy4⟩) hHeld ?rest4
                                case hy4 => (intro w _; go_simp <;> rfl)
                                (try simp only [PU])
                                refine wpAnyH_take (i := 3) (oi := ⟨(some 128), (.indexAddr 29 (.tmp 126) (.tmp 127)), 0, "ref.go:124", #[⟨1, .data⟩, ⟨2, .data⟩], none⟩) (v := ?v5) rfl (by kernel_rfl) (by kernel_rfl) (by kernel_rfl) (fun _ _ _ h => h) (Or.inl ⟨rfl, ?hy5⟩) hHeld ?rest5
                                case hy5 => (intro w _; go_simp <;> first | with_reducible rfl | rw [if_neg (by omega)] | rw [if_pos (by omega)])
                                (try simp only [PU])
                                refine wpAnyH_take (i := 4) (oi := ⟨(some 129), (.fieldAddr 46 (.tmp 128) 0), 0, "ref.go:124", #[⟨3, .data⟩], none⟩) (v := ?v6) rfl (by kernel_rfl) (by kernel_rfl) (by kernel_rfl) (fun _ _ _ h => h) (Or.inl ⟨rfl, ?hy6⟩) hHeld ?rest6
                                case hy6 => (intro w _; go_simp <;> rfl)
                                (try simp only [PU])
                                refine wpAnyH_take (i := 5) (oi := ⟨(some 130), (.load 3 (.tmp 129)), 3, "ref.go:124", #[⟨4, .data⟩], none⟩) (v := ?v7) rfl (by kernel_rfl) (by kernel_rfl) (by kernel_rfl) (fun _ _ _ h => h) (Or.inl ⟨rfl, ?hy7⟩) hHeld ?rest7
                                case hy7 => (intro w hSw; (try dsimp only at hSw); go_simp <;> first | with_reducible rfl | rw [if_neg (by omega)] | rw [if_pos (by omega)])
                                (try simp only [PU])
                                refine wpAnyH_take (i := 6) (oi := ⟨(some 131), (.load 28 (.tmp 25)), 28, "ref.go:124", #[], none⟩) (v := ?v8) rfl (by kernel_rfl) (by kernel_rfl) (by kernel_rfl) (fun _ _ _ h => h) (Or.inl ⟨rfl, ?hy8⟩) hHeld ?rest8
                                case hy8 => (intro w hSw; (try dsimp only at hSw); go_simp <;> first | with_reducible rfl | rw [if_neg (by omega)] | rw [if_pos (by omega)])
                                (try simp only [PU])
                                refine wpAnyH_take (i := 7) (oi := ⟨(some 132), (.build 46 #[(0, (.tmp 130)), (1, (.tmp 131))]), 46, "ref.go:124", #[⟨5, .data⟩, ⟨6, .data⟩], none⟩) (v := ?v9) rfl (by kernel_rfl) (by kernel_rfl) (by kernel_rfl) (fun _ _ _ h => h) (Or.inl ⟨rfl, ?hy9⟩) hHeld ?rest9
                                case hy9 => (intro w _; go_simp <;> rfl)
                                (try simp only [PU])
                                refine wpAnyH_ready (rs := [8]) (by kernel_rfl) (by simp) ?_
                                refine AllReadyH.cons (o := ⟨(some 133), (.buildSlice 29 1 #[(0, (.tmp 132))]), 29, "ref.go:124", #[⟨7, .data⟩], none⟩) rfl (fun K hK => ?step10x0) ?more10x0
                                case more10x0 => exact AllReadyH.nil
                                go_simp
                                refine hK.out _ _ ?hS10x0 (fun hHeld10 => ?rest10x0)
                                case hS10x0 => first | (first | exact MKD.out _ _ hg9x (fun h => by have := (HO5.out.lt bs h.symm).1; have := HB1.out; omega) (fun h => by have := HB2.out _ h.symm; omega) | exact MKC.out _ (by with_reducible repeat (first | exact Ext.refl _ | assumption | refine Ext.drew ?_ | refine Ext.drewN ?_ _ | refine Ext.alloc ?_ _))) | ((try dsimp only); (first | exact MKD.out _ _ hg9x (fun h => by have := (HO5.out.lt bs h.symm).1; have := HB1.out; omega) (fun h => by have := HB2.out _ h.symm; omega) | exact MKC.out _ (by with_reducible repeat (first | exact Ext.refl _ | assumption | refine Ext.drew ?_ | refine Ext.drewN ?_ _ | refine Ext.alloc ?_ _))))
                                clear hK K
                                clear hHeld
                                (try simp only [PU])
                                refine wpAnyH_ready (rs := [9]) (by kernel_rfl) (by simp) ?_
                                refine AllReadyH.cons (o := ⟨(some 134), (.call { callee := (.builtin .append), args := #[(.tmp 125), (.tmp 133)], argTypes := #[29, 29] }), 29, "ref.go:124", #[⟨0, .data⟩, ⟨8, .data⟩], none⟩) rfl (fun K hK => ?step11x0) ?more11x0
                                case more11x0 => exact AllReadyH.nil
                                (refine step_pushK El_share rfl (.tmp 125) (.tmp 133) rfl w10.heap.size y12.drew _ k _ [.int .i64 x.id, .int .i64 fa, .int .i64 fb] rfl (own_ext HO5.out (by with_reducible repeat (first | exact Ext.refl _ | assumption | refine Ext.drew ?_ | refine Ext.drewN ?_ _ | refine Ext.alloc ?_ _))) (Ext.le (by with_reducible repeat (first | exact Ext.refl _ | assumption | refine Ext.drew ?_ | refine Ext.drewN ?_ _ | refine Ext.alloc ?_ _))) rfl _ rfl rfl rfl (by simp [Value.oneCell']) hkb (by decide) ?_; intro v2 w9 hown2 hg9x; have hx9 : Ext w10 w9 := Ext.grown (b := y12.drew) (by with_reducible repeat (first | exact Ext.refl _ | assumption | refine Ext.drew ?_ | refine Ext.drewN ?_ _ | refine Ext.alloc ?_ _)) hg9x (fun kk hkk => (HO5.out.lt kk hkk).1))
                                refine hK.out _ _ ?hS11x0 (fun hHeld11 => ?rest11x0)
                                case hS11x0 => first | (first | exact MKD.out _ _ hg9x (fun h => by have := (HO5.out.lt bs h.symm).1; have := HB1.out; omega) (fun h => by have := HB2.out _ h.symm; omega) | exact MKC.out _ (by with_reducible repeat (first | exact Ext.refl _ | assumption | refine Ext.drew ?_ | refine Ext.drewN ?_ _ | refine Ext.alloc ?_ _))) | ((try dsimp only); (first | exact MKD.out _ _ hg9x (fun h => by have := (HO5.out.lt bs h.symm).1; have := HB1.out; omega) (fun h => by have := HB2.out _ h.symm; omega) | exact MKC.out _ (by with_reducible repeat (first | exact Ext.refl _ | assumption | refine Ext.drew ?_ | refine Ext.drewN ?_ _ | refine Ext.alloc ?_ _))))
                                clear hK K
                                clear hHeld10
                                (try simp only [PU])
                                refine wpAnyH_take (i := 10) (oi := ⟨(some 17), (.assign (.tmp 134)), 29, "ref.go:124", #[⟨9, .data⟩, ⟨9, .chain⟩, ⟨0, .phase⟩, ⟨1, .phase⟩, ⟨2, .phase⟩, ⟨3, .phase⟩, ⟨4, .phase⟩, ⟨5, .phase⟩, ⟨6, .phase⟩, ⟨7, .phase⟩, ⟨8, .phase⟩, ⟨9, .phase⟩], none⟩) (v := ?v12) rfl (by kernel_rfl) (by kernel_rfl) (by kernel_rfl) (fun _ _ _ h => h) (Or.inl ⟨rfl, ?hy12⟩) hHeld11 ?rest12
                                case hy12 => (intro w _; go_simp <;> first | with_reducible rfl | rw [if_neg (by omega)] | rw [if_pos (by omega)])
                                (try simp only [PU])
                                refine wpAnyH_done (by kernel_rfl) ?_ _
                                clear hHeld11
                                go_wp2_with fail
                                have HOF := Lib.hid (show w9.ownsRow w10.heap.size 46 3 v2 (k + 1) ((O ++ [(⟨x.id, fa, fb⟩ : Sh)]).flatMap Sh.cells) by rw [List.flatMap_append]; exact hown2)
                                go_roundw
                                case rel => exact ⟨k + 1, O ++ [(⟨x.id, fa, fb⟩ : Sh)], by go_num, by omega, HT, HOF, hx9⟩
                                case measure => simp [intOf]; omega
                    · have HT := Lib.hid (show stepP g types damp l = (O, 0) by rw [HOO.out]; have h := hO.out; rw [List.take_of_length_le (by omega)] at h; rw [h])
                      have hOl := outsO_len hO.out
                      rw [List.take_of_length_le (by omega)] at hOl
                      obtain ⟨A9, c9, rfl, h9, hS9⟩ := shares_of_own (l := O) HO.out (by omega) (by omega)
                      clear HO hO HNN HOO
                      go_wp2_with fail
                      go_ret2
                      rw [HT.out]
                      exact ⟨⟨A9, c9, rfl, h9, hS9.keep (fun _ _ _ hb hc => ⟨hc, Nat.le_trans hEw.le hb⟩)⟩, hEw.trans hEr⟩
    · have h1' : (dampB damp && fitsB g l) = false := by cases hh : (dampB damp && fitsB g l) <;> simp_all
      rw [stepP_arg h0 h1']
      clear h0 h1 hg
      cases hd : dampB damp
      · rw [show dampB (damp.1, damp.2) = false from hd] at HDA
        clear h1' hd
        go_enter Tryz.func8, Tryz.ntmps8
        go_upto_region 1 with (fail)
        rw [← HW.out, ← HG.out]
        clear HW HG
        go_wp2_with (first | (go_at_call 21; ((with_reducible refine (HCH.out _ (by with_reducible repeat (first | exact Ext.refl _ | assumption | refine Ext.drew ?_ | refine Ext.drewN ?_ _ | refine Ext.alloc ?_ _))).mono ?_); rintro e v1 ⟨rfl, hv1⟩; have k0 := hv1.cell g0; have k1 := hv1.cell g1; have k2 := hv1.cell g2; have k3 := hv1.cell g3; have p0 := hv1.cell d0; have p1 := hv1.cell d1)) | (go_at_call 22; ((with_reducible refine (HDA.out _).mono ?_); rintro e v2 ⟨rfl, hv2⟩; replace k0 := hv2.cell k0; replace k1 := hv2.cell k1; replace k2 := hv2.cell k2; replace k3 := hv2.cell k3; replace p0 := hv2.cell p0; replace p1 := hv2.cell p1)) | (go_at_call 23; ((with_reducible refine (HFI.out _ (hv1.trans hv2)).mono ?_); rintro e v3 ⟨rfl, hv3⟩; replace k0 := hv3.cell k0; replace k1 := hv3.cell k1; replace k2 := hv3.cell k2; replace k3 := hv3.cell k3; replace p0 := hv3.cell p0; replace p1 := hv3.cell p1)))
        go_ret2
        exact shErr_nil _ _ _ (hx2.trans (hv1.trans hv2))
      · rw [show dampB (damp.1, damp.2) = true from hd] at HDA
        rw [hd, Bool.true_and] at h1'
        rw [h1'] at HFI
        clear h1' hd
        go_enter Tryz.func8, Tryz.ntmps8
        go_upto_region 1 with (fail)
        rw [← HW.out, ← HG.out]
        clear HW HG
        go_wp2_with (first | (go_at_call 21; ((with_reducible refine (HCH.out _ (by with_reducible repeat (first | exact Ext.refl _ | assumption | refine Ext.drew ?_ | refine Ext.drewN ?_ _ | refine Ext.alloc ?_ _))).mono ?_); rintro e v1 ⟨rfl, hv1⟩; have k0 := hv1.cell g0; have k1 := hv1.cell g1; have k2 := hv1.cell g2; have k3 := hv1.cell g3; have p0 := hv1.cell d0; have p1 := hv1.cell d1)) | (go_at_call 22; ((with_reducible refine (HDA.out _).mono ?_); rintro e v2 ⟨rfl, hv2⟩; replace k0 := hv2.cell k0; replace k1 := hv2.cell k1; replace k2 := hv2.cell k2; replace k3 := hv2.cell k3; replace p0 := hv2.cell p0; replace p1 := hv2.cell p1)) | (go_at_call 23; ((with_reducible refine (HFI.out _ (hv1.trans hv2)).mono ?_); rintro e v3 ⟨rfl, hv3⟩; replace k0 := hv3.cell k0; replace k1 := hv3.cell k1; replace k2 := hv3.cell k2; replace k3 := hv3.cell k3; replace p0 := hv3.cell p0; replace p1 := hv3.cell p1)))
        go_ret2
        exact shErr_nil _ _ _ (hx2.trans (hv1.trans (hv2.trans hv3)))
  · rw [stepP_err h0]
    have hz2 : (chkG g != 0) = true := bne_iff_ne.2 h0
    generalize chkG g = z at *
    clear h0 hg
    go_enter Tryz.func8, Tryz.ntmps8
    go_upto_region 1 with (fail)
    rw [← HW.out, ← HG.out]
    clear HW HG
    go_wp2_with (first | (go_at_call 21; ((with_reducible refine (HCH.out _ (by with_reducible repeat (first | exact Ext.refl _ | assumption | refine Ext.drew ?_ | refine Ext.drewN ?_ _ | refine Ext.alloc ?_ _))).mono ?_); rintro e v1 ⟨rfl, hv1⟩; have k0 := hv1.cell g0; have k1 := hv1.cell g1; have k2 := hv1.cell g2; have k3 := hv1.cell g3; have p0 := hv1.cell d0; have p1 := hv1.cell d1)) | (go_at_call 22; ((with_reducible refine (HDA.out _).mono ?_); rintro e v2 ⟨rfl, hv2⟩; replace k0 := hv2.cell k0; replace k1 := hv2.cell k1; replace k2 := hv2.cell k2; replace k3 := hv2.cell k3; replace p0 := hv2.cell p0; replace p1 := hv2.cell p1)) | (go_at_call 23; ((with_reducible refine (HFI.out _ (hv1.trans hv2)).mono ?_); rintro e v3 ⟨rfl, hv3⟩; replace k0 := hv3.cell k0; replace k1 := hv3.cell k1; replace k2 := hv3.cell k2; replace k3 := hv3.cell k3; replace p0 := hv3.cell p0; replace p1 := hv3.cell p1)))
    go_ret2
    exact shErr_nil _ _ _ (hx2.trans hv1)
end Go.Proofs.YtlkpmbkmmfoakaaGreatDoor
