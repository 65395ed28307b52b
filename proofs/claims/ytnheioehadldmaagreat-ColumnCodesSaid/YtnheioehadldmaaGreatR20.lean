/- PARTS OF THE WALKS, joined: CpA, CpB, CpK. -/
import Derived.Test.YtnheioehadldmaaGreatR19
import Derived.Deep.CutBlock
import Derived.Test.YtnheioehadldmaaGreatR18
import Derived.Laws.BytesArg
/- PLAIN: the loops of column.Decode; boxes that change. -/
namespace Go.Proofs.YtnheioehadldmaaGreat
open Go.RowKit
theorem Col4.other {W W' : World} {base q : Nat} {vN vF vT vE : Value} {c : Col} (h : Col4 W base vN vF vT vE c) (hq : q < base) (hg : W.grownBy W' (some q)) : Col4 W' base vN vF vT vE c := by
 have k : ∀ {v : Value} {l : List Int}, OI W base v l → OI W' base v l := fun {v l} h => OwnG.grown h hg (by
  cases hv : v.ownBlock with
  | none => exact .inl rfl
  | some g => exact .inr (fun e => by have := (OwnG.lt h hv).1; have := Option.some.inj e; omega)) (fun _ _ hf => hf)
 exact ⟨k h.n, k h.f, k h.t, k h.e, h.nf, h.nt, h.ne, h.ft, h.fe, h.te⟩
/-- another box of the call changed -/
theorem PkS.other {w0 : World} {base q2 q3 q : Nat} {W W' : World} {vN vF vT vE b0 b1 b2 b3 : Value} {c : Col} (h : PkS w0 base q2 q3 W vN vF vT vE b0 b1 b2 b3 c) (hq : w0.heap.size ≤ q ∧ q < base ∧ q ≠ q2 ∧ q ≠ q3) (hg : W.grownBy W' (some q)) : PkS w0 base q2 q3 W' vN vF vT vE b0 b1 b2 b3 c :=
 have k2 : some q2 ≠ some q := fun e => hq.2.2.1 (Option.some.inj e).symm
 have k3 : some q3 ≠ some q := fun e => hq.2.2.2 (Option.some.inj e).symm
 ⟨h.ext.grown hg (fun g hg' => by cases hg'; exact hq.1), Nat.le_trans h.le hg.size, h.c4.other hq.2.1 hg, h.bx.grown hg k3, h.fz.grown h.bx hg k3, h.rx.grown hg k2, h.rz.grown h.rx hg k2, h.h3, h.l2, h.l3, h.n23, h.hb⟩
theorem box_reader (w : World) (A : Option Addr) (N c : Nat) (t : TypeId) : ∃ (q : Nat) (w1 : World), q = w.heap.size ∧ w1 = w.alloc (.cells #[.slice A N c, .int .i64 0, .int .i64 0] t) ∧ RdC w1 q A N c 0 0 ∧ Ext w w1 :=
 ⟨_, _, rfl, rfl, ⟨by go_simp, by go_simp, by go_simp, by go_simp, by go_simp⟩, (Ext.refl _).alloc _⟩
/-- what bounds the rows under way -/
structure Bnd (NN : Nat) (st : Except Int (List Nat)) (C : Col) : Prop where
 n : bdS NN st C.nodes.length
 f : C.first.length = C.nodes.length
 t : bdS NN st C.tos.length
 e : C.edges.length = C.tos.length
/-- the loop over the rows -/
structure InvO (NN : Nat) (cnt : Int) (X : Except Int (Col × List Nat)) (i : Nat) (node edge : Int) (C : Col) (st : Except Int (List Nat)) : Prop where
 x : X = rowsS (cnt.toNat - i) node edge C st
 rn : rgS st node
 re : rgS st edge
 b : Bnd NN st C
 i : i ≤ C.nodes.length
/-- the loop over the entries of a row -/
structure InvI (NN m : Nat) (X : Except Int (Col × List Nat)) (i : Nat) (nd many : Int) (k : Nat) (tv edge : Int) (C : Col) (st : Except Int (List Nat)) : Prop where
 x : X = contE m nd C.nodes C.first (entsS (many.toNat - k) tv edge C.tos C.edges st)
 rn : rgS st nd
 rt : rgS st tv
 re : rgS st edge
 b : Bnd NN st C
 i : i ≤ C.nodes.length
 k : k ≤ C.tos.length
def endS (C : Col) : Except Int (List Nat) → Except Int (Col × List Nat)
 | .error e => .error e
 | .ok r => .ok (C, r)
theorem Bnd.len {NN : Nat} {st : Except Int (List Nat)} {C : Col} (h : Bnd NN st C) : C.nodes.length ≤ NN + 1 ∧ C.first.length ≤ NN + 1 ∧ C.tos.length ≤ NN + 1 ∧ C.edges.length ≤ NN + 1 := by
 have k : ∀ {m : Nat}, bdS NN st m → m ≤ NN + 1 := fun {m} hm => by
  cases st with
  | error e => exact hm
  | ok r => have h' : m + r.length ≤ NN := hm; omega
 exact ⟨k h.n, by rw [h.f]; exact k h.n, k h.t, by rw [h.e]; exact k h.t⟩
theorem Bnd.ok {NN : Nat} {r : List Nat} {C : Col} (h : Bnd NN (.ok r) C) : C.nodes.length ≤ NN ∧ C.tos.length ≤ NN := by
 have h1 : C.nodes.length + r.length ≤ NN := h.n
 have h2 : C.tos.length + r.length ≤ NN := h.t
 omega
theorem rg0 (st : Except Int (List Nat)) : rgS st 0 := by cases st <;> simp [rgS]
theorem inv_start {l : List Nat} {at_ e cnt : Int} {st : Except Int (List Nat)} (h : okR l at_ e st) : InvO l.length cnt (cntS cnt st) 0 0 0 noCol st := by
 have hb : bdS l.length st 0 := by
  cases st with
  | error e => exact Nat.zero_le _
  | ok r => show 0 + r.length ≤ l.length; have := h.2.1; omega
 exact ⟨rfl, rg0 st, rg0 st, ⟨hb, rfl, hb, rfl⟩, Nat.zero_le _⟩
/-- what a number read leaves -/
theorem bd_num {NN len : Nat} {st : Except Int (List Nat)} {r : List Nat} (h : bdS NN (.ok r) len) (hs : ∀ s, st = .ok s → s.length ≤ r.length) : bdS NN st len ∧ ((∀ s, st = .ok s → s.length < r.length) → bdS NN st (len + 1)) := by
 have h' : len + r.length ≤ NN := h
 cases st with
 | error e => exact ⟨show len ≤ NN + 1 by omega, fun _ => show len + 1 ≤ NN + 1 by omega⟩
 | ok s =>
  have := hs s rfl
  exact ⟨show len + s.length ≤ NN by omega, fun k => by have := k s rfl; show len + 1 + s.length ≤ NN; omega⟩
theorem stU_suf {r : List Nat} {x : Int} {st : Except Int (List Nat)} (h : stU (.ok r) x st) : ∀ s, st = .ok s → s.length < r.length := fun s hs => by
 unfold stU at h
 cases hu : uI r with
 | error e => simp only [hu] at h; rw [h] at hs; cases hs
 | ok p => obtain ⟨n, r'⟩ := p; simp only [hu] at h; rw [h.2] at hs; cases hs; exact (uI_suf hu).1
theorem stI_suf {r : List Nat} {base n x : Int} {st : Except Int (List Nat)} (h : stI (.ok r) base n x st) : ∀ s, st = .ok s → s = r ∧ 0 ≤ x ∧ x ≤ 1000000 := fun s hs => by
 unfold stI at h
 cases hu : idM base n r with
 | error e => simp only [hu] at h; rw [h] at hs; cases hs
 | ok p => obtain ⟨m, r'⟩ := p; simp only [hu] at h; rw [h.2] at hs; cases hs; rw [h.1]; exact idM_suf hu
theorem chk_no {l : List Nat} {at_ e many : Int} {st : Except Int (List Nat)} (hO : okR l at_ e st) (h : (decide (e = 0) && decide (many = 0)) = false) : chkS st many = st := by
 cases st with
 | error er => rfl
 | ok r =>
  rw [hO.1] at h
  have : many ≠ 0 := by simpa using h
  exact if_neg this
theorem chk_yes {l : List Nat} {at_ e many : Int} {st : Except Int (List Nat)} (hO : okR l at_ e st) (h : (decide (e = 0) && decide (many = 0)) = true) : chkS st many = .error 1 := by
 rw [Bool.and_eq_true, decide_eq_true_eq, decide_eq_true_eq] at h
 cases st with
 | error er => exact absurd (hO.1.symm.trans h.1) hO.2
 | ok r => exact if_pos h.2
theorem rg_any {st : Except Int (List Nat)} {r : List Nat} {x : Int} (h : rgS (.ok r) x) : rgS st x := by
 cases st with
 | error e => trivial
 | ok s => exact h
theorem inv_row {NN i : Nat} {cnt node edge d nd many : Int} {X : Except Int (Col × List Nat)} {C : Col} {r : List Nat} {st1 st2 st3 : Except Int (List Nat)} (h : InvO NN cnt X i node edge C (.ok r)) (hi : (i : Int) < cnt) (h1 : stU (.ok r) d st1) (h2 : stI st1 node d nd st2) (h3 : stU st2 many st3) : InvI NN (cnt.toNat - (i + 1)) X (i + 1) nd many 0 nd edge { { C with nodes := C.nodes ++ [nd] } with first := C.first ++ [(C.tos.length : Int)] } (chkS st3 many) := by
 have hx := h.x
 rw [show cnt.toNat - i = (cnt.toNat - (i + 1)) + 1 by omega] at hx
 have hy := rows_step hx h1 h2 h3
 have hk : ∀ s, chkS st3 many = .ok s → st3 = .ok s := fun s hs => by
  cases st3 with
  | error e => cases hs
  | ok q =>
   unfold chkS at hs
   simp only at hs
   split at hs
   ·cases hs
   ·exact hs
 have hsuf : ∀ s, chkS st3 many = .ok s → (s.length < r.length ∧ 0 ≤ nd ∧ nd ≤ 1000000) := fun s hs => by
  have hs3 := hk s hs
  cases st1 with
  | error e => unfold stI at h2; simp only at h2; rw [h2] at h3; unfold stU at h3; simp only at h3; rw [h3] at hs3; cases hs3
  | ok r1 =>
   cases st2 with
   | error e => unfold stU at h3; simp only at h3; rw [h3] at hs3; cases hs3
   | ok r2 =>
    have a1 := stU_suf h1 r1 rfl
    obtain ⟨a2, a3, a4⟩ := stI_suf h2 r2 rfl
    have a5 := stU_suf h3 s hs3
    rw [a2] at a5
    exact ⟨by omega, a3, a4⟩
 have hrn : rgS (chkS st3 many) nd := by
  cases hc : chkS st3 many with
  | error e => trivial
  | ok s => exact (hsuf s hc).2
 have hbn := (bd_num (st := chkS st3 many) h.b.n (fun s hs => Nat.le_of_lt (hsuf s hs).1)).2 (fun s hs => (hsuf s hs).1)
 have hbt := (bd_num (st := chkS st3 many) h.b.t (fun s hs => Nat.le_of_lt (hsuf s hs).1)).1
 exact ⟨hy, hrn, hrn, rg_any h.re, ⟨by show bdS _ _ (C.nodes ++ [nd]).length; rw [List.length_append]; exact hbn, by show (C.first ++ _).length = (C.nodes ++ _).length; rw [List.length_append, List.length_append, h.b.f]; rfl, hbt, h.b.e⟩, by show i + 1 ≤ (C.nodes ++ [nd]).length; rw [List.length_append]; have := h.i; simp; omega, Nat.zero_le _⟩
theorem inv_ent {NN m i k : Nat} {nd many tv edge x1 x2 : Int} {X : Except Int (Col × List Nat)} {C : Col} {r : List Nat} {st1 st2 : Except Int (List Nat)} (h : InvI NN m X i nd many k tv edge C (.ok r)) (hk : (k : Int) < many) (h1 : stN (.ok r) tv x1 st1) (h2 : stN st1 edge x2 st2) : InvI NN m X i nd many (k + 1) x1 x2 { { C with tos := C.tos ++ [x1] } with edges := C.edges ++ [x2] } st2 := by
 have hx := h.x
 rw [show many.toNat - k = (many.toNat - (k + 1)) + 1 by omega] at hx
 have hy := ents_step hx h1 h2
 have hb0 := h.b.ok
 obtain ⟨r1, b1, b2⟩ := bd_push h.b.t hb0.2 h1
 obtain ⟨r1n, b1n, -⟩ := bd_push h.b.n hb0.1 h1
 have e2 : rgS st2 x2 := by
  cases st1 with
  | error e => unfold stN at h2; simp only at h2; rw [h2]; trivial
  | ok s => exact (bd_push (NN := NN) (len := 0) (st := .ok s) (show 0 + s.length ≤ NN by have h' : C.tos.length + s.length ≤ NN := b1; omega) (Nat.zero_le _) h2).1
 have e1 : rgS st2 x1 := by
  cases st1 with
  | error e => unfold stN at h2; simp only at h2; rw [h2]; trivial
  | ok s => exact rg_any r1
 have bt : bdS NN st2 (C.tos.length + 1) := by
  cases st1 with
  | error e => unfold stN at h2; simp only at h2; rw [h2]; exact b2 r rfl
  | ok s => exact (bd_push (b2 r rfl) (by have h' : C.tos.length + 1 + s.length ≤ NN := b2 r rfl; omega) h2).2.1
 have bn : bdS NN st2 C.nodes.length := by
  cases st1 with
  | error e => unfold stN at h2; simp only at h2; rw [h2]; exact b1n
  | ok s => exact (bd_push b1n hb0.1 h2).2.1
 exact ⟨hy, rg_any h.rn, e1, e2, ⟨bn, h.b.f, by show bdS _ _ (C.tos ++ [x1]).length; rw [List.length_append]; exact bt, by show (C.edges ++ _).length = (C.tos ++ _).length; rw [List.length_append, List.length_append, h.b.e]; rfl⟩, h.i, by show k + 1 ≤ (C.tos ++ [x1]).length; rw [List.length_append]; have := h.k; simp; omega⟩
theorem inv_out {NN i k : Nat} {cnt nd many tv edge : Int} {X : Except Int (Col × List Nat)} {C : Col} {st : Except Int (List Nat)} (h : InvI NN (cnt.toNat - i) X i nd many k tv edge C st) (hk : ∀ r, st = .ok r → ¬ (k : Int) < many) : InvO NN cnt X i nd edge C st := by
 refine ⟨?_, h.rn, h.re, h.b, h.i⟩
 cases st with
 | error e => exact ents_err h.x
 | ok r =>
  have hx := h.x
  rw [show many.toNat - k = 0 by have := hk r rfl; omega] at hx
  exact ents_end hx
theorem inv_end {NN i : Nat} {cnt node edge : Int} {X : Except Int (Col × List Nat)} {C : Col} {st : Except Int (List Nat)} (h : InvO NN cnt X i node edge C st) (hk : ∀ r, st = .ok r → ¬ (i : Int) < cnt) : X = endS C st ∧ Bnd NN st C := by
 refine ⟨?_, h.b⟩
 cases st with
 | error e => exact h.x
 | ok r =>
  have hx := h.x
  rw [show cnt.toNat - i = 0 by have := hk r rfl; omega] at hx
  exact hx
theorem dec_err {D : Except Int Col} {X : Except Int (Col × List Nat)} {C : Col} {e : Int} (h : D = endC X) (hx : X = endS C (.error e)) : decR D = (e, noCol) := by rw [h, hx]; rfl
theorem dec_bad {D : Except Int Col} {X : Except Int (Col × List Nat)} {C : Col} {r : List Nat} (h : D = endC X) (hx : X = endS C (.ok r)) (hb : colB (finC C) = false) : decR D = (1, noCol) := by
 rw [h, hx]; unfold endS endC; simp only; rw [if_neg (by rw [hb]; exact Bool.false_ne_true)]; rfl
theorem dec_more {D : Except Int Col} {X : Except Int (Col × List Nat)} {C : Col} {r : List Nat} (h : D = endC X) (hx : X = endS C (.ok r)) (hb : colB (finC C) = true) (hr : r ≠ []) : decR D = (2, noCol) := by
 rw [h, hx]; unfold endS endC; simp only; rw [if_pos hb, if_neg hr]; rfl
theorem dec_good {D : Except Int Col} {X : Except Int (Col × List Nat)} {C : Col} {r : List Nat} (h : D = endC X) (hx : X = endS C (.ok r)) (hb : colB (finC C) = true) (hr : r = []) : decR D = (0, finC C) := by
 rw [h, hx]; unfold endS endC; simp only; rw [if_pos hb, if_pos hr]; rfl
theorem finC_len {NN : Nat} {st : Except Int (List Nat)} {C : Col} (h : Bnd NN st C) : (finC C).nodes.length ≤ NN + 1 ∧ (finC C).first.length ≤ NN + 2 ∧ (finC C).tos.length ≤ NN + 1 ∧ (finC C).edges.length ≤ NN + 1 := by
 obtain ⟨h0, h1, h2, h3⟩ := h.len
 unfold finC
 split
 ·exact ⟨h0, by omega, h2, h3⟩
 ·exact ⟨h0, by show (C.first ++ _).length ≤ _; rw [List.length_append]; show C.first.length + 1 ≤ _; omega, h2, h3⟩
end Go.Proofs.YtnheioehadldmaaGreat

/- THE WALK over column.Decode. -/
namespace Go.Proofs.YtnheioehadldmaaGreat
open Go.RowKit
set_option maxRecDepth 100000 in
set_option maxHeartbeats 6400000 in
theorem co_Decode (l : List Nat) (ok : Nat → Prop) (A : Option Addr) (c : Nat) (w : World) (hv : Byts w ok A l) (hb : ∀ x ∈ l, x < 256) (hc : l.length ≤ c) (hl : l.length ≤ 1000000) :
  Calls Tryz.prog 9 #[.slice A l.length c] w fun e w' => ∃ A B C D k0 k1 k2 k3, e = .returned (.tuple #[agC (decR (decC l)).2 A B C D k0 k1 k2 k3, .int .i64 (decR (decC l)).1]) ∧ ColAt w' (fun b => w.heap.size ≤ b) A B C D (decR (decC l)).2 ∧ Ext w w' := by
 obtain ⟨q2, w1, hq2, hw1, hrx, hrz, hx1⟩ := box_zero w 29
 obtain ⟨qr, w2, hqr, hw2, hRd, hx2⟩ := box_reader w1 A l.length c 62
 obtain ⟨q3, w3, hq3, hw3, hbx, hbz, hx3⟩ := box_zero w2 29
 have hs1 : w1.heap.size = w.heap.size + 1 := by rw [hw1]; simp
 have hs2 : w2.heap.size = w.heap.size + 2 := by rw [hw2]; simp; omega
 have hs3 : w3.heap.size = w.heap.size + 3 := by rw [hw3]; simp; omega
 have HW1 := Lib.hid hw1
 have HW2 := Lib.hid hw2
 have HW3 := Lib.hid hw3
 have HQ2 := Lib.hid hq2
 have HQR := Lib.hid (show qr = q2 + 1 by omega)
 have HQ3 := Lib.hid (show q3 = qr + 1 by omega)
 have HQ := Lib.hid (show w.heap.size ≤ qr ∧ qr < w3.heap.size ∧ qr ≠ q2 ∧ qr ≠ q3 by omega)
 have HQX := Lib.hid (show Ext w w ∧ w.heap.size ≤ q2 from ⟨Ext.refl _, by omega⟩)
 have HBB := Lib.hid (show w.heap.size ≤ w3.heap.size by omega)
 have hx23 := hx2.trans hx3
 have HP0 := Lib.hid (⟨hx1.trans hx23, Nat.le_refl _, Col4.nil _ _, hbx, hbz, hrx.grown (hx23.gr none) (by simp), hrz.grown hrx (hx23.gr none) (by simp), by omega, by omega, by omega, by omega, by omega⟩ : PkS w w3.heap.size q2 q3 w3 (.slice none 0 0) (.slice none 0 0) (.slice none 0 0) (.slice none 0 0) (.slice none 0 0) (.slice none 0 0) (.slice none 0 0) (.slice none 0 0) noCol)
 have HR0 := Lib.hid (hRd.ext hx3)
 have HU := Lib.hid (fun W at_ e0 st (x : Ext w W) (hr : RdC W qr A l.length c at_ e0) (hs : okR l at_ e0 st) => co_ruint l ok A c qr at_ e0 st W hr hs (hv.ext x) hb hc)
 have HIC := Lib.hid (fun W at_ e0 base n st (hr : RdC W qr A l.length c at_ e0) (hs : okR l at_ e0 st) hbs => co_rid l A c qr at_ e0 base n st W hr hs hbs)
 have HN := Lib.hid (fun W at_ e0 base st (x : Ext w W) (hr : RdC W qr A l.length c at_ e0) (hs : okR l at_ e0 st) hbs => co_near l ok A c qr at_ e0 base st W hr hs hbs (hv.ext x) hb hc)
 have HC0 := Lib.hid (HU.out w3 0 0 (.ok l) HP0.out.ext HR0.out ⟨rfl, Nat.le_refl _, by omega, by rw [Nat.sub_self]; rfl⟩)
 obtain ⟨R, hR⟩ : ∃ R, R = decR (decC l) := ⟨_, rfl⟩
 rw [← hR]
 have HRS := Lib.hid hR
 clear hR hRd hv hb hw1 hw2 hw3 hq2 hqr hq3 hs1 hs2 hs3 hrx hrz hbx hbz hx1 hx2 hx3 hx23
 go_enter Tryz.func9, Tryz.ntmps9
 go_upto_region 3 with (fail)
 rw [← HW1.out, ← HQ2.out, ← HQR.out, ← HW2.out, ← HQ3.out, ← HW3.out]
 clear HW1 HW2 HW3 HQ2 HQR HQ3
 go_upto_region 4 with ((go_at_call 28; ((with_reducible refine (HC0.out).mono ?_); rintro e w4 ⟨cnt, at1, e1, st1, rfl, hR4, hO4, hT4, hg4⟩; have HP4 := Lib.hid (HP0.out.other HQ.out hg4); have HR4 := Lib.hid hR4; have HO4 := Lib.hid hO4; have hD := dec_start hT4; have hI := inv_start (cnt := cnt) hO4; obtain ⟨X, hX⟩ : ∃ X, X = cntS cnt st1 := ⟨_, rfl⟩; rw [← hX] at hD hI; have HD := Lib.hid hD; have HI4 := Lib.hid hI; clear hX hD hI hR4 hO4 hT4 hg4 HC0 HP0 HR0)))
 go_upto_block 0 with (fail)
 go_cut [3] from 7 (fun s3 wx => s3 = .int .i64 0 ∧ ∃ (at_ e0 : Int) (vN vF vT vE : Value) (C : Col) (st : Except Int (List Nat)), Hid (PkS w w3.heap.size q2 q3 wx vN vF vT vE vN vF vT vE C) ∧ Hid (RdC wx qr A l.length c at_ e0) ∧ Hid (okR l at_ e0 st) ∧ Hid (X = endS C st ∧ Bnd l.length st C))
 case first =>
  go_wp2_with fail
  go_loopw [7, 8, 9] (fun u7 u8 u9 W => ∃ (i : Nat) (node edge : Int) (at_ e0 : Int) (vN vF vT vE : Value) (C : Col) (st : Except Int (List Nat)), u7 = .int .i64 node ∧ u8 = .int .i64 edge ∧ u9 = .int .i64 i ∧ Hid (PkS w w3.heap.size q2 q3 W vN vF vT vE vN vF vT vE C) ∧ Hid (RdC W qr A l.length c at_ e0) ∧ Hid (okR l at_ e0 st) ∧ Hid (InvO l.length cnt X i node edge C st)) (fun _ _ u9 _ => cnt.toNat - (intOf u9).toNat)
  case atStart => exact ⟨0, 0, 0, at1, e1, _, _, _, _, noCol, st1, rfl, rfl, rfl, HP4, HR4, HO4, HI4⟩
  case round =>
   clear HP4 HR4 HO4 HI4
   obtain ⟨i, node, edge, at2, e2, vN, vF, vT, vE, C, st2, rfl, rfl, rfl, HP, HR, HO, HI⟩ := hrel
   by_cases hi : (i : Int) < cnt
   ·cases st2 with
    | error er =>
     have g : decide ((i : Int) < cnt) = true := decide_eq_true hi
     have g2 : (e2 == 0) = false := by rw [beq_eq_false_iff_ne, HO.out.1]; exact HO.out.2
     have g3 : decide (e2 = 0) = false := decide_eq_false (by rw [HO.out.1]; exact HO.out.2)
     have HE := Lib.hid (inv_end HI.out (fun r hr => by cases hr))
     obtain ⟨c0, c1, c2, -, -⟩ := HR.out
     clear HI
     go_wp2_with fail
     go_meet
     case rel => exact ⟨rfl, at2, e2, vN, vF, vT, vE, C, _, HP, HR, HO, HE⟩
    | ok r =>
     have he : e2 = 0 := HO.out.1
     subst he
     have HIL := Lib.hid hi
     have hib := HI.out.b.ok
     have hfl := HI.out.b.f
     have hlb : i + 1 ≤ 1000001 := by have := HI.out.i; omega
     have hl0 : C.nodes.length + 1 ≤ 8388608 := by omega
     have hl1 : C.first.length + 1 ≤ 8388608 := by omega
     have HRN := Lib.hid (show 0 ≤ node ∧ node ≤ 1000000 from HI.out.rn)
     have HC1 := Lib.hid (HU.out wr at2 0 (.ok r) HP.out.ext HR.out HO.out)
     have g : decide ((i : Int) < cnt) = true := decide_eq_true hi
     obtain ⟨AT, cT, rfl⟩ := HP.out.c4.t.form
     obtain ⟨c0, c1, c2, -, -⟩ := HR.out
     clear hib hfl
     go_upto_region 8 with (fail)
     clear g c0 c1 c2
     go_upto_region 10 with (first | (go_at_call 28; ((with_reducible refine (HC1.out).mono ?_); rintro e w5 ⟨d, at5, e5, st5, rfl, hR5, hO5, hT5, hg5⟩; have HP5 := Lib.hid (HP.out.other HQ.out hg5); have HT5 := Lib.hid hT5; have HC2 := Lib.hid (HIC.out w5 at5 e5 node d st5 hR5 hO5 (fun _ => HRN.out)); clear hR5 hO5 hT5 hg5 HC1)) | (go_at_call 29; ((with_reducible refine (HC2.out).mono ?_); rintro e w6 ⟨nd, e6, st6, rfl, hR6, hO6, hT6, hg6⟩; have HP6 := Lib.hid (HP5.out.other HQ.out hg6); have HT6 := Lib.hid hT6; have HC3 := Lib.hid (HU.out w6 at5 e6 st6 HP6.out.ext hR6 hO6); clear hR6 hO6 hT6 hg6 HC2)) | (go_at_call 28; ((with_reducible refine (HC3.out).mono ?_); rintro e w7 ⟨many, at7, e7, st7, rfl, hR7, hO7, hT7, hg7⟩; have HP7 := Lib.hid (HP6.out.other HQ.out hg7); have HR7 := Lib.hid hR7; have HO7 := Lib.hid hO7; have hI := inv_row HI.out HIL.out HT5.out HT6.out hT7; obtain ⟨C2, hC2⟩ : ∃ C2, C2 = ({ { C with nodes := C.nodes ++ [nd] } with first := C.first ++ [(C.tos.length : Int)] } : Col) := ⟨_, rfl⟩; rw [← hC2] at hI; have HII := Lib.hid hI; have HC2E := Lib.hid hC2; clear hI hC2 hR7 hO7 hT7 hg7 HC3 HP5 HP6 HT5 HT6)))
     obtain ⟨bb, hbb⟩ : ∃ bb, bb = (decide (e7 = 0) && decide (many = 0)) := ⟨_, rfl⟩
     have HBB := Lib.hid hbb
     have HB1 := Lib.hid (fun (h1 : e7 = 0) (h2 : many = 0) => (by rw [hbb, h1, h2]; rfl : bb = true))
     have HB2 := Lib.hid (fun (h1 : ¬ e7 = 0) => (by rw [hbb, decide_eq_false h1]; rfl : bb = false))
     have HB3 := Lib.hid (fun (h1 : ¬ many = 0) => (by rw [hbb, decide_eq_false h1, Bool.and_false] : bb = false))
     clear hbb
     obtain ⟨c0, c1, c2, f1, f2⟩ := HR7.out
     go_cut [45] from 18 to 93 (fun s45 wx => s45 = .bool bb ∧ wx = w7)
     case first =>
      by_cases he : e7 = 0
      ·rw [he] at c2
       by_cases hm : many = 0
       ·have K := Lib.hid (HB1.out he hm)
        have g : (many == 0) = true := beq_iff_eq.2 hm
        have g1 : decide (many = 0) = true := decide_eq_true hm
        clear he hm HB1 HB2 HB3
        go_wp2_with fail
        go_meet
        case rel => exact ⟨by rw [K.out], rfl⟩
       ·have K := Lib.hid (HB3.out hm)
        have g : (many == 0) = false := beq_eq_false_iff_ne.2 hm
        have g1 : decide (many = 0) = false := decide_eq_false hm
        clear he hm HB1 HB2 HB3
        go_wp2_with fail
        go_meet
        case rel => exact ⟨by rw [K.out], rfl⟩
      ·have K := Lib.hid (HB2.out he)
       have g : (e7 == 0) = false := beq_eq_false_iff_ne.2 he
       have g1 : decide (e7 = 0) = false := decide_eq_false he
       clear he HB1 HB2 HB3
       go_wp2_with fail
       go_meet
       case rel => exact ⟨by rw [K.out], rfl⟩
     case rest =>
      obtain ⟨rfl, hwx⟩ := hcut
      subst hwx
      obtain ⟨w8, hw8⟩ : ∃ W, W = wc := ⟨_, rfl⟩
      subst hw8
      clear HB1 HB2 HB3
      go_upto_if 45 with (fail)
      go_cut [9] from 18 to 93 (fun s9 wx => s9 = .int .i64 i ∧ ∃ (e8 : Int), Hid (PkS w w3.heap.size q2 q3 wx vN vF (.slice AT C.tos.length cT) vE vN vF (.slice AT C.tos.length cT) vE C) ∧ Hid (RdC wx qr A l.length c at7 e8) ∧ Hid (okR l at7 e8 (chkS st7 many)))
      case first =>
       cases bb
       ·have K := Lib.hid (chk_no HO7.out HBB.out.symm)
        clear HBB
        go_wp2_with fail
        go_meet
        case rel => exact ⟨rfl, e7, HP7, HR7, Lib.hid (by rw [K.out]; exact HO7.out)⟩
       ·have K := Lib.hid (chk_yes HO7.out HBB.out.symm)
        have HPS := Lib.hid (HP7.out.other HQ.out (gr_set w8 qr 2 (.int .i64 1)))
        have HRS := Lib.hid (HR7.out.setE 1)
        clear HBB
        go_wp2_with fail
        go_meet
        case rel => exact ⟨rfl, 1, HPS, HRS, Lib.hid (by rw [K.out]; exact ⟨rfl, by decide⟩)⟩
      case rest =>
       obtain ⟨rfl, e8, HP8, HR8, HO8⟩ := hcut
       obtain ⟨w9, hw9⟩ : ∃ W, W = wc := ⟨_, rfl⟩
       subst hw9
       clear HBB HP7 HR7 HO7 c0 c1 c2 f1 f2
       generalize chkS st7 many = st8 at *
       have HYN := Lib.hid (show some qr ≠ vN.ownBlock from fun e => by have h1 := (OwnG.lt HP8.out.c4.n e.symm).1; have h2 := HQ.out.2.1; omega)
       have HYF := Lib.hid (show some qr ≠ vF.ownBlock from fun e => by have h1 := (OwnG.lt HP8.out.c4.f e.symm).1; have h2 := HQ.out.2.1; omega)
       have HYQ := Lib.hid (show some qr ≠ some q3 from fun e => HQ.out.2.2.2 (Option.some.inj e))
       go_upto_region 12 with (fail)
       go_cut [9] from 18 to 93 (fun s9 wx => s9 = .int .i64 i ∧ ∃ (vN' vF' : Value), Hid (PkS w w3.heap.size q2 q3 wx vN' vF' (.slice AT C.tos.length cT) vE vN' vF' (.slice AT C.tos.length cT) vE C2) ∧ Hid (RdC wx qr A l.length c at7 e8))
       case first =>
        have HM := Lib.hid (fun V (e : Ext w9 V) => (⟨e.cell HP8.out.bx.1, e.cell HP8.out.bx.2.1, e.cell HP8.out.bx.2.2.1⟩ : V.cell? ⟨q3, 0, none⟩ = some vN ∧ V.cell? ⟨q3, 1, none⟩ = some vF ∧ V.cell? ⟨q3, 2, none⟩ = some (.slice AT C.tos.length cT)))
        have HT := Lib.hid (fun V (e : Ext w9 V) => (HR8.out.ext e : RdC V qr A l.length c at7 e8))
        obtain ⟨z0, z1, z2⟩ := HM.out w9 (Ext.refl _)
        obtain ⟨c0, c1, c2, -, -⟩ := HR8.out
        refine AnyT.start (S := (fun V => (V.cell? ⟨q3, 0, none⟩ = some vN ∧ V.cell? ⟨q3, 1, none⟩ = some vF ∧ V.cell? ⟨q3, 2, none⟩ = some (.slice AT C.tos.length cT)) ∧ RdC V qr A l.length c at7 e8)) (T := (fun V => RdC V qr A l.length c at7 e8)) (E := 13) (by kernel_rfl) ?hs56029 (fun hHeld => ?go56029)
        case hs56029 => exact ⟨by (first | exact ⟨HM.out _ (by solve_by_elim [X0, X1, X2, X3]), HT.out _ (by solve_by_elim [X0, X1, X2, X3])⟩ | exact ⟨MSAtO.out _ (by solve_by_elim [X0, X1, X2, X3]), MTAtO.out _ (by solve_by_elim [X0, X1, X2, X3])⟩ | exact ⟨MSBtO.out _ (by solve_by_elim [X0, X1, X2, X3]), MTBtO.out _ (by solve_by_elim [X0, X1, X2, X3])⟩), by (first | exact HT.out _ (by solve_by_elim [X0, X1, X2, X3]) | exact MTAtO.out _ (by solve_by_elim [X0, X1, X2, X3]) | exact MTBtO.out _ (by solve_by_elim [X0, X1, X2, X3]) | exact MTCtO.out _ (by solve_by_elim [X0, X1, X2, X3]) | exact MTDtO.out _ (by solve_by_elim [X0, X1, X2, X3]))⟩
        refine TB 0 (v := ?v56030) ⟨fun _ => hHeld.1, hHeld.2⟩ ?hy56030 ?_
        case hy56030 => (intro w hSw; (try dsimp only at hSw); go_simp <;> first | with_reducible rfl | rw [if_neg (by omega)] | rw [if_pos (by omega)])
        (try simp only [PU])
        refine TA 1 (v := ?v56031) hHeld ?hy56031 ?_
        case hy56031 => (intro w hSw; (try dsimp only at hSw); go_simp <;> first | with_reducible rfl | rw [if_neg (by omega)] | rw [if_pos (by omega)])
        (try simp only [PU])
        refine TB 2 (v := ?v56032) ⟨fun _ => hHeld.1, hHeld.2⟩ ?hy56032 ?_
        case hy56032 => (intro w hSw; (try dsimp only at hSw); go_simp <;> first | with_reducible rfl | rw [if_neg (by omega)] | rw [if_pos (by omega)])
        (try simp only [PU])
        refine TB 5 (v := ?v56033) ⟨fun _ => hHeld.1, hHeld.2⟩ ?hy56033 ?_
        case hy56033 => (intro w hSw; (try dsimp only at hSw); go_simp <;> first | with_reducible rfl | rw [if_neg (by omega)] | rw [if_pos (by omega)])
        (try simp only [PU])
        refine TA 6 (v := ?v56034) hHeld ?hy56034 ?_
        case hy56034 => (intro w hSw; (try dsimp only at hSw); go_simp <;> first | with_reducible rfl | rw [if_neg (by omega)] | rw [if_pos (by omega)])
        (try simp only [PU])
        refine TB 7 (v := ?v56035) ⟨fun _ => hHeld.1, hHeld.2⟩ ?hy56035 ?_
        case hy56035 => (intro w hSw; (try dsimp only at hSw); go_simp <;> first | with_reducible rfl | rw [if_neg (by omega)] | rw [if_pos (by omega)])
        (try simp only [PU])
        refine TA 8 (v := ?v56036) hHeld ?hy56036 ?_
        case hy56036 => (intro w hSw; (try dsimp only at hSw); go_simp <;> first | with_reducible rfl | rw [if_neg (by omega)] | rw [if_pos (by omega)])
        (try simp only [PU])
        refine TB 9 (v := ?v56037) ⟨fun _ => hHeld.1, hHeld.2⟩ ?hy56037 ?_
        case hy56037 => (intro w hSw; (try dsimp only at hSw); go_simp <;> first | with_reducible rfl | rw [if_neg (by omega)] | rw [if_pos (by omega)])
        (try simp only [PU])
        refine AnyT.ready (rs := [3, 10]) (by kernel_rfl) (by simp) ?_
        refine AllT.cons (o := ⟨_, _, _, _, _, _⟩) rfl (fun K hK => ?step56038x0) ?more56038x0
        case more56038x0 =>
         refine AllT.cons (o := ⟨_, _, _, _, _, _⟩) rfl (fun K hK => ?step56038x1) ?more56038x1
         case more56038x1 => exact AllT.nil
         go_simp
         refine hK.out _ _ ?hS56038x1 (fun H56038 => ?_)
         case hS56038x1 => exact ⟨fun _ => by (first | exact ⟨HM.out _ (by solve_by_elim [X0, X1, X2, X3]), HT.out _ (by solve_by_elim [X0, X1, X2, X3])⟩ | exact ⟨MSAtO.out _ (by solve_by_elim [X0, X1, X2, X3]), MTAtO.out _ (by solve_by_elim [X0, X1, X2, X3])⟩ | exact ⟨MSBtO.out _ (by solve_by_elim [X0, X1, X2, X3]), MTBtO.out _ (by solve_by_elim [X0, X1, X2, X3])⟩), by (first | exact HT.out _ (by solve_by_elim [X0, X1, X2, X3]) | exact MTAtO.out _ (by solve_by_elim [X0, X1, X2, X3]) | exact MTBtO.out _ (by solve_by_elim [X0, X1, X2, X3]) | exact MTCtO.out _ (by solve_by_elim [X0, X1, X2, X3]) | exact MTDtO.out _ (by solve_by_elim [X0, X1, X2, X3]))⟩
         clear hK K
         clear hHeld
         (try simp only [PU])
         refine AnyT.ready (rs := [3]) (by kernel_rfl) (by simp) ?_
         refine AllT.cons (o := ⟨_, _, _, _, _, _⟩) rfl (fun K hK => ?step56039x0) ?more56039x0
         case more56039x0 => exact AllT.nil
         go_simp
         refine hK.out _ _ ?hS56039x0 (fun H56039 => ?_)
         case hS56039x0 => exact ⟨fun _ => by (first | exact ⟨HM.out _ (by solve_by_elim [X0, X1, X2, X3]), HT.out _ (by solve_by_elim [X0, X1, X2, X3])⟩ | exact ⟨MSAtO.out _ (by solve_by_elim [X0, X1, X2, X3]), MTAtO.out _ (by solve_by_elim [X0, X1, X2, X3])⟩ | exact ⟨MSBtO.out _ (by solve_by_elim [X0, X1, X2, X3]), MTBtO.out _ (by solve_by_elim [X0, X1, X2, X3])⟩), by (first | exact HT.out _ (by solve_by_elim [X0, X1, X2, X3]) | exact MTAtO.out _ (by solve_by_elim [X0, X1, X2, X3]) | exact MTBtO.out _ (by solve_by_elim [X0, X1, X2, X3]) | exact MTCtO.out _ (by solve_by_elim [X0, X1, X2, X3]) | exact MTDtO.out _ (by solve_by_elim [X0, X1, X2, X3]))⟩
         clear hK K
         clear H56038
         (try simp only [PU])
         refine AnyT.ready (rs := [4]) (by kernel_rfl) (by simp) ?_
         refine AllT.cons (o := ⟨_, _, _, _, _, _⟩) rfl (fun K hK => ?step56040x0) ?more56040x0
         case more56040x0 => exact AllT.nil
         (refine step_pushAt T_ki rfl (.tmp 50) (.tmp 52) rfl rfl (OwnG.ext HP8.out.c4.n (by solve_by_elim [X0, X1, X2, X3])) (Nat.le_trans HP8.out.le (Ext.le (a := w9) (by solve_by_elim [X0, X1, X2, X3]))) nd trivial ⟨_, 0, none⟩ 1 rfl (int_cell (by go_simp)) hl0 (by decide) ?_; intro va0 wtOa hO hg hd; obtain ⟨AtOa, ntOa, ctOa, rfl⟩ := own_fm hO; have hPa := (HP8.out.exts (W' := _) (by solve_by_elim [X0, X1, X2, X3])).pushN hO hg (Nat.le_refl _) hd; have HPatO := Lib.hid hPa; have MSAtO := Lib.hid (fun V (e : Ext wtOa V) => (⟨e.cell hPa.bx.1, e.cell hPa.bx.2.1, e.cell hPa.bx.2.2.1⟩ : V.cell? ⟨q3, 0, none⟩ = some vN ∧ V.cell? ⟨q3, 1, none⟩ = some vF ∧ V.cell? ⟨q3, 2, none⟩ = some (.slice AT C.tos.length cT))); have MTAtO := Lib.hid (fun V (e : Ext wtOa V) => (RdC.ext (RdC.grown (HT.out _ (by solve_by_elim [X0, X1, X2, X3])) hg HYN.out) e : RdC V qr A l.length c at7 e8)); have zbtO := hg.cell (show World.cell? _ ⟨w9.heap.size, 0, none⟩ = some (.int .i64 (C.tos.length : Int)) from by go_simp) (fun e => by have := (OwnG.lt HP8.out.c4.n (g := w9.heap.size) e.symm).2; omega); clear hO hg hd hPa)
         refine hK.out _ _ ?hS56040x0 (fun H56040 => ?_)
         case hS56040x0 => exact ⟨fun _ => by (first | exact ⟨HM.out _ (by solve_by_elim [X0, X1, X2, X3]), HT.out _ (by solve_by_elim [X0, X1, X2, X3])⟩ | exact ⟨MSAtO.out _ (by solve_by_elim [X0, X1, X2, X3]), MTAtO.out _ (by solve_by_elim [X0, X1, X2, X3])⟩ | exact ⟨MSBtO.out _ (by solve_by_elim [X0, X1, X2, X3]), MTBtO.out _ (by solve_by_elim [X0, X1, X2, X3])⟩), by (first | exact HT.out _ (by solve_by_elim [X0, X1, X2, X3]) | exact MTAtO.out _ (by solve_by_elim [X0, X1, X2, X3]) | exact MTBtO.out _ (by solve_by_elim [X0, X1, X2, X3]) | exact MTCtO.out _ (by solve_by_elim [X0, X1, X2, X3]) | exact MTDtO.out _ (by solve_by_elim [X0, X1, X2, X3]))⟩
         clear hK K
         clear H56039
         (try simp only [PU])
         refine TB 12 (v := ?v56041) H56040 ?hy56041 ?_
         case hy56041 => (intro w hSw; (try dsimp only at hSw); go_simp <;> first | with_reducible rfl | rw [if_neg (by omega)] | rw [if_pos (by omega)])
         (try simp only [PU])
         refine AnyT.ready (rs := [11]) (by kernel_rfl) (by simp) ?_
         refine AllT.cons (o := ⟨_, _, _, _, _, _⟩) rfl (fun K hK => ?step56042x0) ?more56042x0
         case more56042x0 => exact AllT.nil
         (refine step_pushAt T_ki rfl (.tmp 55) (.tmp 59) rfl rfl (OwnG.ext HPatO.out.c4.f (by solve_by_elim [X0, X1, X2, X3])) (Nat.le_trans HPatO.out.le (Ext.le (a := wtOa) (by solve_by_elim [X0, X1, X2, X3]))) (C.tos.length : Int) trivial ⟨_, 0, none⟩ 1 rfl (int_cell zbtO) hl1 (by decide) ?_; intro vb0 wtOb hO hg hd; obtain ⟨AtOb, ntOb, ctOb, rfl⟩ := own_fm hO; have hPb := (HPatO.out.exts (W' := _) (by solve_by_elim [X0, X1, X2, X3])).pushF hO hg (Nat.le_refl _) hd; have MSBtO := Lib.hid (fun V (e : Ext wtOb V) => (⟨e.cell hPb.bx.1, e.cell hPb.bx.2.1, e.cell hPb.bx.2.2.1⟩ : V.cell? ⟨q3, 0, none⟩ = some vN ∧ V.cell? ⟨q3, 1, none⟩ = some vF ∧ V.cell? ⟨q3, 2, none⟩ = some (.slice AT C.tos.length cT))); have MTBtO := Lib.hid (fun V (e : Ext wtOb V) => (RdC.ext (RdC.grown (MTAtO.out _ (by solve_by_elim [X0, X1, X2, X3])) hg HYF.out) e : RdC V qr A l.length c at7 e8)); have zqtO := hPb.bx.1; have zftO := hPb.fz.1; have hPc := hPb.put0 (.slice AtOa ntOa ctOa); have MTCtO := Lib.hid (fun V (e : Ext (wtOb.setCell ⟨q3, 0, none⟩ (.slice AtOa ntOa ctOa)) V) => (RdC.ext (RdC.grown (MTBtO.out _ (Ext.refl _)) (gr_set _ _ _ _) HYQ.out) e : RdC V qr A l.length c at7 e8)); obtain ⟨wtOc, hwtOc⟩ : ∃ W, W = wtOb.setCell ⟨q3, 0, none⟩ (.slice AtOa ntOa ctOa) := ⟨_, rfl⟩; rw [← hwtOc] at hPc MTCtO; have zrtO := hPc.bx.2.1; have zgtO := hPc.fz.2.1; have hPd := hPc.put1 (.slice AtOb ntOb ctOb); have MTDtO := Lib.hid (fun V (e : Ext (wtOc.setCell ⟨q3, 1, none⟩ (.slice AtOb ntOb ctOb)) V) => (RdC.ext (RdC.grown (MTCtO.out _ (Ext.refl _)) (gr_set _ _ _ _) HYQ.out) e : RdC V qr A l.length c at7 e8)); obtain ⟨wtOd, hwtOd⟩ : ∃ W, W = wtOc.setCell ⟨q3, 1, none⟩ (.slice AtOb ntOb ctOb) := ⟨_, rfl⟩; rw [← hwtOd] at hPd MTDtO; have HPdtO := Lib.hid hPd; clear hO hg hd hPb hPc hPd)
         refine hK.out _ _ ?hS56042x0 (fun H56042 => ?_)
         case hS56042x0 => exact ⟨fun _ => by (first | exact ⟨HM.out _ (by solve_by_elim [X0, X1, X2, X3]), HT.out _ (by solve_by_elim [X0, X1, X2, X3])⟩ | exact ⟨MSAtO.out _ (by solve_by_elim [X0, X1, X2, X3]), MTAtO.out _ (by solve_by_elim [X0, X1, X2, X3])⟩ | exact ⟨MSBtO.out _ (by solve_by_elim [X0, X1, X2, X3]), MTBtO.out _ (by solve_by_elim [X0, X1, X2, X3])⟩), by (first | exact HT.out _ (by solve_by_elim [X0, X1, X2, X3]) | exact MTAtO.out _ (by solve_by_elim [X0, X1, X2, X3]) | exact MTBtO.out _ (by solve_by_elim [X0, X1, X2, X3]) | exact MTCtO.out _ (by solve_by_elim [X0, X1, X2, X3]) | exact MTDtO.out _ (by solve_by_elim [X0, X1, X2, X3]))⟩
         clear hK K
         clear H56040
         (try simp only [PU])
         refine AnyT.ready (rs := [13]) (by kernel_rfl) (by simp) ?_
         refine AllT.cons (o := ⟨_, _, _, _, _, _⟩) rfl (fun K hK => ?step56043x0) ?more56043x0
         case more56043x0 => exact AllT.nil
         go_simp
         (rw [← hwtOc]; clear hwtOc)
         refine hK.out _ _ ?hS56043x0 (fun H56043 => ?_)
         case hS56043x0 => exact ⟨fun h => (by first | exact absurd h (by decide) | simp at h), by (first | exact HT.out _ (by solve_by_elim [X0, X1, X2, X3]) | exact MTAtO.out _ (by solve_by_elim [X0, X1, X2, X3]) | exact MTBtO.out _ (by solve_by_elim [X0, X1, X2, X3]) | exact MTCtO.out _ (by solve_by_elim [X0, X1, X2, X3]) | exact MTDtO.out _ (by solve_by_elim [X0, X1, X2, X3]))⟩
         clear hK K
         clear H56042
         refine TB 14 (v := ?v56044) H56043 ?hy56044 ?_
         case hy56044 => (intro w hSw; (try dsimp only at hSw); go_simp <;> first | with_reducible rfl | rw [if_neg (by omega)] | rw [if_pos (by omega)])
         (try simp only [PU])
         refine AnyT.ready (rs := [15]) (by kernel_rfl) (by simp) ?_
         refine AllT.cons (o := ⟨_, _, _, _, _, _⟩) rfl (fun K hK => ?step56045x0) ?more56045x0
         case more56045x0 => exact AllT.nil
         go_simp
         (rw [← hwtOd]; clear hwtOd)
         refine hK.out _ _ ?hS56045x0 (fun H56045 => ?_)
         case hS56045x0 => exact ⟨fun h => (by first | exact absurd h (by decide) | simp at h), by (first | exact HT.out _ (by solve_by_elim [X0, X1, X2, X3]) | exact MTAtO.out _ (by solve_by_elim [X0, X1, X2, X3]) | exact MTBtO.out _ (by solve_by_elim [X0, X1, X2, X3]) | exact MTCtO.out _ (by solve_by_elim [X0, X1, X2, X3]) | exact MTDtO.out _ (by solve_by_elim [X0, X1, X2, X3]))⟩
         clear hK K
         clear H56043
         refine AnyT.done (by kernel_rfl) ?_ _
         clear H56045
         go_wp2_with fail
         go_meet
         case rel => exact ⟨rfl, (.slice AtOa ntOa ctOa), (.slice AtOb ntOb ctOb), Lib.hid (by rw [HC2E.out]; exact HPdtO.out), Lib.hid (MTDtO.out _ (Ext.refl _))⟩
        go_simp
        refine hK.out _ _ ?hS56038x0 (fun H56038 => ?_)
        case hS56038x0 => exact ⟨fun _ => by (first | exact ⟨HM.out _ (by solve_by_elim [X0, X1, X2, X3]), HT.out _ (by solve_by_elim [X0, X1, X2, X3])⟩ | exact ⟨MSAtO.out _ (by solve_by_elim [X0, X1, X2, X3]), MTAtO.out _ (by solve_by_elim [X0, X1, X2, X3])⟩ | exact ⟨MSBtO.out _ (by solve_by_elim [X0, X1, X2, X3]), MTBtO.out _ (by solve_by_elim [X0, X1, X2, X3])⟩), by (first | exact HT.out _ (by solve_by_elim [X0, X1, X2, X3]) | exact MTAtO.out _ (by solve_by_elim [X0, X1, X2, X3]) | exact MTBtO.out _ (by solve_by_elim [X0, X1, X2, X3]) | exact MTCtO.out _ (by solve_by_elim [X0, X1, X2, X3]) | exact MTDtO.out _ (by solve_by_elim [X0, X1, X2, X3]))⟩
        clear hK K
        clear hHeld
        (try simp only [PU])
        refine AnyT.ready (rs := [4, 10]) (by kernel_rfl) (by simp) ?_
        refine AllT.cons (o := ⟨_, _, _, _, _, _⟩) rfl (fun K hK => ?step56046x0) ?more56046x0
        case more56046x0 =>
         refine AllT.cons (o := ⟨_, _, _, _, _, _⟩) rfl (fun K hK => ?step56046x1) ?more56046x1
         case more56046x1 => exact AllT.nil
         go_simp
         refine hK.out _ _ ?hS56046x1 (fun H56046 => ?_)
         case hS56046x1 => exact ⟨fun _ => by (first | exact ⟨HM.out _ (by solve_by_elim [X0, X1, X2, X3]), HT.out _ (by solve_by_elim [X0, X1, X2, X3])⟩ | exact ⟨MSAtO.out _ (by solve_by_elim [X0, X1, X2, X3]), MTAtO.out _ (by solve_by_elim [X0, X1, X2, X3])⟩ | exact ⟨MSBtO.out _ (by solve_by_elim [X0, X1, X2, X3]), MTBtO.out _ (by solve_by_elim [X0, X1, X2, X3])⟩), by (first | exact HT.out _ (by solve_by_elim [X0, X1, X2, X3]) | exact MTAtO.out _ (by solve_by_elim [X0, X1, X2, X3]) | exact MTBtO.out _ (by solve_by_elim [X0, X1, X2, X3]) | exact MTCtO.out _ (by solve_by_elim [X0, X1, X2, X3]) | exact MTDtO.out _ (by solve_by_elim [X0, X1, X2, X3]))⟩
         clear hK K
         clear H56038
         (try simp only [PU])
         refine AnyT.ready (rs := [4]) (by kernel_rfl) (by simp) ?_
         refine AllT.cons (o := ⟨_, _, _, _, _, _⟩) rfl (fun K hK => ?step56047x0) ?more56047x0
         case more56047x0 => exact AllT.nil
         (refine step_pushAt T_ki rfl (.tmp 50) (.tmp 52) rfl rfl (OwnG.ext HP8.out.c4.n (by solve_by_elim [X0, X1, X2, X3])) (Nat.le_trans HP8.out.le (Ext.le (a := w9) (by solve_by_elim [X0, X1, X2, X3]))) nd trivial ⟨_, 0, none⟩ 1 rfl (int_cell (by go_simp)) hl0 (by decide) ?_; intro va0 wtOa hO hg hd; obtain ⟨AtOa, ntOa, ctOa, rfl⟩ := own_fm hO; have hPa := (HP8.out.exts (W' := _) (by solve_by_elim [X0, X1, X2, X3])).pushN hO hg (Nat.le_refl _) hd; have HPatO := Lib.hid hPa; have MSAtO := Lib.hid (fun V (e : Ext wtOa V) => (⟨e.cell hPa.bx.1, e.cell hPa.bx.2.1, e.cell hPa.bx.2.2.1⟩ : V.cell? ⟨q3, 0, none⟩ = some vN ∧ V.cell? ⟨q3, 1, none⟩ = some vF ∧ V.cell? ⟨q3, 2, none⟩ = some (.slice AT C.tos.length cT))); have MTAtO := Lib.hid (fun V (e : Ext wtOa V) => (RdC.ext (RdC.grown (HT.out _ (by solve_by_elim [X0, X1, X2, X3])) hg HYN.out) e : RdC V qr A l.length c at7 e8)); have zbtO := hg.cell (show World.cell? _ ⟨w9.heap.size + 1, 0, none⟩ = some (.int .i64 (C.tos.length : Int)) from by go_simp) (fun e => by have := (OwnG.lt HP8.out.c4.n (g := w9.heap.size + 1) e.symm).2; omega); clear hO hg hd hPa)
         refine hK.out _ _ ?hS56047x0 (fun H56047 => ?_)
         case hS56047x0 => exact ⟨fun _ => by (first | exact ⟨HM.out _ (by solve_by_elim [X0, X1, X2, X3]), HT.out _ (by solve_by_elim [X0, X1, X2, X3])⟩ | exact ⟨MSAtO.out _ (by solve_by_elim [X0, X1, X2, X3]), MTAtO.out _ (by solve_by_elim [X0, X1, X2, X3])⟩ | exact ⟨MSBtO.out _ (by solve_by_elim [X0, X1, X2, X3]), MTBtO.out _ (by solve_by_elim [X0, X1, X2, X3])⟩), by (first | exact HT.out _ (by solve_by_elim [X0, X1, X2, X3]) | exact MTAtO.out _ (by solve_by_elim [X0, X1, X2, X3]) | exact MTBtO.out _ (by solve_by_elim [X0, X1, X2, X3]) | exact MTCtO.out _ (by solve_by_elim [X0, X1, X2, X3]) | exact MTDtO.out _ (by solve_by_elim [X0, X1, X2, X3]))⟩
         clear hK K
         clear H56046
         (try simp only [PU])
         refine TB 12 (v := ?v56048) H56047 ?hy56048 ?_
         case hy56048 => (intro w hSw; (try dsimp only at hSw); go_simp <;> first | with_reducible rfl | rw [if_neg (by omega)] | rw [if_pos (by omega)])
         (try simp only [PU])
         refine AnyT.ready (rs := [11]) (by kernel_rfl) (by simp) ?_
         refine AllT.cons (o := ⟨_, _, _, _, _, _⟩) rfl (fun K hK => ?step56049x0) ?more56049x0
         case more56049x0 => exact AllT.nil
         (refine step_pushAt T_ki rfl (.tmp 55) (.tmp 59) rfl rfl (OwnG.ext HPatO.out.c4.f (by solve_by_elim [X0, X1, X2, X3])) (Nat.le_trans HPatO.out.le (Ext.le (a := wtOa) (by solve_by_elim [X0, X1, X2, X3]))) (C.tos.length : Int) trivial ⟨_, 0, none⟩ 1 rfl (int_cell zbtO) hl1 (by decide) ?_; intro vb0 wtOb hO hg hd; obtain ⟨AtOb, ntOb, ctOb, rfl⟩ := own_fm hO; have hPb := (HPatO.out.exts (W' := _) (by solve_by_elim [X0, X1, X2, X3])).pushF hO hg (Nat.le_refl _) hd; have MSBtO := Lib.hid (fun V (e : Ext wtOb V) => (⟨e.cell hPb.bx.1, e.cell hPb.bx.2.1, e.cell hPb.bx.2.2.1⟩ : V.cell? ⟨q3, 0, none⟩ = some vN ∧ V.cell? ⟨q3, 1, none⟩ = some vF ∧ V.cell? ⟨q3, 2, none⟩ = some (.slice AT C.tos.length cT))); have MTBtO := Lib.hid (fun V (e : Ext wtOb V) => (RdC.ext (RdC.grown (MTAtO.out _ (by solve_by_elim [X0, X1, X2, X3])) hg HYF.out) e : RdC V qr A l.length c at7 e8)); have zqtO := hPb.bx.1; have zftO := hPb.fz.1; have hPc := hPb.put0 (.slice AtOa ntOa ctOa); have MTCtO := Lib.hid (fun V (e : Ext (wtOb.setCell ⟨q3, 0, none⟩ (.slice AtOa ntOa ctOa)) V) => (RdC.ext (RdC.grown (MTBtO.out _ (Ext.refl _)) (gr_set _ _ _ _) HYQ.out) e : RdC V qr A l.length c at7 e8)); obtain ⟨wtOc, hwtOc⟩ : ∃ W, W = wtOb.setCell ⟨q3, 0, none⟩ (.slice AtOa ntOa ctOa) := ⟨_, rfl⟩; rw [← hwtOc] at hPc MTCtO; have zrtO := hPc.bx.2.1; have zgtO := hPc.fz.2.1; have hPd := hPc.put1 (.slice AtOb ntOb ctOb); have MTDtO := Lib.hid (fun V (e : Ext (wtOc.setCell ⟨q3, 1, none⟩ (.slice AtOb ntOb ctOb)) V) => (RdC.ext (RdC.grown (MTCtO.out _ (Ext.refl _)) (gr_set _ _ _ _) HYQ.out) e : RdC V qr A l.length c at7 e8)); obtain ⟨wtOd, hwtOd⟩ : ∃ W, W = wtOc.setCell ⟨q3, 1, none⟩ (.slice AtOb ntOb ctOb) := ⟨_, rfl⟩; rw [← hwtOd] at hPd MTDtO; have HPdtO := Lib.hid hPd; clear hO hg hd hPb hPc hPd)
         refine hK.out _ _ ?hS56049x0 (fun H56049 => ?_)
         case hS56049x0 => exact ⟨fun _ => by (first | exact ⟨HM.out _ (by solve_by_elim [X0, X1, X2, X3]), HT.out _ (by solve_by_elim [X0, X1, X2, X3])⟩ | exact ⟨MSAtO.out _ (by solve_by_elim [X0, X1, X2, X3]), MTAtO.out _ (by solve_by_elim [X0, X1, X2, X3])⟩ | exact ⟨MSBtO.out _ (by solve_by_elim [X0, X1, X2, X3]), MTBtO.out _ (by solve_by_elim [X0, X1, X2, X3])⟩), by (first | exact HT.out _ (by solve_by_elim [X0, X1, X2, X3]) | exact MTAtO.out _ (by solve_by_elim [X0, X1, X2, X3]) | exact MTBtO.out _ (by solve_by_elim [X0, X1, X2, X3]) | exact MTCtO.out _ (by solve_by_elim [X0, X1, X2, X3]) | exact MTDtO.out _ (by solve_by_elim [X0, X1, X2, X3]))⟩
         clear hK K
         clear H56047
         (try simp only [PU])
         refine AnyT.ready (rs := [13]) (by kernel_rfl) (by simp) ?_
         refine AllT.cons (o := ⟨_, _, _, _, _, _⟩) rfl (fun K hK => ?step56050x0) ?more56050x0
         case more56050x0 => exact AllT.nil
         go_simp
         (rw [← hwtOc]; clear hwtOc)
         refine hK.out _ _ ?hS56050x0 (fun H56050 => ?_)
         case hS56050x0 => exact ⟨fun h => (by first | exact absurd h (by decide) | simp at h), by (first | exact HT.out _ (by solve_by_elim [X0, X1, X2, X3]) | exact MTAtO.out _ (by solve_by_elim [X0, X1, X2, X3]) | exact MTBtO.out _ (by solve_by_elim [X0, X1, X2, X3]) | exact MTCtO.out _ (by solve_by_elim [X0, X1, X2, X3]) | exact MTDtO.out _ (by solve_by_elim [X0, X1, X2, X3]))⟩
         clear hK K
         clear H56049
         refine TB 14 (v := ?v56051) H56050 ?hy56051 ?_
         case hy56051 => (intro w hSw; (try dsimp only at hSw); go_simp <;> first | with_reducible rfl | rw [if_neg (by omega)] | rw [if_pos (by omega)])
         (try simp only [PU])
         refine AnyT.ready (rs := [15]) (by kernel_rfl) (by simp) ?_
         refine AllT.cons (o := ⟨_, _, _, _, _, _⟩) rfl (fun K hK => ?step56052x0) ?more56052x0
         case more56052x0 => exact AllT.nil
         go_simp
         (rw [← hwtOd]; clear hwtOd)
         refine hK.out _ _ ?hS56052x0 (fun H56052 => ?_)
         case hS56052x0 => exact ⟨fun h => (by first | exact absurd h (by decide) | simp at h), by (first | exact HT.out _ (by solve_by_elim [X0, X1, X2, X3]) | exact MTAtO.out _ (by solve_by_elim [X0, X1, X2, X3]) | exact MTBtO.out _ (by solve_by_elim [X0, X1, X2, X3]) | exact MTCtO.out _ (by solve_by_elim [X0, X1, X2, X3]) | exact MTDtO.out _ (by solve_by_elim [X0, X1, X2, X3]))⟩
         clear hK K
         clear H56050
         refine AnyT.done (by kernel_rfl) ?_ _
         clear H56052
         go_wp2_with fail
         go_meet
         case rel => exact ⟨rfl, (.slice AtOa ntOa ctOa), (.slice AtOb ntOb ctOb), Lib.hid (by rw [HC2E.out]; exact HPdtO.out), Lib.hid (MTDtO.out _ (Ext.refl _))⟩
        (refine step_pushAt T_ki rfl (.tmp 50) (.tmp 52) rfl rfl (OwnG.ext HP8.out.c4.n (by solve_by_elim [X0, X1, X2, X3])) (Nat.le_trans HP8.out.le (Ext.le (a := w9) (by solve_by_elim [X0, X1, X2, X3]))) nd trivial ⟨_, 0, none⟩ 1 rfl (int_cell (by go_simp)) hl0 (by decide) ?_; intro va0 wtOa hO hg hd; obtain ⟨AtOa, ntOa, ctOa, rfl⟩ := own_fm hO; have hPa := (HP8.out.exts (W' := _) (by solve_by_elim [X0, X1, X2, X3])).pushN hO hg (Nat.le_refl _) hd; have HPatO := Lib.hid hPa; have MSAtO := Lib.hid (fun V (e : Ext wtOa V) => (⟨e.cell hPa.bx.1, e.cell hPa.bx.2.1, e.cell hPa.bx.2.2.1⟩ : V.cell? ⟨q3, 0, none⟩ = some vN ∧ V.cell? ⟨q3, 1, none⟩ = some vF ∧ V.cell? ⟨q3, 2, none⟩ = some (.slice AT C.tos.length cT))); have MTAtO := Lib.hid (fun V (e : Ext wtOa V) => (RdC.ext (RdC.grown (HT.out _ (by solve_by_elim [X0, X1, X2, X3])) hg HYN.out) e : RdC V qr A l.length c at7 e8)); clear hO hg hd hPa)
        refine hK.out _ _ ?hS56046x0 (fun H56046 => ?_)
        case hS56046x0 => exact ⟨fun _ => by (first | exact ⟨HM.out _ (by solve_by_elim [X0, X1, X2, X3]), HT.out _ (by solve_by_elim [X0, X1, X2, X3])⟩ | exact ⟨MSAtO.out _ (by solve_by_elim [X0, X1, X2, X3]), MTAtO.out _ (by solve_by_elim [X0, X1, X2, X3])⟩ | exact ⟨MSBtO.out _ (by solve_by_elim [X0, X1, X2, X3]), MTBtO.out _ (by solve_by_elim [X0, X1, X2, X3])⟩), by (first | exact HT.out _ (by solve_by_elim [X0, X1, X2, X3]) | exact MTAtO.out _ (by solve_by_elim [X0, X1, X2, X3]) | exact MTBtO.out _ (by solve_by_elim [X0, X1, X2, X3]) | exact MTCtO.out _ (by solve_by_elim [X0, X1, X2, X3]) | exact MTDtO.out _ (by solve_by_elim [X0, X1, X2, X3]))⟩
        clear hK K
        clear H56038
        (try simp only [PU])
        refine TB 12 (v := ?v56053) H56046 ?hy56053 ?_
        case hy56053 => (intro w hSw; (try dsimp only at hSw); go_simp <;> first | with_reducible rfl | rw [if_neg (by omega)] | rw [if_pos (by omega)])
        (try simp only [PU])
        refine AnyT.ready (rs := [10]) (by kernel_rfl) (by simp) ?_
        refine AllT.cons (o := ⟨_, _, _, _, _, _⟩) rfl (fun K hK => ?step56054x0) ?more56054x0
        case more56054x0 => exact AllT.nil
        go_simp
        refine hK.out _ _ ?hS56054x0 (fun H56054 => ?_)
        case hS56054x0 => exact ⟨fun _ => by (first | exact ⟨HM.out _ (by solve_by_elim [X0, X1, X2, X3]), HT.out _ (by solve_by_elim [X0, X1, X2, X3])⟩ | exact ⟨MSAtO.out _ (by solve_by_elim [X0, X1, X2, X3]), MTAtO.out _ (by solve_by_elim [X0, X1, X2, X3])⟩ | exact ⟨MSBtO.out _ (by solve_by_elim [X0, X1, X2, X3]), MTBtO.out _ (by solve_by_elim [X0, X1, X2, X3])⟩), by (first | exact HT.out _ (by solve_by_elim [X0, X1, X2, X3]) | exact MTAtO.out _ (by solve_by_elim [X0, X1, X2, X3]) | exact MTBtO.out _ (by solve_by_elim [X0, X1, X2, X3]) | exact MTCtO.out _ (by solve_by_elim [X0, X1, X2, X3]) | exact MTDtO.out _ (by solve_by_elim [X0, X1, X2, X3]))⟩
        clear hK K
        clear H56046
        (try simp only [PU])
        refine AnyT.ready (rs := [11]) (by kernel_rfl) (by simp) ?_
        refine AllT.cons (o := ⟨_, _, _, _, _, _⟩) rfl (fun K hK => ?step56055x0) ?more56055x0
        case more56055x0 => exact AllT.nil
        (refine step_pushAt T_ki rfl (.tmp 55) (.tmp 59) rfl rfl (OwnG.ext HPatO.out.c4.f (by solve_by_elim [X0, X1, X2, X3])) (Nat.le_trans HPatO.out.le (Ext.le (a := wtOa) (by solve_by_elim [X0, X1, X2, X3]))) (C.tos.length : Int) trivial ⟨_, 0, none⟩ 1 rfl (int_cell (by go_simp)) hl1 (by decide) ?_; intro vb0 wtOb hO hg hd; obtain ⟨AtOb, ntOb, ctOb, rfl⟩ := own_fm hO; have hPb := (HPatO.out.exts (W' := _) (by solve_by_elim [X0, X1, X2, X3])).pushF hO hg (Nat.le_refl _) hd; have MSBtO := Lib.hid (fun V (e : Ext wtOb V) => (⟨e.cell hPb.bx.1, e.cell hPb.bx.2.1, e.cell hPb.bx.2.2.1⟩ : V.cell? ⟨q3, 0, none⟩ = some vN ∧ V.cell? ⟨q3, 1, none⟩ = some vF ∧ V.cell? ⟨q3, 2, none⟩ = some (.slice AT C.tos.length cT))); have MTBtO := Lib.hid (fun V (e : Ext wtOb V) => (RdC.ext (RdC.grown (MTAtO.out _ (by solve_by_elim [X0, X1, X2, X3])) hg HYF.out) e : RdC V qr A l.length c at7 e8)); have zqtO := hPb.bx.1; have zftO := hPb.fz.1; have hPc := hPb.put0 (.slice AtOa ntOa ctOa); have MTCtO := Lib.hid (fun V (e : Ext (wtOb.setCell ⟨q3, 0, none⟩ (.slice AtOa ntOa ctOa)) V) => (RdC.ext (RdC.grown (MTBtO.out _ (Ext.refl _)) (gr_set _ _ _ _) HYQ.out) e : RdC V qr A l.length c at7 e8)); obtain ⟨wtOc, hwtOc⟩ : ∃ W, W = wtOb.setCell ⟨q3, 0, none⟩ (.slice AtOa ntOa ctOa) := ⟨_, rfl⟩; rw [← hwtOc] at hPc MTCtO; have zrtO := hPc.bx.2.1; have zgtO := hPc.fz.2.1; have hPd := hPc.put1 (.slice AtOb ntOb ctOb); have MTDtO := Lib.hid (fun V (e : Ext (wtOc.setCell ⟨q3, 1, none⟩ (.slice AtOb ntOb ctOb)) V) => (RdC.ext (RdC.grown (MTCtO.out _ (Ext.refl _)) (gr_set _ _ _ _) HYQ.out) e : RdC V qr A l.length c at7 e8)); obtain ⟨wtOd, hwtOd⟩ : ∃ W, W = wtOc.setCell ⟨q3, 1, none⟩ (.slice AtOb ntOb ctOb) := ⟨_, rfl⟩; rw [← hwtOd] at hPd MTDtO; have HPdtO := Lib.hid hPd; clear hO hg hd hPb hPc hPd)
        refine hK.out _ _ ?hS56055x0 (fun H56055 => ?_)
        case hS56055x0 => exact ⟨fun _ => by (first | exact ⟨HM.out _ (by solve_by_elim [X0, X1, X2, X3]), HT.out _ (by solve_by_elim [X0, X1, X2, X3])⟩ | exact ⟨MSAtO.out _ (by solve_by_elim [X0, X1, X2, X3]), MTAtO.out _ (by solve_by_elim [X0, X1, X2, X3])⟩ | exact ⟨MSBtO.out _ (by solve_by_elim [X0, X1, X2, X3]), MTBtO.out _ (by solve_by_elim [X0, X1, X2, X3])⟩), by (first | exact HT.out _ (by solve_by_elim [X0, X1, X2, X3]) | exact MTAtO.out _ (by solve_by_elim [X0, X1, X2, X3]) | exact MTBtO.out _ (by solve_by_elim [X0, X1, X2, X3]) | exact MTCtO.out _ (by solve_by_elim [X0, X1, X2, X3]) | exact MTDtO.out _ (by solve_by_elim [X0, X1, X2, X3]))⟩
        clear hK K
        clear H56054
        (try simp only [PU])
        refine AnyT.ready (rs := [13]) (by kernel_rfl) (by simp) ?_
        refine AllT.cons (o := ⟨_, _, _, _, _, _⟩) rfl (fun K hK => ?step56056x0) ?more56056x0
        case more56056x0 => exact AllT.nil
        go_simp
        (rw [← hwtOc]; clear hwtOc)
        refine hK.out _ _ ?hS56056x0 (fun H56056 => ?_)
        case hS56056x0 => exact ⟨fun h => (by first | exact absurd h (by decide) | simp at h), by (first | exact HT.out _ (by solve_by_elim [X0, X1, X2, X3]) | exact MTAtO.out _ (by solve_by_elim [X0, X1, X2, X3]) | exact MTBtO.out _ (by solve_by_elim [X0, X1, X2, X3]) | exact MTCtO.out _ (by solve_by_elim [X0, X1, X2, X3]) | exact MTDtO.out _ (by solve_by_elim [X0, X1, X2, X3]))⟩
        clear hK K
        clear H56055
        refine TB 14 (v := ?v56057) H56056 ?hy56057 ?_
        case hy56057 => (intro w hSw; (try dsimp only at hSw); go_simp <;> first | with_reducible rfl | rw [if_neg (by omega)] | rw [if_pos (by omega)])
        (try simp only [PU])
        refine AnyT.ready (rs := [15]) (by kernel_rfl) (by simp) ?_
        refine AllT.cons (o := ⟨_, _, _, _, _, _⟩) rfl (fun K hK => ?step56058x0) ?more56058x0
        case more56058x0 => exact AllT.nil
        go_simp
        (rw [← hwtOd]; clear hwtOd)
        refine hK.out _ _ ?hS56058x0 (fun H56058 => ?_)
        case hS56058x0 => exact ⟨fun h => (by first | exact absurd h (by decide) | simp at h), by (first | exact HT.out _ (by solve_by_elim [X0, X1, X2, X3]) | exact MTAtO.out _ (by solve_by_elim [X0, X1, X2, X3]) | exact MTBtO.out _ (by solve_by_elim [X0, X1, X2, X3]) | exact MTCtO.out _ (by solve_by_elim [X0, X1, X2, X3]) | exact MTDtO.out _ (by solve_by_elim [X0, X1, X2, X3]))⟩
        clear hK K
        clear H56056
        refine AnyT.done (by kernel_rfl) ?_ _
        clear H56058
        go_wp2_with fail
        go_meet
        case rel => exact ⟨rfl, (.slice AtOa ntOa ctOa), (.slice AtOb ntOb ctOb), Lib.hid (by rw [HC2E.out]; exact HPdtO.out), Lib.hid (MTDtO.out _ (Ext.refl _))⟩
       case rest =>
        obtain ⟨rfl, vN', vF', HP9, HR9⟩ := hcut
        obtain ⟨w10, hw10⟩ : ∃ W, W = wc := ⟨_, rfl⟩
        subst hw10
        clear HP8 HR8 HP HR HO HYN HYF HYQ HI hl0 hl1
        go_wp2_with fail
        go_loopw [8, 11, 12] (fun u8 u11 u12 W => ∃ (k : Nat) (tv ed : Int) (at_ e0 : Int) (vN vF vT vE : Value) (C : Col) (st : Except Int (List Nat)), u8 = .int .i64 ed ∧ u11 = .int .i64 tv ∧ u12 = .int .i64 k ∧ Hid (PkS w w3.heap.size q2 q3 W vN vF vT vE vN vF vT vE C) ∧ Hid (RdC W qr A l.length c at_ e0) ∧ Hid (okR l at_ e0 st) ∧ Hid (InvI l.length (cnt.toNat - (i + 1)) X (i + 1) nd many k tv ed C st)) (fun _ _ u12 _ => many.toNat - (intOf u12).toNat)
        case atStart => exact ⟨0, nd, edge, at7, e8, _, _, _, _, C2, st8, rfl, rfl, rfl, HP9, HR9, HO8, HII⟩
        case round =>
         clear HP9 HR9 HO8 HII HC2E
         obtain ⟨k, tv, ed, at2, e2, vN, vF, vT, vE, D, st2, rfl, rfl, rfl, HP, HR, HO, HI⟩ := hrel
         by_cases hj : (k : Int) < many
         ·cases st2 with
          | error er =>
           have g : decide ((k : Int) < many) = true := decide_eq_true hj
           have g2 : (e2 == 0) = false := by rw [beq_eq_false_iff_ne, HO.out.1]; exact HO.out.2
           have g3 : decide (e2 = 0) = false := decide_eq_false (by rw [HO.out.1]; exact HO.out.2)
           have HE := Lib.hid (inv_out HI.out (fun r hr => by cases hr))
           obtain ⟨c0, c1, c2, -, -⟩ := HR.out
           clear HI
           go_wp2_with fail
           go_roundw
           case rel => exact ⟨i + 1, nd, ed, at2, e2, vN, vF, vT, vE, D, _, rfl, rfl, by go_num, HP, HR, HO, HE⟩
           case measure => simp [intOf]; omega
          | ok r =>
           have he : e2 = 0 := HO.out.1
           subst he
           have HIL := Lib.hid hj
           have hib := HI.out.b.ok
           have hkb : k + 1 ≤ 1000001 := by have := HI.out.k; omega
           have hl0 : D.tos.length + 1 ≤ 8388608 := by omega
           have hl1 : D.edges.length + 1 ≤ 8388608 := by have := HI.out.b.e; omega
           have HRT := Lib.hid (show 0 ≤ tv ∧ tv ≤ 1000000 from HI.out.rt)
           have HRE := Lib.hid (show 0 ≤ ed ∧ ed ≤ 1000000 from HI.out.re)
           have HC1 := Lib.hid (HN.out wr at2 0 tv (.ok r) HP.out.ext HR.out HO.out (fun _ => HRT.out))
           have g : decide ((k : Int) < many) = true := decide_eq_true hj
           obtain ⟨c0, c1, c2, -, -⟩ := HR.out
           clear hib
           go_upto_region 17 with (fail)
           clear g c0 c1 c2
           go_upto_region 19 with (first | (go_at_call 30; ((with_reducible refine (HC1.out).mono ?_); rintro e w5 ⟨x1, at5, e5, st5, rfl, hR5, hO5, hT5, hg5⟩; have HP5 := Lib.hid (HP.out.other HQ.out hg5); have HT5 := Lib.hid hT5; have HC2 := Lib.hid (HN.out w5 at5 e5 ed st5 HP5.out.ext hR5 hO5 (fun _ => HRE.out)); clear hR5 hO5 hT5 hg5 HC1)) | (go_at_call 30; ((with_reducible refine (HC2.out).mono ?_); rintro e w6 ⟨x2, at6, e6, st6, rfl, hR6, hO6, hT6, hg6⟩; have HP6 := Lib.hid (HP5.out.other HQ.out hg6); have HR6 := Lib.hid hR6; have HO6 := Lib.hid hO6; have hI := inv_ent HI.out HIL.out HT5.out hT6; obtain ⟨C3, hC3⟩ : ∃ C3, C3 = ({ { D with tos := D.tos ++ [x1] } with edges := D.edges ++ [x2] } : Col) := ⟨_, rfl⟩; rw [← hC3] at hI; have HI3 := Lib.hid hI; have HC3E := Lib.hid hC3; clear hI hC3 hR6 hO6 hT6 hg6 HC2 HP5 HT5)))
           have HYT := Lib.hid (show some qr ≠ vT.ownBlock from fun e => by have h1 := (OwnG.lt HP6.out.c4.t e.symm).1; have h2 := HQ.out.2.1; omega)
           have HYE := Lib.hid (show some qr ≠ vE.ownBlock from fun e => by have h1 := (OwnG.lt HP6.out.c4.e e.symm).1; have h2 := HQ.out.2.1; omega)
           have HYQ := Lib.hid (show some qr ≠ some q3 from fun e => HQ.out.2.2.2 (Option.some.inj e))
           have HM := Lib.hid (fun V (e : Ext w6 V) => (⟨e.cell HP6.out.bx.2.2.1, e.cell HP6.out.bx.2.2.2⟩ : V.cell? ⟨q3, 2, none⟩ = some vT ∧ V.cell? ⟨q3, 3, none⟩ = some vE))
           have HT := Lib.hid (fun V (e : Ext w6 V) => (HR6.out.ext e : RdC V qr A l.length c at6 e6))
           obtain ⟨z2, z3⟩ := HM.out w6 (Ext.refl _)
           obtain ⟨c0, c1, c2, -, -⟩ := HR6.out
           refine AnyT.start (S := (fun V => (V.cell? ⟨q3, 2, none⟩ = some vT ∧ V.cell? ⟨q3, 3, none⟩ = some vE) ∧ RdC V qr A l.length c at6 e6)) (T := (fun V => RdC V qr A l.length c at6 e6)) (E := 11) (by kernel_rfl) ?hs56001 (fun hHeld => ?go56001)
           case hs56001 => exact ⟨by (first | exact ⟨HM.out _ (by solve_by_elim [X0, X1, X2, X3]), HT.out _ (by solve_by_elim [X0, X1, X2, X3])⟩ | exact ⟨MSAtI.out _ (by solve_by_elim [X0, X1, X2, X3]), MTAtI.out _ (by solve_by_elim [X0, X1, X2, X3])⟩ | exact ⟨MSBtI.out _ (by solve_by_elim [X0, X1, X2, X3]), MTBtI.out _ (by solve_by_elim [X0, X1, X2, X3])⟩), by (first | exact HT.out _ (by solve_by_elim [X0, X1, X2, X3]) | exact MTAtI.out _ (by solve_by_elim [X0, X1, X2, X3]) | exact MTBtI.out _ (by solve_by_elim [X0, X1, X2, X3]) | exact MTCtI.out _ (by solve_by_elim [X0, X1, X2, X3]) | exact MTDtI.out _ (by solve_by_elim [X0, X1, X2, X3]))⟩
           refine TB 0 (v := ?v56002) ⟨fun _ => hHeld.1, hHeld.2⟩ ?hy56002 ?_
           case hy56002 => (intro w hSw; (try dsimp only at hSw); go_simp <;> first | with_reducible rfl | rw [if_neg (by omega)] | rw [if_pos (by omega)])
           (try simp only [PU])
           refine TA 1 (v := ?v56003) hHeld ?hy56003 ?_
           case hy56003 => (intro w hSw; (try dsimp only at hSw); go_simp <;> first | with_reducible rfl | rw [if_neg (by omega)] | rw [if_pos (by omega)])
           (try simp only [PU])
           refine TB 2 (v := ?v56004) ⟨fun _ => hHeld.1, hHeld.2⟩ ?hy56004 ?_
           case hy56004 => (intro w hSw; (try dsimp only at hSw); go_simp <;> first | with_reducible rfl | rw [if_neg (by omega)] | rw [if_pos (by omega)])
           (try simp only [PU])
           refine TB 5 (v := ?v56005) ⟨fun _ => hHeld.1, hHeld.2⟩ ?hy56005 ?_
           case hy56005 => (intro w hSw; (try dsimp only at hSw); go_simp <;> first | with_reducible rfl | rw [if_neg (by omega)] | rw [if_pos (by omega)])
           (try simp only [PU])
           refine TA 6 (v := ?v56006) hHeld ?hy56006 ?_
           case hy56006 => (intro w hSw; (try dsimp only at hSw); go_simp <;> first | with_reducible rfl | rw [if_neg (by omega)] | rw [if_pos (by omega)])
           (try simp only [PU])
           refine TB 7 (v := ?v56007) ⟨fun _ => hHeld.1, hHeld.2⟩ ?hy56007 ?_
           case hy56007 => (intro w hSw; (try dsimp only at hSw); go_simp <;> first | with_reducible rfl | rw [if_neg (by omega)] | rw [if_pos (by omega)])
           (try simp only [PU])
           refine AnyT.ready (rs := [3, 8]) (by kernel_rfl) (by simp) ?_
           refine AllT.cons (o := ⟨_, _, _, _, _, _⟩) rfl (fun K hK => ?step56008x0) ?more56008x0
           case more56008x0 =>
            refine AllT.cons (o := ⟨_, _, _, _, _, _⟩) rfl (fun K hK => ?step56008x1) ?more56008x1
            case more56008x1 => exact AllT.nil
            go_simp
            refine hK.out _ _ ?hS56008x1 (fun H56008 => ?_)
            case hS56008x1 => exact ⟨fun _ => by (first | exact ⟨HM.out _ (by solve_by_elim [X0, X1, X2, X3]), HT.out _ (by solve_by_elim [X0, X1, X2, X3])⟩ | exact ⟨MSAtI.out _ (by solve_by_elim [X0, X1, X2, X3]), MTAtI.out _ (by solve_by_elim [X0, X1, X2, X3])⟩ | exact ⟨MSBtI.out _ (by solve_by_elim [X0, X1, X2, X3]), MTBtI.out _ (by solve_by_elim [X0, X1, X2, X3])⟩), by (first | exact HT.out _ (by solve_by_elim [X0, X1, X2, X3]) | exact MTAtI.out _ (by solve_by_elim [X0, X1, X2, X3]) | exact MTBtI.out _ (by solve_by_elim [X0, X1, X2, X3]) | exact MTCtI.out _ (by solve_by_elim [X0, X1, X2, X3]) | exact MTDtI.out _ (by solve_by_elim [X0, X1, X2, X3]))⟩
            clear hK K
            clear hHeld
            (try simp only [PU])
            refine AnyT.ready (rs := [3]) (by kernel_rfl) (by simp) ?_
            refine AllT.cons (o := ⟨_, _, _, _, _, _⟩) rfl (fun K hK => ?step56009x0) ?more56009x0
            case more56009x0 => exact AllT.nil
            go_simp
            refine hK.out _ _ ?hS56009x0 (fun H56009 => ?_)
            case hS56009x0 => exact ⟨fun _ => by (first | exact ⟨HM.out _ (by solve_by_elim [X0, X1, X2, X3]), HT.out _ (by solve_by_elim [X0, X1, X2, X3])⟩ | exact ⟨MSAtI.out _ (by solve_by_elim [X0, X1, X2, X3]), MTAtI.out _ (by solve_by_elim [X0, X1, X2, X3])⟩ | exact ⟨MSBtI.out _ (by solve_by_elim [X0, X1, X2, X3]), MTBtI.out _ (by solve_by_elim [X0, X1, X2, X3])⟩), by (first | exact HT.out _ (by solve_by_elim [X0, X1, X2, X3]) | exact MTAtI.out _ (by solve_by_elim [X0, X1, X2, X3]) | exact MTBtI.out _ (by solve_by_elim [X0, X1, X2, X3]) | exact MTCtI.out _ (by solve_by_elim [X0, X1, X2, X3]) | exact MTDtI.out _ (by solve_by_elim [X0, X1, X2, X3]))⟩
            clear hK K
            clear H56008
            (try simp only [PU])
            refine AnyT.ready (rs := [4]) (by kernel_rfl) (by simp) ?_
            refine AllT.cons (o := ⟨_, _, _, _, _, _⟩) rfl (fun K hK => ?step56010x0) ?more56010x0
            case more56010x0 => exact AllT.nil
            (refine step_pushAt T_ki rfl (.tmp 83) (.tmp 85) rfl rfl (OwnG.ext HP6.out.c4.t (by solve_by_elim [X0, X1, X2, X3])) (Nat.le_trans HP6.out.le (Ext.le (a := w6) (by solve_by_elim [X0, X1, X2, X3]))) x1 trivial ⟨_, 0, none⟩ 1 rfl (int_cell (by go_simp)) hl0 (by decide) ?_; intro va0 wtIa hO hg hd; obtain ⟨AtIa, ntIa, ctIa, rfl⟩ := own_fm hO; have hPa := (HP6.out.exts (W' := _) (by solve_by_elim [X0, X1, X2, X3])).pushT hO hg (Nat.le_refl _) hd; have HPatI := Lib.hid hPa; have MSAtI := Lib.hid (fun V (e : Ext wtIa V) => (⟨e.cell hPa.bx.2.2.1, e.cell hPa.bx.2.2.2⟩ : V.cell? ⟨q3, 2, none⟩ = some vT ∧ V.cell? ⟨q3, 3, none⟩ = some vE)); have MTAtI := Lib.hid (fun V (e : Ext wtIa V) => (RdC.ext (RdC.grown (HT.out _ (by solve_by_elim [X0, X1, X2, X3])) hg HYT.out) e : RdC V qr A l.length c at6 e6)); have zbtI := hg.cell (show World.cell? _ ⟨w6.heap.size, 0, none⟩ = some (.int .i64 x2) from by go_simp) (fun e => by have := (OwnG.lt HP6.out.c4.t (g := w6.heap.size) e.symm).2; omega); clear hO hg hd hPa)
            refine hK.out _ _ ?hS56010x0 (fun H56010 => ?_)
            case hS56010x0 => exact ⟨fun _ => by (first | exact ⟨HM.out _ (by solve_by_elim [X0, X1, X2, X3]), HT.out _ (by solve_by_elim [X0, X1, X2, X3])⟩ | exact ⟨MSAtI.out _ (by solve_by_elim [X0, X1, X2, X3]), MTAtI.out _ (by solve_by_elim [X0, X1, X2, X3])⟩ | exact ⟨MSBtI.out _ (by solve_by_elim [X0, X1, X2, X3]), MTBtI.out _ (by solve_by_elim [X0, X1, X2, X3])⟩), by (first | exact HT.out _ (by solve_by_elim [X0, X1, X2, X3]) | exact MTAtI.out _ (by solve_by_elim [X0, X1, X2, X3]) | exact MTBtI.out _ (by solve_by_elim [X0, X1, X2, X3]) | exact MTCtI.out _ (by solve_by_elim [X0, X1, X2, X3]) | exact MTDtI.out _ (by solve_by_elim [X0, X1, X2, X3]))⟩
            clear hK K
            clear H56009
            (try simp only [PU])
            refine TB 10 (v := ?v56011) H56010 ?hy56011 ?_
            case hy56011 => (intro w hSw; (try dsimp only at hSw); go_simp <;> first | with_reducible rfl | rw [if_neg (by omega)] | rw [if_pos (by omega)])
            (try simp only [PU])
            refine AnyT.ready (rs := [9]) (by kernel_rfl) (by simp) ?_
            refine AllT.cons (o := ⟨_, _, _, _, _, _⟩) rfl (fun K hK => ?step56012x0) ?more56012x0
            case more56012x0 => exact AllT.nil
            (refine step_pushAt T_ki rfl (.tmp 88) (.tmp 90) rfl rfl (OwnG.ext HPatI.out.c4.e (by solve_by_elim [X0, X1, X2, X3])) (Nat.le_trans HPatI.out.le (Ext.le (a := wtIa) (by solve_by_elim [X0, X1, X2, X3]))) x2 trivial ⟨_, 0, none⟩ 1 rfl (int_cell zbtI) hl1 (by decide) ?_; intro vb0 wtIb hO hg hd; obtain ⟨AtIb, ntIb, ctIb, rfl⟩ := own_fm hO; have hPb := (HPatI.out.exts (W' := _) (by solve_by_elim [X0, X1, X2, X3])).pushE hO hg (Nat.le_refl _) hd; have MSBtI := Lib.hid (fun V (e : Ext wtIb V) => (⟨e.cell hPb.bx.2.2.1, e.cell hPb.bx.2.2.2⟩ : V.cell? ⟨q3, 2, none⟩ = some vT ∧ V.cell? ⟨q3, 3, none⟩ = some vE)); have MTBtI := Lib.hid (fun V (e : Ext wtIb V) => (RdC.ext (RdC.grown (MTAtI.out _ (by solve_by_elim [X0, X1, X2, X3])) hg HYE.out) e : RdC V qr A l.length c at6 e6)); have zqtI := hPb.bx.2.2.1; have zftI := hPb.fz.2.2.1; have hPc := hPb.put2 (.slice AtIa ntIa ctIa); have MTCtI := Lib.hid (fun V (e : Ext (wtIb.setCell ⟨q3, 2, none⟩ (.slice AtIa ntIa ctIa)) V) => (RdC.ext (RdC.grown (MTBtI.out _ (Ext.refl _)) (gr_set _ _ _ _) HYQ.out) e : RdC V qr A l.length c at6 e6)); obtain ⟨wtIc, hwtIc⟩ : ∃ W, W = wtIb.setCell ⟨q3, 2, none⟩ (.slice AtIa ntIa ctIa) := ⟨_, rfl⟩; rw [← hwtIc] at hPc MTCtI; have zrtI := hPc.bx.2.2.2; have zgtI := hPc.fz.2.2.2; have hPd := hPc.put3 (.slice AtIb ntIb ctIb); have MTDtI := Lib.hid (fun V (e : Ext (wtIc.setCell ⟨q3, 3, none⟩ (.slice AtIb ntIb ctIb)) V) => (RdC.ext (RdC.grown (MTCtI.out _ (Ext.refl _)) (gr_set _ _ _ _) HYQ.out) e : RdC V qr A l.length c at6 e6)); obtain ⟨wtId, hwtId⟩ : ∃ W, W = wtIc.setCell ⟨q3, 3, none⟩ (.slice AtIb ntIb ctIb) := ⟨_, rfl⟩; rw [← hwtId] at hPd MTDtI; have HPdtI := Lib.hid hPd; clear hO hg hd hPb hPc hPd)
            refine hK.out _ _ ?hS56012x0 (fun H56012 => ?_)
            case hS56012x0 => exact ⟨fun _ => by (first | exact ⟨HM.out _ (by solve_by_elim [X0, X1, X2, X3]), HT.out _ (by solve_by_elim [X0, X1, X2, X3])⟩ | exact ⟨MSAtI.out _ (by solve_by_elim [X0, X1, X2, X3]), MTAtI.out _ (by solve_by_elim [X0, X1, X2, X3])⟩ | exact ⟨MSBtI.out _ (by solve_by_elim [X0, X1, X2, X3]), MTBtI.out _ (by solve_by_elim [X0, X1, X2, X3])⟩), by (first | exact HT.out _ (by solve_by_elim [X0, X1, X2, X3]) | exact MTAtI.out _ (by solve_by_elim [X0, X1, X2, X3]) | exact MTBtI.out _ (by solve_by_elim [X0, X1, X2, X3]) | exact MTCtI.out _ (by solve_by_elim [X0, X1, X2, X3]) | exact MTDtI.out _ (by solve_by_elim [X0, X1, X2, X3]))⟩
            clear hK K
            clear H56010
            (try simp only [PU])
            refine AnyT.ready (rs := [11]) (by kernel_rfl) (by simp) ?_
            refine AllT.cons (o := ⟨_, _, _, _, _, _⟩) rfl (fun K hK => ?step56013x0) ?more56013x0
            case more56013x0 => exact AllT.nil
            go_simp
            (rw [← hwtIc]; clear hwtIc)
            refine hK.out _ _ ?hS56013x0 (fun H56013 => ?_)
            case hS56013x0 => exact ⟨fun h => (by first | exact absurd h (by decide) | simp at h), by (first | exact HT.out _ (by solve_by_elim [X0, X1, X2, X3]) | exact MTAtI.out _ (by solve_by_elim [X0, X1, X2, X3]) | exact MTBtI.out _ (by solve_by_elim [X0, X1, X2, X3]) | exact MTCtI.out _ (by solve_by_elim [X0, X1, X2, X3]) | exact MTDtI.out _ (by solve_by_elim [X0, X1, X2, X3]))⟩
            clear hK K
            clear H56012
            refine TB 12 (v := ?v56014) H56013 ?hy56014 ?_
            case hy56014 => (intro w hSw; (try dsimp only at hSw); go_simp <;> first | with_reducible rfl | rw [if_neg (by omega)] | rw [if_pos (by omega)])
            (try simp only [PU])
            refine AnyT.ready (rs := [13]) (by kernel_rfl) (by simp) ?_
            refine AllT.cons (o := ⟨_, _, _, _, _, _⟩) rfl (fun K hK => ?step56015x0) ?more56015x0
            case more56015x0 => exact AllT.nil
            go_simp
            (rw [← hwtId]; clear hwtId)
            refine hK.out _ _ ?hS56015x0 (fun H56015 => ?_)
            case hS56015x0 => exact ⟨fun h => (by first | exact absurd h (by decide) | simp at h), by (first | exact HT.out _ (by solve_by_elim [X0, X1, X2, X3]) | exact MTAtI.out _ (by solve_by_elim [X0, X1, X2, X3]) | exact MTBtI.out _ (by solve_by_elim [X0, X1, X2, X3]) | exact MTCtI.out _ (by solve_by_elim [X0, X1, X2, X3]) | exact MTDtI.out _ (by solve_by_elim [X0, X1, X2, X3]))⟩
            clear hK K
            clear H56013
            refine AnyT.done (by kernel_rfl) ?_ _
            clear H56015
            go_wp2_with fail
            go_roundw
            case rel => exact ⟨k + 1, x1, x2, at6, e6, _, _, _, _, C3, st6, rfl, rfl, by go_num, Lib.hid (by rw [HC3E.out]; exact HPdtI.out), Lib.hid (MTDtI.out _ (Ext.refl _)), HO6, HI3⟩
            case measure => simp [intOf]; omega
           go_simp
           refine hK.out _ _ ?hS56008x0 (fun H56008 => ?_)
           case hS56008x0 => exact ⟨fun _ => by (first | exact ⟨HM.out _ (by solve_by_elim [X0, X1, X2, X3]), HT.out _ (by solve_by_elim [X0, X1, X2, X3])⟩ | exact ⟨MSAtI.out _ (by solve_by_elim [X0, X1, X2, X3]), MTAtI.out _ (by solve_by_elim [X0, X1, X2, X3])⟩ | exact ⟨MSBtI.out _ (by solve_by_elim [X0, X1, X2, X3]), MTBtI.out _ (by solve_by_elim [X0, X1, X2, X3])⟩), by (first | exact HT.out _ (by solve_by_elim [X0, X1, X2, X3]) | exact MTAtI.out _ (by solve_by_elim [X0, X1, X2, X3]) | exact MTBtI.out _ (by solve_by_elim [X0, X1, X2, X3]) | exact MTCtI.out _ (by solve_by_elim [X0, X1, X2, X3]) | exact MTDtI.out _ (by solve_by_elim [X0, X1, X2, X3]))⟩
           clear hK K
           clear hHeld
           (try simp only [PU])
           refine AnyT.ready (rs := [4, 8]) (by kernel_rfl) (by simp) ?_
           refine AllT.cons (o := ⟨_, _, _, _, _, _⟩) rfl (fun K hK => ?step56016x0) ?more56016x0
           case more56016x0 =>
            refine AllT.cons (o := ⟨_, _, _, _, _, _⟩) rfl (fun K hK => ?step56016x1) ?more56016x1
            case more56016x1 => exact AllT.nil
            go_simp
            refine hK.out _ _ ?hS56016x1 (fun H56016 => ?_)
            case hS56016x1 => exact ⟨fun _ => by (first | exact ⟨HM.out _ (by solve_by_elim [X0, X1, X2, X3]), HT.out _ (by solve_by_elim [X0, X1, X2, X3])⟩ | exact ⟨MSAtI.out _ (by solve_by_elim [X0, X1, X2, X3]), MTAtI.out _ (by solve_by_elim [X0, X1, X2, X3])⟩ | exact ⟨MSBtI.out _ (by solve_by_elim [X0, X1, X2, X3]), MTBtI.out _ (by solve_by_elim [X0, X1, X2, X3])⟩), by (first | exact HT.out _ (by solve_by_elim [X0, X1, X2, X3]) | exact MTAtI.out _ (by solve_by_elim [X0, X1, X2, X3]) | exact MTBtI.out _ (by solve_by_elim [X0, X1, X2, X3]) | exact MTCtI.out _ (by solve_by_elim [X0, X1, X2, X3]) | exact MTDtI.out _ (by solve_by_elim [X0, X1, X2, X3]))⟩
            clear hK K
            clear H56008
            (try simp only [PU])
            refine AnyT.ready (rs := [4]) (by kernel_rfl) (by simp) ?_
            refine AllT.cons (o := ⟨_, _, _, _, _, _⟩) rfl (fun K hK => ?step56017x0) ?more56017x0
            case more56017x0 => exact AllT.nil
            (refine step_pushAt T_ki rfl (.tmp 83) (.tmp 85) rfl rfl (OwnG.ext HP6.out.c4.t (by solve_by_elim [X0, X1, X2, X3])) (Nat.le_trans HP6.out.le (Ext.le (a := w6) (by solve_by_elim [X0, X1, X2, X3]))) x1 trivial ⟨_, 0, none⟩ 1 rfl (int_cell (by go_simp)) hl0 (by decide) ?_; intro va0 wtIa hO hg hd; obtain ⟨AtIa, ntIa, ctIa, rfl⟩ := own_fm hO; have hPa := (HP6.out.exts (W' := _) (by solve_by_elim [X0, X1, X2, X3])).pushT hO hg (Nat.le_refl _) hd; have HPatI := Lib.hid hPa; have MSAtI := Lib.hid (fun V (e : Ext wtIa V) => (⟨e.cell hPa.bx.2.2.1, e.cell hPa.bx.2.2.2⟩ : V.cell? ⟨q3, 2, none⟩ = some vT ∧ V.cell? ⟨q3, 3, none⟩ = some vE)); have MTAtI := Lib.hid (fun V (e : Ext wtIa V) => (RdC.ext (RdC.grown (HT.out _ (by solve_by_elim [X0, X1, X2, X3])) hg HYT.out) e : RdC V qr A l.length c at6 e6)); have zbtI := hg.cell (show World.cell? _ ⟨w6.heap.size + 1, 0, none⟩ = some (.int .i64 x2) from by go_simp) (fun e => by have := (OwnG.lt HP6.out.c4.t (g := w6.heap.size + 1) e.symm).2; omega); clear hO hg hd hPa)
            refine hK.out _ _ ?hS56017x0 (fun H56017 => ?_)
            case hS56017x0 => exact ⟨fun _ => by (first | exact ⟨HM.out _ (by solve_by_elim [X0, X1, X2, X3]), HT.out _ (by solve_by_elim [X0, X1, X2, X3])⟩ | exact ⟨MSAtI.out _ (by solve_by_elim [X0, X1, X2, X3]), MTAtI.out _ (by solve_by_elim [X0, X1, X2, X3])⟩ | exact ⟨MSBtI.out _ (by solve_by_elim [X0, X1, X2, X3]), MTBtI.out _ (by solve_by_elim [X0, X1, X2, X3])⟩), by (first | exact HT.out _ (by solve_by_elim [X0, X1, X2, X3]) | exact MTAtI.out _ (by solve_by_elim [X0, X1, X2, X3]) | exact MTBtI.out _ (by solve_by_elim [X0, X1, X2, X3]) | exact MTCtI.out _ (by solve_by_elim [X0, X1, X2, X3]) | exact MTDtI.out _ (by solve_by_elim [X0, X1, X2, X3]))⟩
            clear hK K
            clear H56016
            (try simp only [PU])
            refine TB 10 (v := ?v56018) H56017 ?hy56018 ?_
            case hy56018 => (intro w hSw; (try dsimp only at hSw); go_simp <;> first | with_reducible rfl | rw [if_neg (by omega)] | rw [if_pos (by omega)])
            (try simp only [PU])
            refine AnyT.ready (rs := [9]) (by kernel_rfl) (by simp) ?_
            refine AllT.cons (o := ⟨_, _, _, _, _, _⟩) rfl (fun K hK => ?step56019x0) ?more56019x0
            case more56019x0 => exact AllT.nil
            (refine step_pushAt T_ki rfl (.tmp 88) (.tmp 90) rfl rfl (OwnG.ext HPatI.out.c4.e (by solve_by_elim [X0, X1, X2, X3])) (Nat.le_trans HPatI.out.le (Ext.le (a := wtIa) (by solve_by_elim [X0, X1, X2, X3]))) x2 trivial ⟨_, 0, none⟩ 1 rfl (int_cell zbtI) hl1 (by decide) ?_; intro vb0 wtIb hO hg hd; obtain ⟨AtIb, ntIb, ctIb, rfl⟩ := own_fm hO; have hPb := (HPatI.out.exts (W' := _) (by solve_by_elim [X0, X1, X2, X3])).pushE hO hg (Nat.le_refl _) hd; have MSBtI := Lib.hid (fun V (e : Ext wtIb V) => (⟨e.cell hPb.bx.2.2.1, e.cell hPb.bx.2.2.2⟩ : V.cell? ⟨q3, 2, none⟩ = some vT ∧ V.cell? ⟨q3, 3, none⟩ = some vE)); have MTBtI := Lib.hid (fun V (e : Ext wtIb V) => (RdC.ext (RdC.grown (MTAtI.out _ (by solve_by_elim [X0, X1, X2, X3])) hg HYE.out) e : RdC V qr A l.length c at6 e6)); have zqtI := hPb.bx.2.2.1; have zftI := hPb.fz.2.2.1; have hPc := hPb.put2 (.slice AtIa ntIa ctIa); have MTCtI := Lib.hid (fun V (e : Ext (wtIb.setCell ⟨q3, 2, none⟩ (.slice AtIa ntIa ctIa)) V) => (RdC.ext (RdC.grown (MTBtI.out _ (Ext.refl _)) (gr_set _ _ _ _) HYQ.out) e : RdC V qr A l.length c at6 e6)); obtain ⟨wtIc, hwtIc⟩ : ∃ W, W = wtIb.setCell ⟨q3, 2, none⟩ (.slice AtIa ntIa ctIa) := ⟨_, rfl⟩; rw [← hwtIc] at hPc MTCtI; have zrtI := hPc.bx.2.2.2; have zgtI := hPc.fz.2.2.2; have hPd := hPc.put3 (.slice AtIb ntIb ctIb); have MTDtI := Lib.hid (fun V (e : Ext (wtIc.setCell ⟨q3, 3, none⟩ (.slice AtIb ntIb ctIb)) V) => (RdC.ext (RdC.grown (MTCtI.out _ (Ext.refl _)) (gr_set _ _ _ _) HYQ.out) e : RdC V qr A l.length c at6 e6)); obtain ⟨wtId, hwtId⟩ : ∃ W, W = wtIc.setCell ⟨q3, 3, none⟩ (.slice AtIb ntIb ctIb) := ⟨_, rfl⟩; rw [← hwtId] at hPd MTDtI; have HPdtI := Lib.hid hPd; clear hO hg hd hPb hPc hPd)
            refine hK.out _ _ ?hS56019x0 (fun H56019 => ?_)
            case hS56019x0 => exact ⟨fun _ => by (first | exact ⟨HM.out _ (by solve_by_elim [X0, X1, X2, X3]), HT.out _ (by solve_by_elim [X0, X1, X2, X3])⟩ | exact ⟨MSAtI.out _ (by solve_by_elim [X0, X1, X2, X3]), MTAtI.out _ (by solve_by_elim [X0, X1, X2, X3])⟩ | exact ⟨MSBtI.out _ (by solve_by_elim [X0, X1, X2, X3]), MTBtI.out _ (by solve_by_elim [X0, X1, X2, X3])⟩), by (first | exact HT.out _ (by solve_by_elim [X0, X1, X2, X3]) | exact MTAtI.out _ (by solve_by_elim [X0, X1, X2, X3]) | exact MTBtI.out _ (by solve_by_elim [X0, X1, X2, X3]) | exact MTCtI.out _ (by solve_by_elim [X0, X1, X2, X3]) | exact MTDtI.out _ (by solve_by_elim [X0, X1, X2, X3]))⟩
            clear hK K
            clear H56017
            (try simp only [PU])
            refine AnyT.ready (rs := [11]) (by kernel_rfl) (by simp) ?_
            refine AllT.cons (o := ⟨_, _, _, _, _, _⟩) rfl (fun K hK => ?step56020x0) ?more56020x0
            case more56020x0 => exact AllT.nil
            go_simp
            (rw [← hwtIc]; clear hwtIc)
            refine hK.out _ _ ?hS56020x0 (fun H56020 => ?_)
            case hS56020x0 => exact ⟨fun h => (by first | exact absurd h (by decide) | simp at h), by (first | exact HT.out _ (by solve_by_elim [X0, X1, X2, X3]) | exact MTAtI.out _ (by solve_by_elim [X0, X1, X2, X3]) | exact MTBtI.out _ (by solve_by_elim [X0, X1, X2, X3]) | exact MTCtI.out _ (by solve_by_elim [X0, X1, X2, X3]) | exact MTDtI.out _ (by solve_by_elim [X0, X1, X2, X3]))⟩
            clear hK K
            clear H56019
            refine TB 12 (v := ?v56021) H56020 ?hy56021 ?_
            case hy56021 => (intro w hSw; (try dsimp only at hSw); go_simp <;> first | with_reducible rfl | rw [if_neg (by omega)] | rw [if_pos (by omega)])
            (try simp only [PU])
            refine AnyT.ready (rs := [13]) (by kernel_rfl) (by simp) ?_
            refine AllT.cons (o := ⟨_, _, _, _, _, _⟩) rfl (fun K hK => ?step56022x0) ?more56022x0
            case more56022x0 => exact AllT.nil
            go_simp
            (rw [← hwtId]; clear hwtId)
            refine hK.out _ _ ?hS56022x0 (fun H56022 => ?_)
            case hS56022x0 => exact ⟨fun h => (by first | exact absurd h (by decide) | simp at h), by (first | exact HT.out _ (by solve_by_elim [X0, X1, X2, X3]) | exact MTAtI.out _ (by solve_by_elim [X0, X1, X2, X3]) | exact MTBtI.out _ (by solve_by_elim [X0, X1, X2, X3]) | exact MTCtI.out _ (by solve_by_elim [X0, X1, X2, X3]) | exact MTDtI.out _ (by solve_by_elim [X0, X1, X2, X3]))⟩
            clear hK K
            clear H56020
            refine AnyT.done (by kernel_rfl) ?_ _
            clear H56022
            go_wp2_with fail
            go_roundw
            case rel => exact ⟨k + 1, x1, x2, at6, e6, _, _, _, _, C3, st6, rfl, rfl, by go_num, Lib.hid (by rw [HC3E.out]; exact HPdtI.out), Lib.hid (MTDtI.out _ (Ext.refl _)), HO6, HI3⟩
            case measure => simp [intOf]; omega
           (refine step_pushAt T_ki rfl (.tmp 83) (.tmp 85) rfl rfl (OwnG.ext HP6.out.c4.t (by solve_by_elim [X0, X1, X2, X3])) (Nat.le_trans HP6.out.le (Ext.le (a := w6) (by solve_by_elim [X0, X1, X2, X3]))) x1 trivial ⟨_, 0, none⟩ 1 rfl (int_cell (by go_simp)) hl0 (by decide) ?_; intro va0 wtIa hO hg hd; obtain ⟨AtIa, ntIa, ctIa, rfl⟩ := own_fm hO; have hPa := (HP6.out.exts (W' := _) (by solve_by_elim [X0, X1, X2, X3])).pushT hO hg (Nat.le_refl _) hd; have HPatI := Lib.hid hPa; have MSAtI := Lib.hid (fun V (e : Ext wtIa V) => (⟨e.cell hPa.bx.2.2.1, e.cell hPa.bx.2.2.2⟩ : V.cell? ⟨q3, 2, none⟩ = some vT ∧ V.cell? ⟨q3, 3, none⟩ = some vE)); have MTAtI := Lib.hid (fun V (e : Ext wtIa V) => (RdC.ext (RdC.grown (HT.out _ (by solve_by_elim [X0, X1, X2, X3])) hg HYT.out) e : RdC V qr A l.length c at6 e6)); clear hO hg hd hPa)
           refine hK.out _ _ ?hS56016x0 (fun H56016 => ?_)
           case hS56016x0 => exact ⟨fun _ => by (first | exact ⟨HM.out _ (by solve_by_elim [X0, X1, X2, X3]), HT.out _ (by solve_by_elim [X0, X1, X2, X3])⟩ | exact ⟨MSAtI.out _ (by solve_by_elim [X0, X1, X2, X3]), MTAtI.out _ (by solve_by_elim [X0, X1, X2, X3])⟩ | exact ⟨MSBtI.out _ (by solve_by_elim [X0, X1, X2, X3]), MTBtI.out _ (by solve_by_elim [X0, X1, X2, X3])⟩), by (first | exact HT.out _ (by solve_by_elim [X0, X1, X2, X3]) | exact MTAtI.out _ (by solve_by_elim [X0, X1, X2, X3]) | exact MTBtI.out _ (by solve_by_elim [X0, X1, X2, X3]) | exact MTCtI.out _ (by solve_by_elim [X0, X1, X2, X3]) | exact MTDtI.out _ (by solve_by_elim [X0, X1, X2, X3]))⟩
           clear hK K
           clear H56008
           (try simp only [PU])
           refine TB 10 (v := ?v56023) H56016 ?hy56023 ?_
           case hy56023 => (intro w hSw; (try dsimp only at hSw); go_simp <;> first | with_reducible rfl | rw [if_neg (by omega)] | rw [if_pos (by omega)])
           (try simp only [PU])
           refine AnyT.ready (rs := [8]) (by kernel_rfl) (by simp) ?_
           refine AllT.cons (o := ⟨_, _, _, _, _, _⟩) rfl (fun K hK => ?step56024x0) ?more56024x0
           case more56024x0 => exact AllT.nil
           go_simp
           refine hK.out _ _ ?hS56024x0 (fun H56024 => ?_)
           case hS56024x0 => exact ⟨fun _ => by (first | exact ⟨HM.out _ (by solve_by_elim [X0, X1, X2, X3]), HT.out _ (by solve_by_elim [X0, X1, X2, X3])⟩ | exact ⟨MSAtI.out _ (by solve_by_elim [X0, X1, X2, X3]), MTAtI.out _ (by solve_by_elim [X0, X1, X2, X3])⟩ | exact ⟨MSBtI.out _ (by solve_by_elim [X0, X1, X2, X3]), MTBtI.out _ (by solve_by_elim [X0, X1, X2, X3])⟩), by (first | exact HT.out _ (by solve_by_elim [X0, X1, X2, X3]) | exact MTAtI.out _ (by solve_by_elim [X0, X1, X2, X3]) | exact MTBtI.out _ (by solve_by_elim [X0, X1, X2, X3]) | exact MTCtI.out _ (by solve_by_elim [X0, X1, X2, X3]) | exact MTDtI.out _ (by solve_by_elim [X0, X1, X2, X3]))⟩
           clear hK K
           clear H56016
           (try simp only [PU])
           refine AnyT.ready (rs := [9]) (by kernel_rfl) (by simp) ?_
           refine AllT.cons (o := ⟨_, _, _, _, _, _⟩) rfl (fun K hK => ?step56025x0) ?more56025x0
           case more56025x0 => exact AllT.nil
           (refine step_pushAt T_ki rfl (.tmp 88) (.tmp 90) rfl rfl (OwnG.ext HPatI.out.c4.e (by solve_by_elim [X0, X1, X2, X3])) (Nat.le_trans HPatI.out.le (Ext.le (a := wtIa) (by solve_by_elim [X0, X1, X2, X3]))) x2 trivial ⟨_, 0, none⟩ 1 rfl (int_cell (by go_simp)) hl1 (by decide) ?_; intro vb0 wtIb hO hg hd; obtain ⟨AtIb, ntIb, ctIb, rfl⟩ := own_fm hO; have hPb := (HPatI.out.exts (W' := _) (by solve_by_elim [X0, X1, X2, X3])).pushE hO hg (Nat.le_refl _) hd; have MSBtI := Lib.hid (fun V (e : Ext wtIb V) => (⟨e.cell hPb.bx.2.2.1, e.cell hPb.bx.2.2.2⟩ : V.cell? ⟨q3, 2, none⟩ = some vT ∧ V.cell? ⟨q3, 3, none⟩ = some vE)); have MTBtI := Lib.hid (fun V (e : Ext wtIb V) => (RdC.ext (RdC.grown (MTAtI.out _ (by solve_by_elim [X0, X1, X2, X3])) hg HYE.out) e : RdC V qr A l.length c at6 e6)); have zqtI := hPb.bx.2.2.1; have zftI := hPb.fz.2.2.1; have hPc := hPb.put2 (.slice AtIa ntIa ctIa); have MTCtI := Lib.hid (fun V (e : Ext (wtIb.setCell ⟨q3, 2, none⟩ (.slice AtIa ntIa ctIa)) V) => (RdC.ext (RdC.grown (MTBtI.out _ (Ext.refl _)) (gr_set _ _ _ _) HYQ.out) e : RdC V qr A l.length c at6 e6)); obtain ⟨wtIc, hwtIc⟩ : ∃ W, W = wtIb.setCell ⟨q3, 2, none⟩ (.slice AtIa ntIa ctIa) := ⟨_, rfl⟩; rw [← hwtIc] at hPc MTCtI; have zrtI := hPc.bx.2.2.2; have zgtI := hPc.fz.2.2.2; have hPd := hPc.put3 (.slice AtIb ntIb ctIb); have MTDtI := Lib.hid (fun V (e : Ext (wtIc.setCell ⟨q3, 3, none⟩ (.slice AtIb ntIb ctIb)) V) => (RdC.ext (RdC.grown (MTCtI.out _ (Ext.refl _)) (gr_set _ _ _ _) HYQ.out) e : RdC V qr A l.length c at6 e6)); obtain ⟨wtId, hwtId⟩ : ∃ W, W = wtIc.setCell ⟨q3, 3, none⟩ (.slice AtIb ntIb ctIb) := ⟨_, rfl⟩; rw [← hwtId] at hPd MTDtI; have HPdtI := Lib.hid hPd; clear hO hg hd hPb hPc hPd)
           refine hK.out _ _ ?hS56025x0 (fun H56025 => ?_)
           case hS56025x0 => exact ⟨fun _ => by (first | exact ⟨HM.out _ (by solve_by_elim [X0, X1, X2, X3]), HT.out _ (by solve_by_elim [X0, X1, X2, X3])⟩ | exact ⟨MSAtI.out _ (by solve_by_elim [X0, X1, X2, X3]), MTAtI.out _ (by solve_by_elim [X0, X1, X2, X3])⟩ | exact ⟨MSBtI.out _ (by solve_by_elim [X0, X1, X2, X3]), MTBtI.out _ (by solve_by_elim [X0, X1, X2, X3])⟩), by (first | exact HT.out _ (by solve_by_elim [X0, X1, X2, X3]) | exact MTAtI.out _ (by solve_by_elim [X0, X1, X2, X3]) | exact MTBtI.out _ (by solve_by_elim [X0, X1, X2, X3]) | exact MTCtI.out _ (by solve_by_elim [X0, X1, X2, X3]) | exact MTDtI.out _ (by solve_by_elim [X0, X1, X2, X3]))⟩
           clear hK K
           clear H56024
           (try simp only [PU])
           refine AnyT.ready (rs := [11]) (by kernel_rfl) (by simp) ?_
           refine AllT.cons (o := ⟨_, _, _, _, _, _⟩) rfl (fun K hK => ?step56026x0) ?more56026x0
           case more56026x0 => exact AllT.nil
           go_simp
           (rw [← hwtIc]; clear hwtIc)
           refine hK.out _ _ ?hS56026x0 (fun H56026 => ?_)
           case hS56026x0 => exact ⟨fun h => (by first | exact absurd h (by decide) | simp at h), by (first | exact HT.out _ (by solve_by_elim [X0, X1, X2, X3]) | exact MTAtI.out _ (by solve_by_elim [X0, X1, X2, X3]) | exact MTBtI.out _ (by solve_by_elim [X0, X1, X2, X3]) | exact MTCtI.out _ (by solve_by_elim [X0, X1, X2, X3]) | exact MTDtI.out _ (by solve_by_elim [X0, X1, X2, X3]))⟩
           clear hK K
           clear H56025
           refine TB 12 (v := ?v56027) H56026 ?hy56027 ?_
           case hy56027 => (intro w hSw; (try dsimp only at hSw); go_simp <;> first | with_reducible rfl | rw [if_neg (by omega)] | rw [if_pos (by omega)])
           (try simp only [PU])
           refine AnyT.ready (rs := [13]) (by kernel_rfl) (by simp) ?_
           refine AllT.cons (o := ⟨_, _, _, _, _, _⟩) rfl (fun K hK => ?step56028x0) ?more56028x0
           case more56028x0 => exact AllT.nil
           go_simp
           (rw [← hwtId]; clear hwtId)
           refine hK.out _ _ ?hS56028x0 (fun H56028 => ?_)
           case hS56028x0 => exact ⟨fun h => (by first | exact absurd h (by decide) | simp at h), by (first | exact HT.out _ (by solve_by_elim [X0, X1, X2, X3]) | exact MTAtI.out _ (by solve_by_elim [X0, X1, X2, X3]) | exact MTBtI.out _ (by solve_by_elim [X0, X1, X2, X3]) | exact MTCtI.out _ (by solve_by_elim [X0, X1, X2, X3]) | exact MTDtI.out _ (by solve_by_elim [X0, X1, X2, X3]))⟩
           clear hK K
           clear H56026
           refine AnyT.done (by kernel_rfl) ?_ _
           clear H56028
           go_wp2_with fail
           go_roundw
           case rel => exact ⟨k + 1, x1, x2, at6, e6, _, _, _, _, C3, st6, rfl, rfl, by go_num, Lib.hid (by rw [HC3E.out]; exact HPdtI.out), Lib.hid (MTDtI.out _ (Ext.refl _)), HO6, HI3⟩
           case measure => simp [intOf]; omega
         ·have HB := hj
          have g : decide ((k : Int) < many) = false := decide_eq_false hj
          have HE := Lib.hid (inv_out HI.out (fun _ _ => hj))
          obtain ⟨c0, c1, c2, -, -⟩ := HR.out
          clear HI
          go_wp2_with fail
          go_roundw
          case rel => exact ⟨i + 1, nd, ed, at2, e2, vN, vF, vT, vE, D, _, rfl, rfl, by go_num, HP, HR, HO, HE⟩
          case measure => simp [intOf]; omega
   ·have HB := hi
    have g : decide ((i : Int) < cnt) = false := decide_eq_false hi
    have HE := Lib.hid (inv_end HI.out (fun _ _ => hi))
    obtain ⟨c0, c1, c2, -, -⟩ := HR.out
    clear HI
    go_wp2_with fail
    go_meet
    case rel => exact ⟨rfl, at2, e2, vN, vF, vT, vE, C, _, HP, HR, HO, HE⟩
 case rest =>
  obtain ⟨rfl, at2, e2, vN, vF, vT, vE, C, st2, HP, HR, HO, HE⟩ := hcut
  obtain ⟨w5, hw5⟩ : ∃ W, W = wc := ⟨_, rfl⟩
  subst hw5
  have HLF := Lib.hid (finC_len HE.out.2)
  have hm1 : C.first.length + 1 ≤ 8388608 := by have := HE.out.2.len; omega
  clear HP4 HR4 HO4 HI4
  obtain ⟨AN, cN, rfl⟩ := HP.out.c4.n.form
  obtain ⟨AT, cT, rfl⟩ := HP.out.c4.t.form
  obtain ⟨z0, z1, z2, z3⟩ := HP.out.bx
  obtain ⟨bn, hbn⟩ : ∃ bn : Bool, bn = decide (0 < C.nodes.length) := ⟨_, rfl⟩
  have HN0 := Lib.hid (fun (h : bn = false) => (by rw [hbn] at h; have h1 := of_decide_eq_false h; exact List.eq_nil_of_length_eq_zero (by omega) : C.nodes = []))
  have HN1 := Lib.hid (fun (h : bn = true) => (by rw [hbn] at h; have h1 := of_decide_eq_true h; exact List.length_pos_iff.1 h1 : C.nodes ≠ []))
  have g : decide (0 < C.nodes.length) = bn := hbn.symm
  have g1 : decide (0 < (C.nodes.length : Int)) = bn := by rw [hbn]; exact decide_eq_decide.2 (by omega)
  clear hbn
  go_upto_if 97 with (fail)
  clear g g1
  go_cut [3] from 98 (fun s3 wx => s3 = .int .i64 0 ∧ ∃ (vN vF vT vE : Value), Hid (PkS w w3.heap.size q2 q3 wx vN vF vT vE vN vF vT vE (finC C)) ∧ Hid (RdC wx qr A l.length c at2 e2))
  case first =>
   cases bn
   ·have hn := HN0.out rfl
    have HPF := Lib.hid (by unfold finC; rw [if_pos hn]; exact HP.out : PkS w w3.heap.size q2 q3 w5 (.slice AN C.nodes.length cN) vF (.slice AT C.tos.length cT) vE (.slice AN C.nodes.length cN) vF (.slice AT C.tos.length cT) vE (finC C))
    clear hn
    go_wp2_with fail
    go_meet
    case rel => exact ⟨rfl, _, _, _, _, HPF, HR⟩
   ·have hn := HN1.out rfl
    have HFE := Lib.hid (by unfold finC; rw [if_neg hn] : finC C = { C with first := C.first ++ [(C.tos.length : Int)] })
    have HYF := Lib.hid (show some qr ≠ vF.ownBlock from fun e => by have h1 := (OwnG.lt HP.out.c4.f e.symm).1; have h2 := HQ.out.2.1; omega)
    have HYQ := Lib.hid (show some qr ≠ some q3 from fun e => HQ.out.2.2.2 (Option.some.inj e))
    clear hn
    go_wp2_with (at_builtin; go_loud (refine own_pushG (v := vF) (hs := C.first) T_ki rfl (.tmp 99) (.tmp 103) rfl w5 rfl HP.out.c4.f HP.out.le (C.tos.length : Int) trivial rfl _ rfl rfl hm1 (by decide) ?_); intro v6 w6 hO6 hg6 hd6; obtain ⟨A6, n6, c6, rfl⟩ := own_fm hO6; have hP6 := HP.out.pushF hO6 hg6 (Nat.le_succ _) hd6; have zq := hP6.bx.2.1; have zf := hP6.fz.2.1; have hP7 := hP6.put1 (.slice A6 n6 c6); have hR7 := (HR.out.grown hg6 HYF.out).grown (gr_set w6 q3 1 (.slice A6 n6 c6)) HYQ.out; have HP7 := Lib.hid hP7; have HR7 := Lib.hid hR7; clear hP6 hP7 hO6 hg6 hd6 hR7)
    go_meet
    case rel => exact ⟨rfl, _, _, _, _, Lib.hid (by rw [HFE.out]; exact HP7.out), HR7⟩
  case rest =>
   obtain ⟨rfl, vN, vF', vT, vE', HP2, HR2⟩ := hcut
   obtain ⟨w6, hw6⟩ : ∃ W, W = wc := ⟨_, rfl⟩
   subst hw6
   clear HP HR z0 z1 z2 z3 hm1
   cases st2 with
   | error er =>
    have hne : e2 ≠ 0 := by rw [HO.out.1]; exact HO.out.2
    have g : (e2 != 0) = true := by rw [bne_iff_ne]; exact hne
    have g1 : (e2 == 0) = false := beq_eq_false_iff_ne.2 hne
    have HNO := Lib.hid (by rw [HRS.out, HO.out.1]; exact dec_err HD.out HE.out.1 : R = (e2, noCol))
    obtain ⟨c0, c1, c2, -, -⟩ := HR2.out
    have HM := Lib.hid (fun V (e : Ext w6 V) => e.cell c2)
    obtain ⟨r0, r1, r2, r3⟩ := HP2.out.rx
    obtain ⟨f0, f1, f2, f3⟩ := HP2.out.rz
    have hfin := HP2.out.fin HQX.out.1 HQX.out.2 (.slice none 0 0) (.slice none 0 0) (.slice none 0 0) (.slice none 0 0)
    have hd := set4 HP2.out.rx (.slice none 0 0) (.slice none 0 0) (.slice none 0 0) (.slice none 0 0)
    obtain ⟨w8, hw8⟩ : ∃ W, W = ((((w6.setCell ⟨q2, 0, none⟩ (.slice none 0 0)).setCell ⟨q2, 1, none⟩ (.slice none 0 0)).setCell ⟨q2, 2, none⟩ (.slice none 0 0)).setCell ⟨q2, 3, none⟩ (.slice none 0 0)) := ⟨_, rfl⟩
    rw [← hw8] at hfin hd
    obtain ⟨d0, d1, d2, d3⟩ := hd
    have HF := Lib.hid hfin.1
    have HFC := Lib.hid hfin.2
    clear hfin
    have HM8 := Lib.hid (fun V (e : Ext w8 V) => e.cell (by rw [hw8]; exact (HR2.out.grown ((((gr_set _ _ _ _).trans (gr_set _ _ _ _)).trans (gr_set _ _ _ _)).trans (gr_set _ _ _ _)) (fun e => HQ.out.2.2.1 (Option.some.inj e))).c2 : w8.cell? ⟨qr, 2, none⟩ = some (.int .i64 e2)))
    clear hne HD HE HLF HFC HO HP2 HR2
    go_upto_region 23 with (fail)
    refine AnyT.start (S := (fun V => V.cell? ⟨qr, 2, none⟩ = some (.int .i64 e2))) (T := (fun V => V.cell? ⟨qr, 2, none⟩ = some (.int .i64 e2))) (E := 5) (by kernel_rfl) ?hs56059 (fun hHeld => ?go56059)
    case hs56059 => exact ⟨by (exact HM.out _ (by solve_by_elim [X0, X1, X2, X3])), by (first | exact HM.out _ (by solve_by_elim [X0, X1, X2, X3]) | exact HM8.out _ (by solve_by_elim [X0, X1, X2, X3]))⟩
    refine TB 0 (v := ?v56060) ⟨fun _ => hHeld.1, hHeld.2⟩ ?hy56060 ?_
    case hy56060 => (intro w hSw; (try dsimp only at hSw); go_simp <;> first | with_reducible rfl | rw [if_neg (by omega)] | rw [if_pos (by omega)])
    (try simp only [PU])
    refine TB 1 (v := ?v56061) ⟨fun _ => hHeld.1, hHeld.2⟩ ?hy56061 ?_
    case hy56061 => (intro w hSw; (try dsimp only at hSw); go_simp <;> first | with_reducible rfl | rw [if_neg (by omega)] | rw [if_pos (by omega)])
    (try simp only [PU])
    refine TB 2 (v := ?v56062) ⟨fun _ => hHeld.1, hHeld.2⟩ ?hy56062 ?_
    case hy56062 => (intro w hSw; (try dsimp only at hSw); go_simp <;> first | with_reducible rfl | rw [if_neg (by omega)] | rw [if_pos (by omega)])
    (try simp only [PU])
    refine TB 3 (v := ?v56063) ⟨fun _ => hHeld.1, hHeld.2⟩ ?hy56063 ?_
    case hy56063 => (intro w hSw; (try dsimp only at hSw); go_simp <;> first | with_reducible rfl | rw [if_neg (by omega)] | rw [if_pos (by omega)])
    (try simp only [PU])
    refine TB 4 (v := ?v56064) ⟨fun _ => hHeld.1, hHeld.2⟩ ?hy56064 ?_
    case hy56064 => (intro w hSw; (try dsimp only at hSw); go_simp <;> first | with_reducible rfl | rw [if_neg (by omega)] | rw [if_pos (by omega)])
    (try simp only [PU])
    refine AnyT.ready (rs := [5]) (by kernel_rfl) (by simp) ?_
    refine AllT.cons (o := ⟨_, _, _, _, _, _⟩) rfl (fun K hK => ?step56065x0) ?more56065x0
    case more56065x0 => exact AllT.nil
    go_simp
    (rw [← hw8]; clear hw8 r0 r1 r2 r3 f0 f1 f2 f3)
    refine hK.out _ _ ?hS56065x0 (fun H56065 => ?_)
    case hS56065x0 => exact ⟨fun h => (by first | exact absurd h (by decide) | simp at h), by (first | exact HM.out _ (by solve_by_elim [X0, X1, X2, X3]) | exact HM8.out _ (by solve_by_elim [X0, X1, X2, X3]))⟩
    clear hK K
    clear hHeld
    refine TB 6 (v := ?v56066) H56065 ?hy56066 ?_
    case hy56066 => (intro w hSw; (try dsimp only at hSw); go_simp <;> first | with_reducible rfl | rw [if_neg (by omega)] | rw [if_pos (by omega)])
    (try simp only [PU])
    refine AnyT.done (by kernel_rfl) ?_ _
    clear H56065
    go_wp2_with fail
    (try simp only [Exit.inBlock, Exit.then])
    (try rw [← hw8])
    (try clear hw8 r0 r1 r2 r3 f0 f1 f2 f3)
    refine bodyPost_ret (v := .tuple #[.agg #[(.slice none 0 0), (.slice none 0 0), (.slice none 0 0), (.slice none 0 0)], .int .i64 e2]) (by simp [results, Tryz.results9, go_sem, *]) rfl ?_
    rw [HNO.out]
    first | exact ⟨none, none, none, none, 0, 0, 0, 0, rfl, ColAt.none _ _, by first | exact HF.out | exact X1 HF.out⟩ | exact ⟨none, none, none, none, ⟨0, 0, 0, 0, rfl⟩, ColAt.none _ _, by first | exact HF.out | exact X1 HF.out⟩
   | ok r =>
    have he : e2 = 0 := HO.out.1
    subst he
    have HBAD := Lib.hid (fun h => HRS.out.trans (dec_bad HD.out HE.out.1 h))
    have HMORE := Lib.hid (fun h hr => HRS.out.trans (dec_more HD.out HE.out.1 h hr))
    have HGOOD := Lib.hid (fun h hr => HRS.out.trans (dec_good HD.out HE.out.1 h hr))
    obtain ⟨hl0, hl1, hl2, hl3⟩ := HLF.out
    have HAT := Lib.hid HO.out.2
    clear HD HE HLF HRS HO
    generalize finC C = Z at *
    obtain ⟨A0, B0, C0, D0, k0, k1, k2, k3, e0, e1, e3, e4, hcol⟩ := HP2.out.c4.col ⟨(by omega), (by omega), (by omega), (by omega)⟩
    subst e0 e1 e3 e4
    have HCV := Lib.hid (co_Valid Z _ A0 B0 C0 D0 k0 k1 k2 k3 w6 hcol (by omega))
    obtain ⟨c0, c1, c2, -, -⟩ := HR2.out
    obtain ⟨z0, z1, z2, z3⟩ := HP2.out.bx
    clear hcol
    generalize hcb : colB Z = cb at *
    have HCB := Lib.hid hcb
    clear hcb
    cases cb
    ·have HNO := Lib.hid (HBAD.out rfl)
     clear HMORE HGOOD HBAD
     go_upto_region 25 with ((go_at_call 15; ((with_reducible refine (HCV.out).mono ?_); rintro e w7 ⟨rfl, hx7⟩; have HP7 := Lib.hid (HP2.out.exts hx7); have HR7 := Lib.hid (HR2.out.ext hx7); clear hx7 HCV)))
     clear z0 z1 z2 z3 c0 c1 c2
     obtain ⟨r0, r1, r2, r3⟩ := HP7.out.rx
     obtain ⟨f0, f1, f2, f3⟩ := HP7.out.rz
     have hfin := HP7.out.fin HQX.out.1 HQX.out.2 (.slice none 0 0) (.slice none 0 0) (.slice none 0 0) (.slice none 0 0)
     have hd := set4 HP7.out.rx (.slice none 0 0) (.slice none 0 0) (.slice none 0 0) (.slice none 0 0)
     obtain ⟨w8, hw8⟩ : ∃ W, W = ((((w7.setCell ⟨q2, 0, none⟩ (.slice none 0 0)).setCell ⟨q2, 1, none⟩ (.slice none 0 0)).setCell ⟨q2, 2, none⟩ (.slice none 0 0)).setCell ⟨q2, 3, none⟩ (.slice none 0 0)) := ⟨_, rfl⟩
     rw [← hw8] at hfin hd
     obtain ⟨d0, d1, d2, d3⟩ := hd
     have HF := Lib.hid hfin.1
     have HFC := Lib.hid hfin.2
     clear hfin
     go_wp2_with fail
     (try simp only [Exit.inBlock, Exit.then])
     (try rw [← hw8])
     (try clear hw8 r0 r1 r2 r3 f0 f1 f2 f3)
     refine bodyPost_ret (v := .tuple #[.agg #[(.slice none 0 0), (.slice none 0 0), (.slice none 0 0), (.slice none 0 0)], .int .i64 1]) (by simp [results, Tryz.results9, go_sem, *]) rfl ?_
     rw [HNO.out]
     first | exact ⟨none, none, none, none, 0, 0, 0, 0, rfl, ColAt.none _ _, by first | exact HF.out | exact X1 HF.out⟩ | exact ⟨none, none, none, none, ⟨0, 0, 0, 0, rfl⟩, ColAt.none _ _, by first | exact HF.out | exact X1 HF.out⟩
    ·have HMO := Lib.hid (HMORE.out rfl)
     have HGO := Lib.hid (HGOOD.out rfl)
     clear HMORE HGOOD HBAD
     have hal : at2 = (l.length : Int) - r.length := HAT.out.2.1
     have hrl : r.length ≤ l.length := HAT.out.1
     by_cases hr : r = []
     ·have HNO := Lib.hid (HGO.out hr)
      have hr0 : r.length = 0 := by rw [hr]; rfl
      have g : decide (at2 < (l.length : Int)) = false := decide_eq_false (by omega)
      clear HMO HGO hr hal hr0 hrl
      go_upto_region 26 with ((go_at_call 15; ((with_reducible refine (HCV.out).mono ?_); rintro e w7 ⟨rfl, hx7⟩; have HP7 := Lib.hid (HP2.out.exts hx7); have HR7 := Lib.hid (HR2.out.ext hx7); clear hx7 HCV)))
      clear z0 z1 z2 z3 c0 c1 c2
      obtain ⟨z0, z1, z2, z3⟩ := HP7.out.bx
      obtain ⟨c0, c1, c2, -, -⟩ := HR7.out
      obtain ⟨r0, r1, r2, r3⟩ := HP7.out.rx
      obtain ⟨f0, f1, f2, f3⟩ := HP7.out.rz
      have hfin := HP7.out.fin HQX.out.1 HQX.out.2 (.slice A0 Z.nodes.length k0) (.slice B0 Z.first.length k1) (.slice C0 Z.tos.length k2) (.slice D0 Z.edges.length k3)
      have hd := set4 HP7.out.rx (.slice A0 Z.nodes.length k0) (.slice B0 Z.first.length k1) (.slice C0 Z.tos.length k2) (.slice D0 Z.edges.length k3)
      obtain ⟨w8, hw8⟩ : ∃ W, W = ((((w7.setCell ⟨q2, 0, none⟩ (.slice A0 Z.nodes.length k0)).setCell ⟨q2, 1, none⟩ (.slice B0 Z.first.length k1)).setCell ⟨q2, 2, none⟩ (.slice C0 Z.tos.length k2)).setCell ⟨q2, 3, none⟩ (.slice D0 Z.edges.length k3)) := ⟨_, rfl⟩
      rw [← hw8] at hfin hd
      obtain ⟨d0, d1, d2, d3⟩ := hd
      have HF := Lib.hid hfin.1
      have HFC := Lib.hid hfin.2
      clear hfin
      go_wp2_with fail
      (try simp only [Exit.inBlock, Exit.then])
      (try rw [← hw8])
      clear hw8 r0 r1 r2 r3 f0 f1 f2 f3 z0 z1 z2 z3 c0 c1 c2
      refine bodyPost_ret (v := .tuple #[.agg #[(.slice A0 Z.nodes.length k0), (.slice B0 Z.first.length k1), (.slice C0 Z.tos.length k2), (.slice D0 Z.edges.length k3)], .int .i64 0]) (by simp [results, Tryz.results9, go_sem, *]) rfl ?_
      rw [HNO.out]
      obtain ⟨A1, B1, C1, D1, j0, j1, j2, j3, e0, e1, e3, e4, hcol⟩ := HFC.out.col ⟨(by omega), (by omega), (by omega), (by omega)⟩
      cases e0
      cases e1
      cases e3
      cases e4
      first | exact ⟨A0, B0, C0, D0, k0, k1, k2, k3, rfl, hcol.to (fun b hb => Nat.le_trans HBB.out hb), HF.out⟩ | exact ⟨A0, B0, C0, D0, ⟨k0, k1, k2, k3, rfl⟩, hcol.to (fun b hb => Nat.le_trans HBB.out hb), HF.out⟩
     ·have HNO := Lib.hid (HMO.out hr)
      have hr0 : 0 < r.length := List.length_pos_iff.2 hr
      have g : decide (at2 < (l.length : Int)) = true := decide_eq_true (by omega)
      clear HMO HGO hr hal hr0 hrl
      go_upto_region 26 with ((go_at_call 15; ((with_reducible refine (HCV.out).mono ?_); rintro e w7 ⟨rfl, hx7⟩; have HP7 := Lib.hid (HP2.out.exts hx7); have HR7 := Lib.hid (HR2.out.ext hx7); clear hx7 HCV)))
      clear z0 z1 z2 z3 c0 c1 c2
      obtain ⟨c0, c1, c2, -, -⟩ := HR7.out
      obtain ⟨r0, r1, r2, r3⟩ := HP7.out.rx
      obtain ⟨f0, f1, f2, f3⟩ := HP7.out.rz
      have hfin := HP7.out.fin HQX.out.1 HQX.out.2 (.slice none 0 0) (.slice none 0 0) (.slice none 0 0) (.slice none 0 0)
      have hd := set4 HP7.out.rx (.slice none 0 0) (.slice none 0 0) (.slice none 0 0) (.slice none 0 0)
      obtain ⟨w8, hw8⟩ : ∃ W, W = ((((w7.setCell ⟨q2, 0, none⟩ (.slice none 0 0)).setCell ⟨q2, 1, none⟩ (.slice none 0 0)).setCell ⟨q2, 2, none⟩ (.slice none 0 0)).setCell ⟨q2, 3, none⟩ (.slice none 0 0)) := ⟨_, rfl⟩
      rw [← hw8] at hfin hd
      obtain ⟨d0, d1, d2, d3⟩ := hd
      have HF := Lib.hid hfin.1
      have HFC := Lib.hid hfin.2
      clear hfin
      go_wp2_with fail
      (try simp only [Exit.inBlock, Exit.then])
      (try rw [← hw8])
      (try clear hw8 r0 r1 r2 r3 f0 f1 f2 f3)
      refine bodyPost_ret (v := .tuple #[.agg #[(.slice none 0 0), (.slice none 0 0), (.slice none 0 0), (.slice none 0 0)], .int .i64 2]) (by simp [results, Tryz.results9, go_sem, *]) rfl ?_
      rw [HNO.out]
      first | exact ⟨none, none, none, none, 0, 0, 0, 0, rfl, ColAt.none _ _, by first | exact HF.out | exact X1 HF.out⟩ | exact ⟨none, none, none, none, ⟨0, 0, 0, 0, rfl⟩, ColAt.none _ _, by first | exact HF.out | exact X1 HF.out⟩
end Go.Proofs.YtnheioehadldmaaGreat

/- THE WALK over the reference's Bytes; the law's examples computed. -/
namespace Go.Proofs.YtnheioehadldmaaGreat
open Go.RowKit
def strB (l : List Nat) : ByteArray := strOfNums (l.map (fun n : Nat => (n : Int)))
theorem strB_data (l : List Nat) : (strB l).data.toList = l.map (fun n => UInt8.ofNat n) := by
 unfold strB
 rw [strOfNums_data, List.map_map]
 rfl
theorem strB_inj : ∀ {l m : List Nat}, (∀ x ∈ l, x < 256) → (∀ x ∈ m, x < 256) → l.map (fun n => UInt8.ofNat n) = m.map (fun n => UInt8.ofNat n) → l = m
 | [], [], _, _, _ => rfl
 | [], _ :: _, _, _, h => by cases h
 | _ :: _, [], _, _, h => by cases h
 | x :: l, y :: m, hl, hm, h => by
  rw [List.map_cons, List.map_cons] at h
  injection h with h1 h2
  have hx := hl x (by simp)
  have hy := hm y (by simp)
  have h3 := congrArg UInt8.toNat h1
  rw [UInt8.toNat_ofNat', UInt8.toNat_ofNat', Nat.mod_eq_of_lt hx, Nat.mod_eq_of_lt hy] at h3
  rw [h3, strB_inj (fun z hz => hl z (by simp [hz])) (fun z hz => hm z (by simp [hz])) h2]
theorem strB_eq {l m : List Nat} (hl : ∀ x ∈ l, x < 256) (hm : ∀ x ∈ m, x < 256) : ((strB l).toList == (strB m).toList) = decide (l = m) := by
 rw [ByteArray.toList_eq, ByteArray.toList_eq, strB_data, strB_data]
 by_cases h : l = m
 ·rw [decide_eq_true h, h]; exact beq_self_eq_true _
 ·rw [decide_eq_false h]; exact beq_eq_false_iff_ne.2 (fun e => h (strB_inj hl hm e))
set_option maxRecDepth 100000 in
theorem conv_bytes (w : World) (ok : Nat → Prop) (A : Option Addr) (c : Nat) (l : List Nat) (h : Byts w ok A l) : (convert 35 9 (.slice A l.length c)).run Tryz.prog w = .ok (.string (strB l)) w := by
 cases A with
 | none =>
  have h0 : l = [] := by
   rcases Nat.eq_zero_or_pos l.length with h0 | h0
   ·exact List.eq_nil_of_length_eq_zero h0
   ·obtain ⟨b, o, e, -⟩ := h.2 h0; cases e
  subst h0
  exact run_convert_bytes_nil w 35 5 Tryz.underlying35 Tryz.underlying5 0 c 9 Tryz.underlying9
 | some ad =>
  rcases Nat.eq_zero_or_pos l.length with h0 | h0
  ·obtain rfl := List.eq_nil_of_length_eq_zero h0
   show (convert _ _ (.slice (some ad) 0 c)).run _ w = _
   rw [run_convert_bytes_string w 35 9 5 (some ad) 0 c Tryz.underlying35 Tryz.underlying5 Tryz.underlying9, run_bytesToString w ad 0 c [] (run_loadCells_list w ad [] (fun j v h => by simp at h))]
   simp [strB, strOfNums, ByteArray.empty, ByteArray.emptyWithCapacity]
   rfl
  ·obtain ⟨b, o, e, hc⟩ := h.2 h0
   injection e with e
   subst e
   have hx : (l.map (fun n : Nat => (n : Int))).length = l.length := by rw [List.length_map]
   have hcell : ∀ i, i < l.length → w.cell? ⟨b, o + i, none⟩ = some (.int .u8 ((l.map (fun n : Nat => (n : Int))).getD i 0)) := fun i hi => by
    have h1 := (hc i hi).2
    rw [Nat.mul_one] at h1
    rw [h1, List.getD_eq_getElem?_getD, List.getElem?_map, List.getElem?_eq_getElem hi]
    rfl
   unfold strB
   clear hc h0 h
   generalize l.map (fun n : Nat => (n : Int)) = xs at *
   generalize l.length = n at *
   have H := run_convert_bytes_arg (P := Tryz.prog) w 35 5 Tryz.underlying35 Tryz.underlying5 b o n c xs hx hcell 9 Tryz.underlying9
   exact H
set_option maxRecDepth 100000 in
theorem r12_Bytes (l m : List Nat) (ok ok' : Nat → Prop) (A B : Option Addr) (c d : Nat) (w : World) (ha : Byts w ok A l) (hb : Byts w ok' B m) (hl : ∀ x ∈ l, x < 256) (hm : ∀ x ∈ m, x < 256) :
  Calls Tryz.prog 11 #[.slice A l.length c, .slice B m.length d] w fun e w' => e = .returned (.bool (decide (l = m))) ∧ Ext w w' := by
 have k1 := conv_bytes w ok A c l ha
 have k2 := conv_bytes w ok' B d m hb
 have HE := Lib.hid (strB_eq hl hm)
 generalize l.length = n1 at *
 generalize m.length = n2 at *
 generalize strB l = s1 at *
 generalize strB m = s2 at *
 generalize decide (l = m) = R at *
 clear ha hb hl hm
 have k3 := HE.out
 go_enter Tryz.func11, Tryz.ntmps11
 go_wp2_with fail
 go_ret
 exact ⟨rfl, Ext.refl _⟩
def wantC : Col := ⟨[1], [0, 2], [2, 3], [1, 2]⟩
def listL : List Sh := [⟨1, 3, 2⟩, ⟨1, 2, 1⟩]
theorem live_0 : ofR listL = (0, wantC) := by rfl
theorem live_1 : ofR [⟨1, 2, 7⟩, ⟨3, 4, 7⟩] = (7, noCol) := by rfl
theorem live_v : validP wantC := by have h := ofR_valid listL; rw [live_0] at h; exact h
theorem live_b : colB wantC = true := colB_iff.2 live_v
theorem live_2 : encR wantC = [1, 1, 2, 2, 2, 2, 2] := by
 unfold encR
 rw [if_pos live_b]
 simp [encC, rowsB, rowB, hdB, entsB, entB, prevN, prevE, prevT, wantC, List.range_succ, List.range', vi_small, zig]
theorem live_3 : decR (decC [1, 1, 2, 2, 2, 2, 2]) = (0, wantC) := by
 have h : decC [1, 1, 2, 2, 2, 2, 2] = endC (.ok (⟨[1], [0], [2, 3], [1, 2]⟩, [])) := rfl
 exact dec_good (C := ⟨[1], [0], [2, 3], [1, 2]⟩) (r := []) h rfl live_b rfl
theorem live_4 : decR (decC [1, 1, 0]) = (1, noCol) := rfl
theorem live_5 : buildR ⟨[], [], 1, 1⟩ ByteArray.empty 3 = (1, noCol) := rfl
theorem live_6 : colB ⟨[], [0], [], []⟩ = true := colB_iff.2 (.inr ⟨⟨rfl, rfl, rfl, rfl, fun i h => absurd h (Nat.not_lt_zero _)⟩, List.Pairwise.nil, ⟨fun a h => absurd h (by simp [flatC, flatK]), List.Pairwise.nil, List.nodup_nil⟩⟩)
theorem live_7 : colB ⟨[1], [], [], []⟩ = false := colB_no (fun h => by
 rcases h with ⟨h, -⟩ | ⟨h, -⟩
 ·cases h
 ·have := h.len; cases this)
theorem live_8 : entR wantC = [⟨1, 2, 1⟩, ⟨1, 3, 2⟩] := by unfold entR; rw [if_pos live_b]; rfl
theorem live_9 : (entR wantC).filter (fun a => decide (a.id = 1)) = [⟨1, 2, 1⟩, ⟨1, 3, 2⟩] := by rw [live_8]; rfl
end Go.Proofs.YtnheioehadldmaaGreat
