/- PARTS OF THE WALKS, joined: CoY, CpI, CpC, CpD, CoZ. -/
import Derived.Test.YtnheioehadldmaaGreatR18
import Derived.Test.YtnheioehadldmaaGreatR11
import Derived.Test.YtnheioehadldmaaGreatR12
import Derived.Test.YtnheioehadldmaaGreatR10
import Derived.Test.YtnheioehadldmaaGreatR03
import Derived.Test.YtnheioehadldmaaGreatR09
import Derived.Test.YtnheioehadldmaaGreatR17
import Derived.Test.YtnheioehadldmaaGreatR15
/- THE WALKS over the reader of column: id, uint, near. -/
namespace Go.Proofs.YtnheioehadldmaaGreat
open Go.RowKit
/-- a reader in memory -/
structure RdC (W : World) (qr : Nat) (A : Option Addr) (N c : Nat) (at_ e : Int) : Prop where
 c0 : W.cell? ⟨qr, 0, none⟩ = some (.slice A N c)
 c1 : W.cell? ⟨qr, 1, none⟩ = some (.int .i64 at_)
 c2 : W.cell? ⟨qr, 2, none⟩ = some (.int .i64 e)
 f1 : W.frozen? ⟨qr, 1, none⟩ = false
 f2 : W.frozen? ⟨qr, 2, none⟩ = false
section
variable {W W' : World} {qr : Nat} {A : Option Addr} {N c : Nat} {at_ e : Int}
theorem RdC.grown {row : Option Nat} (h : RdC W qr A N c at_ e) (hg : W.grownBy W' row) (hr : some qr ≠ row) : RdC W' qr A N c at_ e :=
 ⟨hg.cell h.c0 hr, hg.cell h.c1 hr, hg.cell h.c2 hr, frz_grown hg h.c1 h.f1 hr, frz_grown hg h.c2 h.f2 hr⟩
theorem RdC.ext (h : RdC W qr A N c at_ e) (x : Ext W W') : RdC W' qr A N c at_ e := h.grown (x.gr none) (by simp)
theorem cell_set_self {j : Nat} {u v : Value} (h : W.cell? ⟨qr, j, none⟩ = some v) : (W.setCell ⟨qr, j, none⟩ u).cell? ⟨qr, j, none⟩ = some u := World.cell?_setCell_same' _ _ _ (by rw [h]; rfl)
theorem cell_set_else {i j : Nat} {u v : Value} (hij : i ≠ j) (h : W.cell? ⟨qr, i, none⟩ = some v) : (W.setCell ⟨qr, j, none⟩ u).cell? ⟨qr, i, none⟩ = some v := (World.cell?_setCell_other _ _ _ _ (fun e => by injection e with _ e2; exact hij e2.symm)).trans h
theorem RdC.setE (h : RdC W qr A N c at_ e) (z : Int) : RdC (W.setCell ⟨qr, 2, none⟩ (.int .i64 z)) qr A N c at_ z :=
 ⟨cell_set_else (by decide) h.c0, cell_set_else (by decide) h.c1, cell_set_self h.c2, (World.frozen?_setCell _ _ _ _).trans h.f1, (World.frozen?_setCell _ _ _ _).trans h.f2⟩
theorem RdC.setAt (h : RdC W qr A N c at_ e) (y : Int) : RdC (W.setCell ⟨qr, 1, none⟩ (.int .i64 y)) qr A N c y e :=
 ⟨cell_set_else (by decide) h.c0, cell_set_self h.c1, cell_set_else (by decide) h.c2, (World.frozen?_setCell _ _ _ _).trans h.f1, (World.frozen?_setCell _ _ _ _).trans h.f2⟩
/-- both marks set -/
theorem RdC.step (h : RdC W qr A N c at_ e) (x : Ext W W') (y z : Int) : W'.cell? ⟨qr, 0, none⟩ = some (.slice A N c) ∧ W'.cell? ⟨qr, 1, none⟩ = some (.int .i64 at_) ∧ W'.cell? ⟨qr, 2, none⟩ = some (.int .i64 e) ∧ W'.frozen? ⟨qr, 1, none⟩ = false ∧ W'.frozen? ⟨qr, 2, none⟩ = false ∧ ∃ W3, W3 = W'.setCell ⟨qr, 1, none⟩ (.int .i64 y) ∧ W3.cell? ⟨qr, 2, none⟩ = some (.int .i64 e) ∧ W3.frozen? ⟨qr, 2, none⟩ = false ∧ ∃ W4, W4 = W3.setCell ⟨qr, 2, none⟩ (.int .i64 z) ∧ RdC W4 qr A N c y z ∧ W.grownBy W4 (some qr) := by
 have h1 := h.ext x
 refine ⟨h1.c0, h1.c1, h1.c2, h1.f1, h1.f2, _, rfl, (h1.setAt y).c2, (h1.setAt y).f2, _, rfl, (h1.setAt y).setE z, ?_⟩
 exact (((x.gr none).but (some qr)).trans (gr_set _ _ _ _)).trans (gr_set _ _ _ _)
end
/-- what the reader's marks say -/
def okR (l : List Nat) (at_ e : Int) : Except Int (List Nat) → Prop
 | .ok r => e = 0 ∧ r.length ≤ l.length ∧ at_ = (l.length : Int) - r.length ∧ r = l.drop (l.length - r.length)
 | .error er => e = er ∧ er ≠ 0
/-- a number read -/
def stU (st : Except Int (List Nat)) (x : Int) (st' : Except Int (List Nat)) : Prop := match st with
 | .error e => st' = .error e
 | .ok r => match uI r with
  | .ok (n, r') => x = n ∧ st' = .ok r'
  | .error e => st' = .error e
/-- a difference read -/
def idM (base n : Int) (r : List Nat) : Except Int (Int × List Nat) := if n < -1000000 ∨ 1000000 < n ∨ idB (base + n) = false then .error 1 else .ok (base + n, r)
def stI (st : Except Int (List Nat)) (base n : Int) (x : Int) (st' : Except Int (List Nat)) : Prop := match st with
 | .error e => st' = .error e
 | .ok r => match idM base n r with
  | .ok (m, r') => x = m ∧ st' = .ok r'
  | .error e => st' = .error e
def nearM (base : Int) (r : List Nat) : Except Int (Int × List Nat) := match iE r with
 | .ok (n, r') => idM base n r'
 | .error e => .error e
def stN (st : Except Int (List Nat)) (base : Int) (x : Int) (st' : Except Int (List Nat)) : Prop := match st with
 | .error e => st' = .error e
 | .ok r => match nearM base r with
  | .ok (m, r') => x = m ∧ st' = .ok r'
  | .error e => st' = .error e
theorem rdF_suf {f : Nat} {l r : List Nat} {u : Nat} (h : rdF f l = .ok (u, r)) : r.length < l.length ∧ r = l.drop (l.length - r.length) := by
 obtain ⟨k, h1, h2, h3⟩ := rdF_drop f l u r h
 have e : r.length = l.length - k := by rw [h3, List.length_drop]
 exact ⟨by omega, by rw [e, show l.length - (l.length - k) = k by omega]; exact h3⟩
theorem uI_suf {l r : List Nat} {n : Int} (h : uI l = .ok (n, r)) : r.length < l.length ∧ r = l.drop (l.length - r.length) := by
 cases h1 : rdF 10 l with
 | error e => rw [uI_err h1] at h; cases h
 | ok p =>
  obtain ⟨u, r'⟩ := p
  by_cases hu : u ≤ 9223372036854775807
  ·rw [uI_ok h1 hu] at h; injection h with h; injection h with e1 e2; subst e2; exact rdF_suf h1
  ·rw [uI_big h1 (by omega)] at h; cases h
theorem iE_suf {l r : List Nat} {n : Int} (h : iE l = .ok (n, r)) : r.length < l.length ∧ r = l.drop (l.length - r.length) := by
 cases h1 : rdF 10 l with
 | error e => rw [iE_err h1] at h; cases h
 | ok p =>
  obtain ⟨u, r'⟩ := p
  rw [iE_ok h1] at h; injection h with h; injection h with e1 e2; subst e2; exact rdF_suf h1
theorem suf_suf {l r s : List Nat} (h1 : r.length ≤ l.length) (h2 : r = l.drop (l.length - r.length)) (h3 : s.length < r.length) (h4 : s = r.drop (r.length - s.length)) : s.length ≤ l.length ∧ s = l.drop (l.length - s.length) := by
 refine ⟨by omega, ?_⟩
 have e : s = (l.drop (l.length - r.length)).drop (r.length - s.length) := h4.trans (by rw [← h2])
 rw [List.drop_drop, show l.length - r.length + (r.length - s.length) = l.length - s.length by omega] at e
 exact e
/-- a step of the marks -/
theorem okR_num {l r : List Nat} {at_ : Int} {M : List Nat → Except Int (Int × List Nat)} (hM : ∀ n s, M r = .ok (n, s) → s.length < r.length ∧ s = r.drop (r.length - s.length)) (h : okR l at_ 0 (.ok r)) {x y z : Int} (hO : numOut l.length (M r) x y z) : ∃ st', okR l y z st' ∧ (match M r with | .ok (n, r') => x = n ∧ st' = .ok r' | .error e => st' = .error e) := by
 obtain ⟨-, h1, h2, h3⟩ := h
 cases hr : M r with
 | error e =>
  rw [hr] at hO
  obtain ⟨-, -, rfl, h6⟩ := hO
  exact ⟨.error z, ⟨rfl, by omega⟩, rfl⟩
 | ok p =>
  obtain ⟨n, s⟩ := p
  rw [hr] at hO
  obtain ⟨e1, e2, e3⟩ := hO
  obtain ⟨h4, h5⟩ := hM n s hr
  obtain ⟨h6, h7⟩ := suf_suf h1 h3 h4 h5
  exact ⟨.ok s, ⟨e3, h6, e2, h7⟩, e1, rfl⟩
theorem okR_at {l r : List Nat} {at_ e : Int} (h : okR l at_ e (.ok r)) : e = 0 ∧ at_ = ((l.length - r.length : Nat) : Int) ∧ l.length - r.length ≤ l.length ∧ l.drop (l.length - r.length) = r := by
 obtain ⟨h0, h1, h2, h3⟩ := h
 exact ⟨h0, by omega, by omega, h3.symm⟩
set_option maxRecDepth 100000 in
theorem co_ruint (l : List Nat) (ok : Nat → Prop) (A : Option Addr) (c qr : Nat) (at_ e0 : Int) (st : Except Int (List Nat)) (W : World) (hr : RdC W qr A l.length c at_ e0) (hs : okR l at_ e0 st) (hv : Byts W ok A l) (hb : ∀ x ∈ l, x < 256) (hc : l.length ≤ c) :
  Calls Tryz.prog 28 #[.pointer (some ⟨qr, 0, none⟩)] W fun e W' => ∃ (x at' e' : Int) (st' : Except Int (List Nat)), e = .returned (.int .i64 x) ∧ RdC W' qr A l.length c at' e' ∧ okR l at' e' st' ∧ stU st x st' ∧ W.grownBy W' (some qr) := by
 have HRC := Lib.hid hr
 obtain ⟨c0, c1, c2, f1, f2⟩ := hr
 cases st with
 | error er =>
  obtain ⟨rfl, he⟩ := hs
  have g : (e0 != 0) = true := by rw [bne_iff_ne]; exact he
  have HE := Lib.hid he
  clear he
  go_enter Tryz.func28, Tryz.ntmps28
  go_wp2_with fail
  go_ret
  exact ⟨0, at_, e0, .error e0, rfl, (by first | exact HRC.out | exact HRC.out.ext (by solve_by_elim [X0, X1, X2, X3])), ⟨rfl, HE.out⟩, rfl, (Ext.gr (a := W) (by solve_by_elim [X0, X1, X2, X3]) none).but _⟩
 | ok r =>
  obtain ⟨h0, h1, h2, h3⟩ := okR_at hs
  subst h0
  have HCL := Lib.hid (fun V (x : Ext W V) => co_Uint l ok A c (l.length - r.length) V (hv.ext x) hb hc h2)
  rw [h3, ← h1] at HCL
  have HST := Lib.hid (fun x y z (hO : numOut l.length (uI r) x y z) => okR_num (fun n s h => uI_suf h) hs hO)
  clear h1 h2 h3 hs hv
  generalize l.length = N at *
  have HMK := Lib.hid (fun V (e : Ext W V) => (⟨e.cell c0, e.cell c1⟩ : V.cell? ⟨qr, 0, none⟩ = some (.slice A N c) ∧ V.cell? ⟨qr, 1, none⟩ = some (.int .i64 at_)))
  go_enter Tryz.func28, Tryz.ntmps28
  go_upto_region 4 with (fail)
  refine AnyT.start (S := (fun V => V.cell? ⟨qr, 0, none⟩ = some (.slice A N c) ∧ V.cell? ⟨qr, 1, none⟩ = some (.int .i64 at_))) (T := (fun _ => True)) (E := 10) (by kernel_rfl) ?hs52001 (fun hHeld => ?go52001)
  case hs52001 => exact ⟨by (exact HMK.out _ (by solve_by_elim [X0, X1, X2, X3])), by trivial⟩
  refine TB 0 (v := ?v52002) ⟨fun _ => hHeld.1, hHeld.2⟩ ?hy52002 ?_
  case hy52002 => (intro w hSw; (try dsimp only at hSw); go_simp <;> first | with_reducible rfl | rw [if_neg (by omega)] | rw [if_pos (by omega)])
  (try simp only [PU])
  refine TB 1 (v := ?v52003) ⟨fun _ => hHeld.1, hHeld.2⟩ ?hy52003 ?_
  case hy52003 => (intro w hSw; (try dsimp only at hSw); go_simp <;> first | with_reducible rfl | rw [if_neg (by omega)] | rw [if_pos (by omega)])
  (try simp only [PU])
  refine TB 2 (v := ?v52004) ⟨fun _ => hHeld.1, hHeld.2⟩ ?hy52004 ?_
  case hy52004 => (intro w hSw; (try dsimp only at hSw); go_simp <;> first | with_reducible rfl | rw [if_neg (by omega)] | rw [if_pos (by omega)])
  (try simp only [PU])
  refine TB 3 (v := ?v52005) ⟨fun _ => hHeld.1, hHeld.2⟩ ?hy52005 ?_
  case hy52005 => (intro w hSw; (try dsimp only at hSw); go_simp <;> first | with_reducible rfl | rw [if_neg (by omega)] | rw [if_pos (by omega)])
  (try simp only [PU])
  refine TB 4 (v := ?v52006) ⟨fun _ => hHeld.1, hHeld.2⟩ ?hy52006 ?_
  case hy52006 => (intro w hSw; (try dsimp only at hSw); go_simp <;> first | with_reducible rfl | rw [if_neg (by omega)] | rw [if_pos (by omega)])
  (try simp only [PU])
  refine TA 5 (v := ?v52007) hHeld ?hy52007 ?_
  case hy52007 => (intro w hSw; (try dsimp only at hSw); go_simp <;> first | with_reducible rfl | rw [if_neg (by omega)] | rw [if_pos (by omega)])
  (try simp only [PU])
  refine TB 6 (v := ?v52008) ⟨fun _ => hHeld.1, hHeld.2⟩ ?hy52008 ?_
  case hy52008 => (intro w hSw; (try dsimp only at hSw); go_simp <;> first | with_reducible rfl | rw [if_neg (by omega)] | rw [if_pos (by omega)])
  (try simp only [PU])
  refine TB 7 (v := ?v52009) ⟨fun _ => hHeld.1, hHeld.2⟩ ?hy52009 ?_
  case hy52009 => (intro w hSw; (try dsimp only at hSw); go_simp <;> first | with_reducible rfl | rw [if_neg (by omega)] | rw [if_pos (by omega)])
  (try simp only [PU])
  refine TB 8 (v := ?v52010) ⟨fun _ => hHeld.1, hHeld.2⟩ ?hy52010 ?_
  case hy52010 => (intro w hSw; (try dsimp only at hSw); go_simp <;> first | with_reducible rfl | rw [if_neg (by omega)] | rw [if_pos (by omega)])
  (try simp only [PU])
  refine TA 9 (v := ?v52011) hHeld ?hy52011 ?_
  case hy52011 => (intro w hSw; (try dsimp only at hSw); go_simp <;> first | with_reducible rfl | rw [if_neg (by omega)] | rw [if_pos (by omega)])
  (try simp only [PU])
  refine AnyT.ready (rs := [10]) (by kernel_rfl) (by simp) ?_
  refine AllT.cons (o := ⟨_, _, _, _, _, _⟩) rfl (fun K hK => ?step52012x0) ?more52012x0
  case more52012x0 => exact AllT.nil
  go_simp
  (go_at_call 59; ((with_reducible refine (HCL.out _ (by solve_by_elim [X0, X1, X2, X3])).mono ?_); rintro e w2 ⟨x, y, z, rfl, hO, hx⟩; obtain ⟨z0, z1, z2, f1, f2, w3, hw3, y2, g2, w4, hw4, hR, hg⟩ := RdC.step HRC.out (Ext.trans (a := W) (by solve_by_elim [X0, X1, X2, X3]) hx) y z; have HO := Lib.hid hO; have HRR := Lib.hid hR; have HG := Lib.hid hg; clear hO hR hg hx))
  refine hK.out _ _ ?hS52012x0 (fun H52012 => ?_)
  case hS52012x0 => exact ⟨fun h => (by first | exact absurd h (by decide) | simp at h), by trivial⟩
  clear hK K
  clear hHeld
  (try simp only [PU])
  refine TB 11 (v := ?v52013) H52012 ?hy52013 ?_
  case hy52013 => (intro w hSw; (try dsimp only at hSw); go_simp <;> first | with_reducible rfl | rw [if_neg (by omega)] | rw [if_pos (by omega)])
  (try simp only [PU])
  refine TB 12 (v := ?v52014) H52012 ?hy52014 ?_
  case hy52014 => (intro w hSw; (try dsimp only at hSw); go_simp <;> first | with_reducible rfl | rw [if_neg (by omega)] | rw [if_pos (by omega)])
  (try simp only [PU])
  refine TB 13 (v := ?v52015) H52012 ?hy52015 ?_
  case hy52015 => (intro w hSw; (try dsimp only at hSw); go_simp <;> first | with_reducible rfl | rw [if_neg (by omega)] | rw [if_pos (by omega)])
  (try simp only [PU])
  refine TB 14 (v := ?v52016) H52012 ?hy52016 ?_
  case hy52016 => (intro w hSw; (try dsimp only at hSw); go_simp <;> first | with_reducible rfl | rw [if_neg (by omega)] | rw [if_pos (by omega)])
  (try simp only [PU])
  refine TB 15 (v := ?v52017) H52012 ?hy52017 ?_
  case hy52017 => (intro w hSw; (try dsimp only at hSw); go_simp <;> first | with_reducible rfl | rw [if_neg (by omega)] | rw [if_pos (by omega)])
  (try simp only [PU])
  refine TB 16 (v := ?v52018) H52012 ?hy52018 ?_
  case hy52018 => (intro w hSw; (try dsimp only at hSw); go_simp <;> first | with_reducible rfl | rw [if_neg (by omega)] | rw [if_pos (by omega)])
  (try simp only [PU])
  refine TB 17 (v := ?v52019) H52012 ?hy52019 ?_
  case hy52019 => (intro w hSw; (try dsimp only at hSw); go_simp <;> first | with_reducible rfl | rw [if_neg (by omega)] | rw [if_pos (by omega)])
  (try simp only [PU])
  refine AnyT.ready (rs := [18]) (by kernel_rfl) (by simp) ?_
  refine AllT.cons (o := ⟨_, _, _, _, _, _⟩) rfl (fun K hK => ?step52020x0) ?more52020x0
  case more52020x0 => exact AllT.nil
  go_simp
  (rw [← hw3]; clear hw3)
  refine hK.out _ _ ?hS52020x0 (fun H52020 => ?_)
  case hS52020x0 => exact ⟨fun h => (by first | exact absurd h (by decide) | simp at h), by trivial⟩
  clear hK K
  clear H52012
  refine TB 19 (v := ?v52021) H52020 ?hy52021 ?_
  case hy52021 => (intro w hSw; (try dsimp only at hSw); go_simp <;> first | with_reducible rfl | rw [if_neg (by omega)] | rw [if_pos (by omega)])
  (try simp only [PU])
  refine TB 20 (v := ?v52022) H52020 ?hy52022 ?_
  case hy52022 => (intro w hSw; (try dsimp only at hSw); go_simp <;> first | with_reducible rfl | rw [if_neg (by omega)] | rw [if_pos (by omega)])
  (try simp only [PU])
  refine AnyT.ready (rs := [21]) (by kernel_rfl) (by simp) ?_
  refine AllT.cons (o := ⟨_, _, _, _, _, _⟩) rfl (fun K hK => ?step52023x0) ?more52023x0
  case more52023x0 => exact AllT.nil
  go_simp
  (rw [← hw4]; clear hw4)
  refine hK.out _ _ ?hS52023x0 (fun H52023 => ?_)
  case hS52023x0 => exact ⟨fun h => (by first | exact absurd h (by decide) | simp at h), by trivial⟩
  clear hK K
  clear H52020
  refine AnyT.done (by kernel_rfl) ?_ _
  clear H52023
  go_wp2_with fail
  go_ret
  obtain ⟨st7, k1, k2⟩ := HST.out _ _ _ HO.out
  exact ⟨_, _, _, st7, rfl, HRR.out, k1, k2, HG.out⟩
theorem idM_no {base n : Int} {r : List Nat} (h : n < -1000000 ∨ 1000000 < n ∨ idB (base + n) = false) : idM base n r = .error 1 := by unfold idM; rw [if_pos h]
theorem idM_yes {base n : Int} {r : List Nat} (h1 : ¬ n < -1000000) (h2 : ¬ 1000000 < n) (h3 : idB (base + n) = true) : idM base n r = .ok (base + n, r) := by unfold idM; rw [if_neg (by rintro (h | h | h); exact h1 h; exact h2 h; rw [h3] at h; cases h)]
theorem stI_no {base n x : Int} {r : List Nat} (h : n < -1000000 ∨ 1000000 < n ∨ idB (base + n) = false) : stI (.ok r) base n x (.error 1) := by unfold stI; simp only []; rw [idM_no h]
theorem stI_yes {base n : Int} {r : List Nat} (h1 : ¬ n < -1000000) (h2 : ¬ 1000000 < n) (h3 : idB (base + n) = true) : stI (.ok r) base n (base + n) (.ok r) := by unfold stI; simp only []; rw [idM_yes h1 h2 h3]; exact ⟨rfl, rfl⟩
set_option maxRecDepth 100000 in
theorem co_rid (l : List Nat) (A : Option Addr) (c qr : Nat) (at_ e0 base n : Int) (st : Except Int (List Nat)) (W : World) (hr : RdC W qr A l.length c at_ e0) (hs : okR l at_ e0 st) (hbs : e0 = 0 → 0 ≤ base ∧ base ≤ 1000000) :
  Calls Tryz.prog 29 #[.pointer (some ⟨qr, 0, none⟩), .int .i64 base, .int .i64 n] W fun e W' => ∃ (x e' : Int) (st' : Except Int (List Nat)), e = .returned (.int .i64 x) ∧ RdC W' qr A l.length c at_ e' ∧ okR l at_ e' st' ∧ stI st base n x st' ∧ W.grownBy W' (some qr) := by
 have HRC := Lib.hid hr
 have HRS := Lib.hid (hr.setE 1)
 obtain ⟨c0, c1, c2, f1, f2⟩ := hr
 have HID := Lib.hid (fun V (_ : Ext W V) => co_id (base + n) V)
 cases st with
 | error er =>
  obtain ⟨rfl, he⟩ := hs
  have g : (e0 == 0) = false := by rw [beq_eq_false_iff_ne]; exact he
  have g' : decide (e0 = 0) = false := decide_eq_false he
  have HE := Lib.hid he
  clear he hbs
  go_enter Tryz.func29, Tryz.ntmps29
  go_wp2_with fail
  go_ret
  exact ⟨_, e0, .error e0, rfl, (by first | exact HRC.out | exact HRC.out.ext (by solve_by_elim [X0, X1, X2, X3])), ⟨rfl, HE.out⟩, rfl, (Ext.gr (a := W) (by solve_by_elim [X0, X1, X2, X3]) none).but _⟩
 | ok r =>
  have HOK := Lib.hid hs
  obtain ⟨rfl, -, -, -⟩ := hs
  obtain ⟨hb0, hb1⟩ := hbs rfl
  have HO1 := Lib.hid (show okR l at_ 1 (.error 1) from ⟨rfl, by decide⟩)
  clear hbs
  by_cases h1 : n < -1000000
  ·have HT := Lib.hid (fun x => stI_no (base := base) (x := x) (r := r) (.inl h1))
   have g : decide (n < -1000000) = true := decide_eq_true h1
   clear h1
   go_enter Tryz.func29, Tryz.ntmps29
   go_wp2_with fail
   go_ret
   exact ⟨_, 1, _, rfl, (by first | exact HRS.out | exact (HRC.out.ext (by solve_by_elim [X0, X1, X2, X3])).setE 1), HO1.out, HT.out _, by first | exact gr_set W qr 2 _ | exact ((Ext.gr (a := W) (by solve_by_elim [X0, X1, X2, X3]) none).but _).trans (gr_set _ _ _ _)⟩
  ·have g : decide (n < -1000000) = false := decide_eq_false h1
   by_cases h2 : 1000000 < n
   ·have HT := Lib.hid (fun x => stI_no (base := base) (x := x) (r := r) (.inr (.inl h2)))
    have g2 : decide (1000000 < n) = true := decide_eq_true h2
    clear h1 h2
    go_enter Tryz.func29, Tryz.ntmps29
    go_wp2_with fail
    go_ret
    exact ⟨_, 1, _, rfl, (by first | exact HRS.out | exact (HRC.out.ext (by solve_by_elim [X0, X1, X2, X3])).setE 1), HO1.out, HT.out _, by first | exact gr_set W qr 2 _ | exact ((Ext.gr (a := W) (by solve_by_elim [X0, X1, X2, X3]) none).but _).trans (gr_set _ _ _ _)⟩
   ·have g2 : decide (1000000 < n) = false := decide_eq_false h2
    have hw : IntKind.i64.wrap (base + n) = base + n := by rw [IntKind.wrap_i64]; omega
    have HY := Lib.hid (fun (h : idB (base + n) = true) => stI_yes (r := r) h1 h2 h)
    have HN := Lib.hid (fun (h : idB (base + n) = false) => stI_no (x := base + n) (r := r) (.inr (.inr h)))
    clear h1 h2 hb0 hb1
    cases hb : idB (base + n)
    ·rw [hb] at HID
     have HT := Lib.hid (HN.out hb)
     clear hb HY HN
     go_enter Tryz.func29, Tryz.ntmps29
     go_wp2_with (go_at_call 39; ((with_reducible refine (HID.out _ (by solve_by_elim [X0, X1, X2, X3])).mono ?_); rintro e w2 ⟨rfl, hx2⟩; have hxx := Ext.trans (a := W) (by solve_by_elim [X0, X1, X2, X3]) hx2; have HX := Lib.hid hxx; replace c2 := hxx.cell c2; replace f2 := (HRC.out.ext hxx).f2; clear hx2 hxx))
     go_ret
     exact ⟨_, 1, _, rfl, (HRC.out.ext HX.out).setE 1, HO1.out, HT.out, ((HX.out.gr none).but _).trans (gr_set _ _ _ _)⟩
    ·rw [hb] at HID
     have HT := Lib.hid (HY.out hb)
     clear hb HY HN
     go_enter Tryz.func29, Tryz.ntmps29
     go_wp2_with (go_at_call 39; ((with_reducible refine (HID.out _ (by solve_by_elim [X0, X1, X2, X3])).mono ?_); rintro e w2 ⟨rfl, hx2⟩; have hxx := Ext.trans (a := W) (by solve_by_elim [X0, X1, X2, X3]) hx2; have HX := Lib.hid hxx; replace c2 := hxx.cell c2; replace f2 := (HRC.out.ext hxx).f2; clear hx2 hxx))
     go_ret
     exact ⟨_, 0, _, rfl, HRC.out.ext HX.out, HOK.out, HT.out, (HX.out.gr none).but _⟩
theorem stN_of {st st1 st2 : Except Int (List Nat)} {base n x : Int} (h1 : match st with
  | .error e => st1 = .error e
  | .ok r => match iE r with
   | .ok (m, r') => n = m ∧ st1 = .ok r'
   | .error e => st1 = .error e) (h2 : stI st1 base n x st2) : stN st base x st2 := by
 unfold stN
 cases st with
 | error e => simp only at h1; rw [h1] at h2; exact h2
 | ok r =>
  simp only at h1
  cases hi : iE r with
  | error e => rw [hi] at h1; simp only at h1; rw [h1] at h2; simp only [nearM, hi]; exact h2
  | ok p =>
   obtain ⟨m, r'⟩ := p
   rw [hi] at h1
   obtain ⟨rfl, rfl⟩ := h1
   simp only [nearM, hi]
   exact h2
set_option maxRecDepth 100000 in
theorem co_near (l : List Nat) (ok : Nat → Prop) (A : Option Addr) (c qr : Nat) (at_ e0 base : Int) (st : Except Int (List Nat)) (W : World) (hr : RdC W qr A l.length c at_ e0) (hs : okR l at_ e0 st) (hbs : e0 = 0 → 0 ≤ base ∧ base ≤ 1000000) (hv : Byts W ok A l) (hb : ∀ x ∈ l, x < 256) (hc : l.length ≤ c) :
  Calls Tryz.prog 30 #[.pointer (some ⟨qr, 0, none⟩), .int .i64 base] W fun e W' => ∃ (x at' e' : Int) (st' : Except Int (List Nat)), e = .returned (.int .i64 x) ∧ RdC W' qr A l.length c at' e' ∧ okR l at' e' st' ∧ stN st base x st' ∧ W.grownBy W' (some qr) := by
 have HRC := Lib.hid hr
 obtain ⟨c0, c1, c2, f1, f2⟩ := hr
 cases st with
 | error er =>
  obtain ⟨rfl, he⟩ := hs
  have g : (e0 != 0) = true := by rw [bne_iff_ne]; exact he
  have HE := Lib.hid he
  clear he hbs
  go_enter Tryz.func30, Tryz.ntmps30
  go_wp2_with fail
  go_ret
  exact ⟨0, at_, e0, .error e0, rfl, (by first | exact HRC.out | exact HRC.out.ext (by solve_by_elim [X0, X1, X2, X3])), ⟨rfl, HE.out⟩, rfl, (Ext.gr (a := W) (by solve_by_elim [X0, X1, X2, X3]) none).but _⟩
 | ok r =>
  obtain ⟨h0, h1, h2, h3⟩ := okR_at hs
  subst h0
  have HBS := Lib.hid (hbs rfl)
  have HCL := Lib.hid (fun V (x : Ext W V) => co_Int l ok A c (l.length - r.length) V (hv.ext x) hb hc h2)
  rw [h3, ← h1] at HCL
  have HST := Lib.hid (fun x y z (hO : numOut l.length (iE r) x y z) => okR_num (fun n s h => iE_suf h) hs hO)
  have HID := Lib.hid (fun V y z n st1 (hR : RdC V qr A l.length c y z) (hO : okR l y z st1) => co_rid l A c qr y z base n st1 V hR hO (fun _ => HBS.out))
  clear h1 h2 h3 hs hv hbs
  generalize l.length = N at *
  have HMK := Lib.hid (fun V (e : Ext W V) => (⟨e.cell c0, e.cell c1⟩ : V.cell? ⟨qr, 0, none⟩ = some (.slice A N c) ∧ V.cell? ⟨qr, 1, none⟩ = some (.int .i64 at_)))
  go_enter Tryz.func30, Tryz.ntmps30
  go_upto_region 4 with (fail)
  refine AnyT.start (S := (fun V => V.cell? ⟨qr, 0, none⟩ = some (.slice A N c) ∧ V.cell? ⟨qr, 1, none⟩ = some (.int .i64 at_))) (T := (fun _ => True)) (E := 10) (by kernel_rfl) ?hs52024 (fun hHeld => ?go52024)
  case hs52024 => exact ⟨by (exact HMK.out _ (by solve_by_elim [X0, X1, X2, X3])), by trivial⟩
  refine TB 0 (v := ?v52025) ⟨fun _ => hHeld.1, hHeld.2⟩ ?hy52025 ?_
  case hy52025 => (intro w hSw; (try dsimp only at hSw); go_simp <;> first | with_reducible rfl | rw [if_neg (by omega)] | rw [if_pos (by omega)])
  (try simp only [PU])
  refine TB 1 (v := ?v52026) ⟨fun _ => hHeld.1, hHeld.2⟩ ?hy52026 ?_
  case hy52026 => (intro w hSw; (try dsimp only at hSw); go_simp <;> first | with_reducible rfl | rw [if_neg (by omega)] | rw [if_pos (by omega)])
  (try simp only [PU])
  refine TB 2 (v := ?v52027) ⟨fun _ => hHeld.1, hHeld.2⟩ ?hy52027 ?_
  case hy52027 => (intro w hSw; (try dsimp only at hSw); go_simp <;> first | with_reducible rfl | rw [if_neg (by omega)] | rw [if_pos (by omega)])
  (try simp only [PU])
  refine TB 3 (v := ?v52028) ⟨fun _ => hHeld.1, hHeld.2⟩ ?hy52028 ?_
  case hy52028 => (intro w hSw; (try dsimp only at hSw); go_simp <;> first | with_reducible rfl | rw [if_neg (by omega)] | rw [if_pos (by omega)])
  (try simp only [PU])
  refine TB 4 (v := ?v52029) ⟨fun _ => hHeld.1, hHeld.2⟩ ?hy52029 ?_
  case hy52029 => (intro w hSw; (try dsimp only at hSw); go_simp <;> first | with_reducible rfl | rw [if_neg (by omega)] | rw [if_pos (by omega)])
  (try simp only [PU])
  refine TA 5 (v := ?v52030) hHeld ?hy52030 ?_
  case hy52030 => (intro w hSw; (try dsimp only at hSw); go_simp <;> first | with_reducible rfl | rw [if_neg (by omega)] | rw [if_pos (by omega)])
  (try simp only [PU])
  refine TB 6 (v := ?v52031) ⟨fun _ => hHeld.1, hHeld.2⟩ ?hy52031 ?_
  case hy52031 => (intro w hSw; (try dsimp only at hSw); go_simp <;> first | with_reducible rfl | rw [if_neg (by omega)] | rw [if_pos (by omega)])
  (try simp only [PU])
  refine TB 7 (v := ?v52032) ⟨fun _ => hHeld.1, hHeld.2⟩ ?hy52032 ?_
  case hy52032 => (intro w hSw; (try dsimp only at hSw); go_simp <;> first | with_reducible rfl | rw [if_neg (by omega)] | rw [if_pos (by omega)])
  (try simp only [PU])
  refine TB 8 (v := ?v52033) ⟨fun _ => hHeld.1, hHeld.2⟩ ?hy52033 ?_
  case hy52033 => (intro w hSw; (try dsimp only at hSw); go_simp <;> first | with_reducible rfl | rw [if_neg (by omega)] | rw [if_pos (by omega)])
  (try simp only [PU])
  refine TA 9 (v := ?v52034) hHeld ?hy52034 ?_
  case hy52034 => (intro w hSw; (try dsimp only at hSw); go_simp <;> first | with_reducible rfl | rw [if_neg (by omega)] | rw [if_pos (by omega)])
  (try simp only [PU])
  refine AnyT.ready (rs := [10]) (by kernel_rfl) (by simp) ?_
  refine AllT.cons (o := ⟨_, _, _, _, _, _⟩) rfl (fun K hK => ?step52035x0) ?more52035x0
  case more52035x0 => exact AllT.nil
  go_simp
  (go_at_call 60; ((with_reducible refine (HCL.out _ (by solve_by_elim [X0, X1, X2, X3])).mono ?_); rintro e w2 ⟨x, y, z, rfl, hO, hx⟩; obtain ⟨z0, z1, z2, f1, f2, w3, hw3, y2, g2, w4, hw4, hR, hg⟩ := RdC.step HRC.out (Ext.trans (a := W) (by solve_by_elim [X0, X1, X2, X3]) hx) y z; have HO := Lib.hid hO; have HRR := Lib.hid hR; have HG := Lib.hid hg; clear hO hR hg hx))
  refine hK.out _ _ ?hS52035x0 (fun H52035 => ?_)
  case hS52035x0 => exact ⟨fun h => (by first | exact absurd h (by decide) | simp at h), by trivial⟩
  clear hK K
  clear hHeld
  (try simp only [PU])
  refine TB 11 (v := ?v52036) H52035 ?hy52036 ?_
  case hy52036 => (intro w hSw; (try dsimp only at hSw); go_simp <;> first | with_reducible rfl | rw [if_neg (by omega)] | rw [if_pos (by omega)])
  (try simp only [PU])
  refine TB 12 (v := ?v52037) H52035 ?hy52037 ?_
  case hy52037 => (intro w hSw; (try dsimp only at hSw); go_simp <;> first | with_reducible rfl | rw [if_neg (by omega)] | rw [if_pos (by omega)])
  (try simp only [PU])
  refine TB 13 (v := ?v52038) H52035 ?hy52038 ?_
  case hy52038 => (intro w hSw; (try dsimp only at hSw); go_simp <;> first | with_reducible rfl | rw [if_neg (by omega)] | rw [if_pos (by omega)])
  (try simp only [PU])
  refine TB 14 (v := ?v52039) H52035 ?hy52039 ?_
  case hy52039 => (intro w hSw; (try dsimp only at hSw); go_simp <;> first | with_reducible rfl | rw [if_neg (by omega)] | rw [if_pos (by omega)])
  (try simp only [PU])
  refine TB 15 (v := ?v52040) H52035 ?hy52040 ?_
  case hy52040 => (intro w hSw; (try dsimp only at hSw); go_simp <;> first | with_reducible rfl | rw [if_neg (by omega)] | rw [if_pos (by omega)])
  (try simp only [PU])
  refine TB 16 (v := ?v52041) H52035 ?hy52041 ?_
  case hy52041 => (intro w hSw; (try dsimp only at hSw); go_simp <;> first | with_reducible rfl | rw [if_neg (by omega)] | rw [if_pos (by omega)])
  (try simp only [PU])
  refine TB 17 (v := ?v52042) H52035 ?hy52042 ?_
  case hy52042 => (intro w hSw; (try dsimp only at hSw); go_simp <;> first | with_reducible rfl | rw [if_neg (by omega)] | rw [if_pos (by omega)])
  (try simp only [PU])
  refine AnyT.ready (rs := [18]) (by kernel_rfl) (by simp) ?_
  refine AllT.cons (o := ⟨_, _, _, _, _, _⟩) rfl (fun K hK => ?step52043x0) ?more52043x0
  case more52043x0 => exact AllT.nil
  go_simp
  (rw [← hw3]; clear hw3)
  refine hK.out _ _ ?hS52043x0 (fun H52043 => ?_)
  case hS52043x0 => exact ⟨fun h => (by first | exact absurd h (by decide) | simp at h), by trivial⟩
  clear hK K
  clear H52035
  refine TB 19 (v := ?v52044) H52043 ?hy52044 ?_
  case hy52044 => (intro w hSw; (try dsimp only at hSw); go_simp <;> first | with_reducible rfl | rw [if_neg (by omega)] | rw [if_pos (by omega)])
  (try simp only [PU])
  refine TB 20 (v := ?v52045) H52043 ?hy52045 ?_
  case hy52045 => (intro w hSw; (try dsimp only at hSw); go_simp <;> first | with_reducible rfl | rw [if_neg (by omega)] | rw [if_pos (by omega)])
  (try simp only [PU])
  refine AnyT.ready (rs := [21]) (by kernel_rfl) (by simp) ?_
  refine AllT.cons (o := ⟨_, _, _, _, _, _⟩) rfl (fun K hK => ?step52046x0) ?more52046x0
  case more52046x0 => exact AllT.nil
  go_simp
  (rw [← hw4]; clear hw4)
  refine hK.out _ _ ?hS52046x0 (fun H52046 => ?_)
  case hS52046x0 => exact ⟨fun h => (by first | exact absurd h (by decide) | simp at h), by trivial⟩
  clear hK K
  clear H52043
  refine AnyT.done (by kernel_rfl) ?_ _
  clear H52046
  obtain ⟨st7, k1, k2⟩ := HST.out _ _ _ HO.out
  have HK2 := Lib.hid k2
  have HC2 := Lib.hid (HID.out _ _ _ x _ HRR.out k1)
  clear k1 k2
  go_wp2_with (go_at_call 29; ((with_reducible refine (HC2.out).mono ?_); rintro e w5 ⟨x5, e5, st5, rfl, hR5, hO5, hT5, hg5⟩))
  go_ret
  exact ⟨_, _, _, st5, rfl, hR5, hO5, stN_of HK2.out hT5, HG.out.trans hg5⟩
end Go.Proofs.YtnheioehadldmaaGreat

/- THE WALKS over slices.IndexFunc, slices.DeleteFunc at entries; column.Row, column.Degree. -/
namespace Go.Proofs.YtnheioehadldmaaGreat
open Go.RowKit
set_option maxRecDepth 100000 in
set_option maxHeartbeats 3200000 in
theorem co_unpackO (c : Col) (ok : Nat → Prop) (A B Cx D : Option Addr) (k0 k1 k2 k3 : Nat) (w : World) (hv : ColAt w ok A B Cx D c) (hs : shapeP c) (hm : c.tos.length ≤ 8000000) :
  Calls Tryz.prog 44 #[agC c A B Cx D k0 k1 k2 k3] w fun e w' => ∃ v, e = .returned v ∧ OA w' w.heap.size v (flatC c) ∧ Ext w w' := by
 obtain ⟨q, w1, hq, hw1, ⟨a0, a1, a2, a3⟩, hx⟩ := box_col w c A B Cx D k0 k1 k2 k3 29
 have HW := Lib.hid hw1
 have HQ := Lib.hid hq
 have HX := Lib.hid hx
 have hnl := hv.n.len
 have HV := Lib.hid (hv.ext hx)
 obtain ⟨R, hR⟩ : ∃ R, R = flatC c := ⟨_, rfl⟩
 rw [← hR]
 have HR := Lib.hid hR
 clear hw1 hq hv hx hR
 unfold agC
 go_enter Tryz.func44, Tryz.ntmps44
 go_upto_region 1 with (fail)
 rw [← HW.out, ← HQ.out]
 clear HW HQ
 by_cases hn0 : c.nodes.length = 0
 ·have hz : R = [] := by
   rw [HR.out]; unfold flatC; rw [hn0]; rfl
  subst hz
  clear HV HR
  generalize c.nodes.length = nl at *
  subst hn0
  go_wp2_with fail
  go_loopw [3, 10] (fun v u W => ∃ (_ : Nat), v = .slice none 0 0 ∧ u = .int .i64 0 ∧ Hid (Ext w1 W)) (fun _ _ _ => 0)
  case atStart => exact ⟨0, rfl, rfl, Lib.hid (by solve_by_elim [X0, X1, X2, X3])⟩
  case round =>
   obtain ⟨-, rfl, rfl, hE⟩ := hrel
   replace a0 := hE.out.cell a0
   go_wp2_with fail
   go_ret
   exact ⟨_, rfl, OwnG.nil _ _ _ _ _, HX.out.trans hE.out⟩
 ·have hS : ShapeC c := by
   rcases hs with ⟨h1, -⟩ | h1
   ·exact absurd (by rw [h1]; rfl) hn0
   ·exact h1
  have hfl : c.nodes.length + 1 ≤ c.first.length := by have := hS.len; omega
  have hel : c.tos.length ≤ c.edges.length := by have := hS.same; omega
  have hlast := hS.lt (i := 0) (j := c.nodes.length) (by omega) (Nat.le_refl _)
  rw [hS.zero, hS.last] at hlast
  obtain ⟨bn, on, rfl, hcn⟩ := HV.out.n.2 (by omega)
  obtain ⟨bf, of, rfl, hcf⟩ := HV.out.f.2 (by omega)
  obtain ⟨bt, ot, rfl, hct⟩ := HV.out.t.2 (by omega)
  obtain ⟨be, oe, rfl, hce⟩ := HV.out.e.2 (by omega)
  have HN := Lib.hid (fun t (ht : t < c.nodes.length) W (e : Ext w1 W) => (by have h := (hcn t ht).2; rw [Nat.mul_one, ← getElem!_pos _ t ht] at h; exact e.cell h : W.cell? ⟨bn, on + t, none⟩ = some (.int .i64 c.nodes[t]!)))
  have HF := Lib.hid (fun t (ht : t < c.first.length) W (e : Ext w1 W) => (by have h := (hcf t ht).2; rw [Nat.mul_one, ← getElem!_pos _ t ht] at h; exact e.cell h : W.cell? ⟨bf, of + t, none⟩ = some (.int .i64 c.first[t]!)))
  have HT := Lib.hid (fun t (ht : t < c.tos.length) W (e : Ext w1 W) => (by have h := (hct t ht).2; rw [Nat.mul_one, ← getElem!_pos _ t ht] at h; exact e.cell h : W.cell? ⟨bt, ot + t, none⟩ = some (.int .i64 c.tos[t]!)))
  have HEE := Lib.hid (fun t (ht : t < c.edges.length) W (e : Ext w1 W) => (by have h := (hce t ht).2; rw [Nat.mul_one, ← getElem!_pos _ t ht] at h; exact e.cell h : W.cell? ⟨be, oe + t, none⟩ = some (.int .i64 c.edges[t]!)))
  have MKQ := Lib.hid (fun V (e : Ext w1 V) => (⟨e.cell a0, e.cell a1, e.cell a2, e.cell a3⟩ : (V.cell? ⟨q, 0, none⟩ = some (.slice (some ⟨bn, on, none⟩) c.nodes.length k0) ∧ V.cell? ⟨q, 1, none⟩ = some (.slice (some ⟨bf, of, none⟩) c.first.length k1) ∧ V.cell? ⟨q, 2, none⟩ = some (.slice (some ⟨bt, ot, none⟩) c.tos.length k2) ∧ V.cell? ⟨q, 3, none⟩ = some (.slice (some ⟨be, oe, none⟩) c.edges.length k3))))
  have HS := Lib.hid hS
  clear hcn hcf hct hce HV hn0 hlast
  go_wp2_with fail
  go_loopw [3, 10] (fun v3 u W => ∃ (vO : Value) (i : Nat), vO = v3 ∧ u = .int .i64 i ∧ i ≤ c.nodes.length ∧ Hid (OA W w1.heap.size vO (flatK c i)) ∧ Hid (Ext w1 W)) (fun _ u _ => c.nodes.length - (intOf u).toNat)
  case atStart => exact ⟨_, 0, rfl, rfl, Nat.zero_le _, Lib.hid (OwnG.nil _ _ _ _ _), Lib.hid (by solve_by_elim [X0, X1, X2, X3])⟩
  case round =>
   obtain ⟨vO, i, rfl, rfl, hi, HO, hE⟩ := hrel
   obtain ⟨a0, a1, a2, a3⟩ := MKQ.out wr hE.out
   by_cases hlt : i < c.nodes.length
   ·obtain ⟨nv, hnv⟩ : ∃ nv, nv = c.nodes[i]! := ⟨_, rfl⟩
    have HCN := Lib.hid (HN.out i hlt)
    rw [← hnv] at HCN
    have n0 := HCN.out wr hE.out
    have f0 := HF.out i (by omega) wr hE.out
    have hi1 : i + 1 < c.first.length := by omega
    have hi0 : i < c.first.length := by omega
    obtain ⟨x, hx⟩ : ∃ x : Nat, x = c.first[i]!.toNat := ⟨_, rfl⟩
    obtain ⟨y, hy⟩ : ∃ y : Nat, y = c.first[i + 1]!.toNat := ⟨_, rfl⟩
    have ex : c.first[i]! = (x : Int) := by have := HS.out.nn (i := i) (by omega); omega
    have ey : c.first[i + 1]! = (y : Int) := by have := HS.out.nn (i := i + 1) (by omega); omega
    have hxy : x ≤ y := by have := HS.out.rise i hlt; omega
    have hyt : y ≤ c.tos.length := by have := HS.out.le (i := i + 1) (by omega); omega
    have hlx := flatK_len HS.out hi
    have wi : IntKind.i64.wrap ((i : Int) + 1) = ((i + 1 : Nat) : Int) := by rw [IntKind.wrap_i64]; omega
    have HFN := Lib.hid (fun W (e : Ext w1 W) => (by have h := HF.out (i + 1) hi1 W e; rw [ey] at h; exact h : W.cell? ⟨bf, of + (i + 1), none⟩ = some (.int .i64 (y : Int))))
    have HSC := Lib.hid (flatK_succ c i)
    rw [← hy] at HSC
    have HRS := Lib.hid (fun k (hk : x ≤ k) => ((rowK_snoc (c := c) (i := i) (k := k) (by omega)).trans (by rw [hnv]; rfl) : rowK c i (k + 1) = rowK c i k ++ [(⟨nv, c.tos[k]!, c.edges[k]!⟩ : Sh)]))
    have HR0 := Lib.hid (by rw [hx]; exact rowK_start c i : rowK c i x = [])
    have HRL := Lib.hid (fun k => (by unfold rowK; rw [List.length_map, List.length_range', ← hx] : (rowK c i k).length = k - x))
    rw [← hx] at hlx
    have HLX := Lib.hid hlx
    clear hlx
    rw [ex] at f0
    have HE0 := hE
    have HO0 := Lib.hid (by rw [HR0.out, List.append_nil]; exact HO.out : OA wr w1.heap.size vO (flatK c i ++ rowK c i x))
    clear hx hy ex ey HO hE HR0 hnv
    go_wp2_with fail
    go_loopw [3, 6] (fun v3 u W => ∃ (vO : Value) (k : Nat), vO = v3 ∧ u = .int .i64 k ∧ x ≤ k ∧ k ≤ y ∧ Hid (OA W w1.heap.size vO (flatK c i ++ rowK c i k)) ∧ Hid (Ext w1 W)) (fun _ u _ => y - (intOf u).toNat)
    case atStart => exact ⟨_, x, rfl, rfl, Nat.le_refl _, hxy, HO0, HE0⟩
    case round =>
     clear HO0 HE0 a0 a1 a2 a3 n0 f0
     obtain ⟨vO, k, rfl, rfl, hxk, hky, HO, hE⟩ := hrel
     obtain ⟨a0, a1, a2, a3⟩ := MKQ.out wr hE.out
     have f1 := HFN.out wr hE.out
     by_cases hky' : k < y
     ·have hkt : k < c.tos.length := by omega
      have hke : k < c.edges.length := by omega
      have HCT := Lib.hid (HT.out k hkt)
      have HCE := Lib.hid (HEE.out k hke)
      have hl8 : (flatK c i ++ rowK c i k).length + 1 ≤ 8388608 := by rw [List.length_append, HLX.out, HRL.out]; omega
      have HSN := Lib.hid (by rw [HRS.out k hxk, List.append_assoc] : flatK c i ++ rowK c i (k + 1) = flatK c i ++ rowK c i k ++ [(⟨nv, c.tos[k]!, c.edges[k]!⟩ : Sh)])
      generalize c.tos[k]! = tv at *
      generalize c.edges[k]! = ev at *
      have MK := Lib.hid (fun V (e : Ext wr V) => (⟨MKQ.out V (hE.out.trans e), HCT.out V (hE.out.trans e), HCE.out V (hE.out.trans e)⟩ : (V.cell? ⟨q, 0, none⟩ = some (.slice (some ⟨bn, on, none⟩) c.nodes.length k0) ∧ V.cell? ⟨q, 1, none⟩ = some (.slice (some ⟨bf, of, none⟩) c.first.length k1) ∧ V.cell? ⟨q, 2, none⟩ = some (.slice (some ⟨bt, ot, none⟩) c.tos.length k2) ∧ V.cell? ⟨q, 3, none⟩ = some (.slice (some ⟨be, oe, none⟩) c.edges.length k3)) ∧ V.cell? ⟨bt, ot + k, none⟩ = some (.int .i64 tv) ∧ V.cell? ⟨be, oe + k, none⟩ = some (.int .i64 ev)))
      go_upto_region 8 with (fail)
      refine wp_region_held_drew (S := (fun V => (V.cell? ⟨q, 0, none⟩ = some (.slice (some ⟨bn, on, none⟩) c.nodes.length k0) ∧ V.cell? ⟨q, 1, none⟩ = some (.slice (some ⟨bf, of, none⟩) c.first.length k1) ∧ V.cell? ⟨q, 2, none⟩ = some (.slice (some ⟨bt, ot, none⟩) c.tos.length k2) ∧ V.cell? ⟨q, 3, none⟩ = some (.slice (some ⟨be, oe, none⟩) c.edges.length k3)) ∧ V.cell? ⟨bt, ot + k, none⟩ = some (.int .i64 tv) ∧ V.cell? ⟨be, oe + k, none⟩ = some (.int .i64 ev))) (by kernel_rfl) ?hs66001 (fun hHeld => ?go66001)
      case hs66001 => (first | exact MK.out _ (by solve_by_elim [X0, X1, X2, X3]) | exact MK6.out _ (by solve_by_elim [X0, X1, X2, X3]))
      refine TK 0 (v := ?v66002) hHeld ?hy66002 ?_
      case hy66002 => (intro w hSw; (try dsimp only at hSw); go_simp <;> first | with_reducible rfl | rw [if_neg (by omega)] | rw [if_pos (by omega)])
      (try simp only [PU])
      refine TK 1 (v := ?v66003) hHeld ?hy66003 ?_
      case hy66003 => (intro w hSw; (try dsimp only at hSw); go_simp <;> first | with_reducible rfl | rw [if_neg (by omega)] | rw [if_pos (by omega)])
      (try simp only [PU])
      refine TK 2 (v := ?v66004) hHeld ?hy66004 ?_
      case hy66004 => (intro w hSw; (try dsimp only at hSw); go_simp <;> first | with_reducible rfl | rw [if_neg (by omega)] | rw [if_pos (by omega)])
      (try simp only [PU])
      refine TK 3 (v := ?v66005) hHeld ?hy66005 ?_
      case hy66005 => (intro w hSw; (try dsimp only at hSw); go_simp <;> first | with_reducible rfl | rw [if_neg (by omega)] | rw [if_pos (by omega)])
      (try simp only [PU])
      refine TK 4 (v := ?v66006) hHeld ?hy66006 ?_
      case hy66006 => (intro w hSw; (try dsimp only at hSw); go_simp <;> first | with_reducible rfl | rw [if_neg (by omega)] | rw [if_pos (by omega)])
      (try simp only [PU])
      refine TK 5 (v := ?v66007) hHeld ?hy66007 ?_
      case hy66007 => (intro w hSw; (try dsimp only at hSw); go_simp <;> first | with_reducible rfl | rw [if_neg (by omega)] | rw [if_pos (by omega)])
      (try simp only [PU])
      refine TK 6 (v := ?v66008) hHeld ?hy66008 ?_
      case hy66008 => (intro w hSw; (try dsimp only at hSw); go_simp <;> first | with_reducible rfl | rw [if_neg (by omega)] | rw [if_pos (by omega)])
      (try simp only [PU])
      refine TK 7 (v := ?v66009) hHeld ?hy66009 ?_
      case hy66009 => (intro w hSw; (try dsimp only at hSw); go_simp <;> first | with_reducible rfl | rw [if_neg (by omega)] | rw [if_pos (by omega)])
      (try simp only [PU])
      refine TK 8 (v := ?v66010) hHeld ?hy66010 ?_
      case hy66010 => (intro w hSw; (try dsimp only at hSw); go_simp <;> first | with_reducible rfl | rw [if_neg (by omega)] | rw [if_pos (by omega)])
      (try simp only [PU])
      refine TK 9 (v := ?v66011) hHeld ?hy66011 ?_
      case hy66011 => (intro w hSw; (try dsimp only at hSw); go_simp <;> first | with_reducible rfl | rw [if_neg (by omega)] | rw [if_pos (by omega)])
      (try simp only [PU])
      refine TK 10 (v := ?v66012) hHeld ?hy66012 ?_
      case hy66012 => (intro w hSw; (try dsimp only at hSw); go_simp <;> first | with_reducible rfl | rw [if_neg (by omega)] | rw [if_pos (by omega)])
      (try simp only [PU])
      refine TK 11 (v := ?v66013) hHeld ?hy66013 ?_
      case hy66013 => (intro w hSw; (try dsimp only at hSw); go_simp <;> first | with_reducible rfl | rw [if_neg (by omega)] | rw [if_pos (by omega)])
      (try simp only [PU])
      refine TK 12 (v := ?v66014) hHeld ?hy66014 ?_
      case hy66014 => (intro w hSw; (try dsimp only at hSw); go_simp <;> first | with_reducible rfl | rw [if_neg (by omega)] | rw [if_pos (by omega)])
      (try simp only [PU])
      refine wpAnyH_ready (rs := [13]) (by kernel_rfl) (by simp) ?_
      refine AllReadyH.cons (o := ⟨_, _, _, _, _, _⟩) rfl (fun K hK => ?step66015x0) ?more66015x0
      case more66015x0 => exact AllReadyH.nil
      go_simp
      refine hK.out _ _ ?hS66015x0 (fun H66015 => ?_)
      case hS66015x0 => first | (first | exact MK.out _ (by solve_by_elim [X0, X1, X2, X3]) | exact MK6.out _ (by solve_by_elim [X0, X1, X2, X3])) | ((try dsimp only); (first | exact MK.out _ (by solve_by_elim [X0, X1, X2, X3]) | exact MK6.out _ (by solve_by_elim [X0, X1, X2, X3])))
      clear hK K
      clear hHeld
      (try simp only [PU])
      refine wpAnyH_ready (rs := [14]) (by kernel_rfl) (by simp) ?_
      refine AllReadyH.cons (o := ⟨_, _, _, _, _, _⟩) rfl (fun K hK => ?step66016x0) ?more66016x0
      case more66016x0 => exact AllReadyH.nil
      (refine step_pushAt (v := vO) (hs := flatK c i ++ rowK c i k) T_ka rfl (.tmp 30) (.tmp 43) rfl rfl (OwnG.ext HO.out (by solve_by_elim [X0, X1, X2, X3])) (Nat.le_trans hE.out.le (Ext.le (a := wr) (by solve_by_elim [X0, X1, X2, X3]))) (⟨nv, tv, ev⟩ : Sh) trivial ⟨_, 0, none⟩ 1 rfl (adj_cell (by go_simp) (by go_simp) (by go_simp)) hl8 (by decide) ?_; intro v6 w6 hO6 hg6 hd6; have hE6 : Ext w1 w6 := (hE.out.trans (show Ext wr _ from (by solve_by_elim [X0, X1, X2, X3]))).grown hg6 (fun g e => (OwnG.lt HO.out e).1); have HO6 := Lib.hid hO6; have HE6 := Lib.hid hE6; have MK6 := Lib.hid (fun V (e : Ext w6 V) => (⟨MKQ.out V (HE6.out.trans e), (HCT.out V (HE6.out.trans e)), (HCE.out V (HE6.out.trans e))⟩ : (V.cell? ⟨q, 0, none⟩ = some (.slice (some ⟨bn, on, none⟩) c.nodes.length k0) ∧ V.cell? ⟨q, 1, none⟩ = some (.slice (some ⟨bf, of, none⟩) c.first.length k1) ∧ V.cell? ⟨q, 2, none⟩ = some (.slice (some ⟨bt, ot, none⟩) c.tos.length k2) ∧ V.cell? ⟨q, 3, none⟩ = some (.slice (some ⟨be, oe, none⟩) c.edges.length k3)) ∧ V.cell? ⟨bt, ot + k, none⟩ = some (.int .i64 tv) ∧ V.cell? ⟨be, oe + k, none⟩ = some (.int .i64 ev))); clear hO6 hg6 hd6 hE6)
      refine hK.out _ _ ?hS66016x0 (fun H66016 => ?_)
      case hS66016x0 => first | (first | exact MK.out _ (by solve_by_elim [X0, X1, X2, X3]) | exact MK6.out _ (by solve_by_elim [X0, X1, X2, X3])) | ((try dsimp only); (first | exact MK.out _ (by solve_by_elim [X0, X1, X2, X3]) | exact MK6.out _ (by solve_by_elim [X0, X1, X2, X3])))
      clear hK K
      clear H66015
      (try simp only [PU])
      refine TK 15 (v := ?v66017) H66016 ?hy66017 ?_
      case hy66017 => (intro w hSw; (try dsimp only at hSw); go_simp <;> first | with_reducible rfl | rw [if_neg (by omega)] | rw [if_pos (by omega)])
      (try simp only [PU])
      refine wpAnyH_done (by kernel_rfl) ?_ _
      clear H66016
      go_wp2_with fail
      go_roundw
      case rel => exact ⟨_, k + 1, rfl, by go_num, by omega, by omega, Lib.hid (by rw [HSN.out]; exact HO6.out), HE6⟩
      case measure => simp [intOf]; omega
     ·have hke : k = y := by omega
      have HOF := Lib.hid (by rw [HSC.out, ← hke]; exact HO.out : OA wr w1.heap.size vO (flatK c (i + 1)))
      clear hke HO
      go_wp2_with fail
      go_roundw
      case rel => exact ⟨_, i + 1, rfl, by go_num, by omega, HOF, hE⟩
      case measure => simp [intOf]; omega
   ·have hke : i = c.nodes.length := by omega
    have HOF := Lib.hid (by have h := HO.out; rw [hke] at h; rw [HR.out]; exact h : OA wr w1.heap.size vO R)
    have hRl : R.length = c.tos.length := by rw [HR.out]; exact flatC_len HS.out
    have HLE := Lib.hid HX.out.le
    clear HO hke HR
    go_wp2_with fail
    go_ret
    exact ⟨_, rfl, OwnG.mono HOF.out HLE.out, HX.out.trans hE.out⟩
set_option maxRecDepth 100000 in
theorem co_EntriesO (c : Col) (ok : Nat → Prop) (A B Cx D : Option Addr) (k0 k1 k2 k3 : Nat) (w : World) (hv : ColAt w ok A B Cx D c) (hm : c.tos.length ≤ 8000000) :
  Calls Tryz.prog 19 #[agC c A B Cx D k0 k1 k2 k3] w fun e w' => ∃ v, e = .returned v ∧ OA w' w.heap.size v (entR c) ∧ Ext w w' := by
 obtain ⟨q, w1, hq, hw1, ⟨a0, a1, a2, a3⟩, hx⟩ := box_col w c A B Cx D k0 k1 k2 k3 29
 have HW := Lib.hid hw1
 have HQ := Lib.hid hq
 have HX := Lib.hid hx
 have HVA := Lib.hid (co_Valid c ok A B Cx D k0 k1 k2 k3 w1 (hv.ext hx) hm)
 have HFT := Lib.hid (fun (hs : shapeP c) W (e : Ext w1 W) => co_unpackO c ok A B Cx D k0 k1 k2 k3 W ((hv.ext hx).ext e) hs hm)
 have HE1 := Lib.hid (fun (h : colB c = true) => (by unfold entR; rw [if_pos h] : entR c = flatC c))
 have HE0 := Lib.hid (fun (h : colB c = false) => (by unfold entR; rw [if_neg (by rw [h]; exact Bool.false_ne_true)] : entR c = []))
 have HSP := Lib.hid (fun (h : colB c = true) => valid_shape (colB_iff.1 h))
 obtain ⟨R, hR⟩ : ∃ R, R = entR c := ⟨_, rfl⟩
 rw [← hR] at HE1 HE0 ⊢
 clear hw1 hq hv hx hR
 unfold agC at HVA HFT ⊢
 go_enter Tryz.func19, Tryz.ntmps19
 go_upto_region 1 with (fail)
 rw [← HW.out, ← HQ.out]
 clear HW HQ
 cases hb : colB c
 ·rw [hb] at HVA
  have e := HE0.out hb
  subst e
  clear hb HE0 HE1 HSP HFT
  go_wp2_with (go_at_call 15; ((with_reducible refine (HVA.out).mono ?_); rintro e w2 ⟨rfl, hx2⟩))
  go_ret
  exact ⟨_, rfl, OwnG.nil _ _ _ _ _, HX.out.trans hx2⟩
 ·rw [hb] at HVA
  have e := HE1.out hb
  have HF2 := Lib.hid (HFT.out (HSP.out hb))
  rw [← e] at HF2
  clear hb e HE0 HE1 HSP HFT
  go_wp2_with (first | (go_at_call 15; ((with_reducible refine (HVA.out).mono ?_); rintro e w2 ⟨rfl, hx2⟩; replace a0 := hx2.cell a0; replace a1 := hx2.cell a1; replace a2 := hx2.cell a2; replace a3 := hx2.cell a3)) | (go_at_call 44; ((with_reducible refine (HF2.out _ hx2).mono ?_); rintro e w3 ⟨v3, rfl, hO3, hx3⟩)))
  go_ret
  exact ⟨v3, rfl, OwnG.mono hO3 (Nat.le_trans HX.out.le hx2.le), (HX.out.trans hx2).trans hx3⟩
theorem flat_setC {α : Type} (f : α → List Value) (hf : ∀ x, (f x).length = 3) (a0 a1 a2 : Value) : ∀ (l : List α) (i : Nat) (y : α), i < l.length → f y = [a0, a1, a2] → (l.set i y).flatMap f = (((l.flatMap f).set (i * 3) a0).set (i * 3 + 1) a1).set (i * 3 + 2) a2
 | [], i, y, h, _ => absurd h (by simp)
 | x :: l, 0, y, _, hy => by
  have hx := hf x
  match hfx : f x, hx with
  | [b0, b1, b2], _ => simp [hfx, hy]
 | x :: l, i + 1, y, h, hy => by
  have ih := flat_setC f hf a0 a1 a2 l i y (by simpa using h) hy
  have e0 : (i + 1) * 3 = 3 + i * 3 := by omega
  have hx : (f x).length = 3 := hf x
  have S : ∀ (m : List Value) (j : Nat) (u : Value), (f x ++ m).set (3 + j) u = f x ++ m.set j u := fun m j u => by
   rw [List.set_append_right _ _ (by omega), hx, Nat.add_sub_cancel_left]
  rw [List.set_cons_succ, List.flatMap_cons, List.flatMap_cons, ih, e0, S, Nat.add_assoc, S, Nat.add_assoc, S]
theorem OwnG.put3 {α : Type} {K : KindG α} {e : TypeId} {W : World} {base : Nat} {ok0 : Nat → Prop} {hs : List α} (hK : K.size = 3) {g n c : Nat} (h : OwnG K e W base ok0 (.slice (some ⟨g, 0, none⟩) n c) hs) {i : Nat} (hi : i < hs.length) (y : α) {a0 a1 a2 : Value} (hy : K.enc y = [a0, a1, a2]) (hl : K.lies W (fun b => ok0 b ∧ some b ≠ some g) y) :
  OwnG K e (((W.setCell ⟨g, i * 3, none⟩ a0).setCell ⟨g, i * 3 + 1, none⟩ a1).setCell ⟨g, i * 3 + 2, none⟩ a2) base ok0 (.slice (some ⟨g, 0, none⟩) n c) (hs.set i y) ∧ W.grownBy (((W.setCell ⟨g, i * 3, none⟩ a0).setCell ⟨g, i * 3 + 1, none⟩ a1).setCell ⟨g, i * 3 + 2, none⟩ a2) (some g) := by
 obtain ⟨A, c', hv⟩ := own_form h.own
 injection hv with h1 h2 h3
 subst h2
 obtain ⟨k0, g0⟩ := World.ownsRow.stored h.own (i * 3) a0
 obtain ⟨k1, g1⟩ := World.ownsRow.stored k0 (i * 3 + 1) a1
 obtain ⟨k2, g2⟩ := World.ownsRow.stored k1 (i * 3 + 2) a2
 have G := grown_two g0 (grown_two g1 g2)
 refine ⟨⟨?_, fun p hp => ?_⟩, G⟩
 ·rw [List.length_set, flat_setC K.enc (fun x => by rw [K.len, hK]) _ _ _ hs i y hi hy]; exact k2
 ·have hlies : K.lies W (fun b => ok0 b ∧ some b ≠ (Value.slice (some ⟨g, 0, none⟩) hs.length c).ownBlock) p := by
   rcases List.mem_or_eq_of_mem_set hp with hp | hp
   ·exact h.lies p hp
   ·rw [hp]; exact hl
  exact K.keep _ _ _ _ _ (fun b o x hb hc => ⟨G.cell hc (fun e2 => hb.2 (by rw [e2]; rfl)), hb⟩) hlies
abbrev OwnW (W : World) (base : Nat) (ok0 : Nat → Prop) (v : Value) (hs : List Sh) : Prop := OwnG KA 41 W base ok0 v hs
theorem own_cells3 {W : World} {base g n c : Nat} {ok0 : Nat → Prop} {hs : List Sh} (h : OwnW W base ok0 (.slice (some ⟨g, 0, none⟩) n c) hs) {i : Nat} (hi : i < hs.length) : (W.cell? ⟨g, i * 3, none⟩ = some (.int .i64 hs[i].id) ∧ W.cell? ⟨g, i * 3 + 1, none⟩ = some (.int .i64 hs[i].n) ∧ W.cell? ⟨g, i * 3 + 2, none⟩ = some (.int .i64 hs[i].d)) ∧
  W.frozen? ⟨g, i * 3, none⟩ = false ∧ W.frozen? ⟨g, i * 3 + 1, none⟩ = false ∧ W.frozen? ⟨g, i * 3 + 2, none⟩ = false := by
 obtain ⟨g', hg, -, -, -, -, hc⟩ := OwnG.cellAt h hi
 injection hg with hg
 injection hg with hg
 subst hg
 exact ⟨⟨(hc 0 (by decide)).1, (hc 1 (by decide)).1, (hc 2 (by decide)).1⟩, (hc 0 (by decide)).2, (hc 1 (by decide)).2, (hc 2 (by decide)).2⟩
def PredW (f : Nat) (p : Sh → Bool) (cb : Array Value) (Q : Sh → Prop) (ok0 : Nat → Prop) (g : Nat) (w : World) : Prop := ∀ (W : World) (x : Sh), w.grownBy W (some g) → KA.lies W (fun b => ok0 b ∧ some b ≠ some g) x → Q x → Calls Tryz.prog f (#[Sh.agg x] ++ cb) W fun e w' => e = .returned (.bool (p x)) ∧ Ext W w'
set_option maxRecDepth 100000 in
set_option maxHeartbeats 1600000 in
theorem a_IndexF (p : Sh → Bool) (f : Nat) (eg : ∀ args w, (callFunc f args).run Tryz.prog w = .ok (.enter f args) w) (cb : Array Value) (Q : Sh → Prop) (hs : List Sh) (base : Nat) (ok0 : Nat → Prop) (g n c : Nat) (w : World) (hp : PredW f p cb Q ok0 g w) (hq : ∀ x ∈ hs, Q x) (h : OwnW w base ok0 (.slice (some ⟨g, 0, none⟩) n c) hs) (hn : n = hs.length) (hl : hs.length ≤ 8000000) :
  Calls Tryz.prog 71 #[.slice (some ⟨g, 0, none⟩) n c, .func (.func f) #[] cb] w fun e w' => e = .returned (.int .i64 (idxF (fun x => p x) hs)) ∧ Ext w w' := by
 have HO := Lib.hid h
 have HP := Lib.hid hp
 have HQ := Lib.hid hq
 have HY := Lib.hid (fun h => idxF_none (p := fun x : Sh => p x) (l := hs) h)
 have HB := Lib.hid (fun i (hi : i < hs.length) h1 h2 => idxF_at (p := fun x : Sh => p x) i hi h1 h2)
 obtain ⟨R, hR⟩ : ∃ R, R = idxF (fun x : Sh => p x) hs := ⟨_, rfl⟩
 rw [← hR] at HY HB ⊢
 have HN := Lib.hid hn
 have hnl : n ≤ 8000000 := by omega
 clear h hR hp hn hq
 go_enter Tryz.func71, Tryz.ntmps71
 go_wp2_with fail
 go_loopw [8] (fun u W => ∃ k : Nat, u = .int .i64 k ∧ k ≤ n ∧ Hid (∀ i (hi : i < hs.length), i < k → p hs[i] = false) ∧ Ext w W) (fun u _ => n - (intOf u).toNat)
 case atStart => exact ⟨0, rfl, Nat.zero_le _, Lib.hid (fun i _ hi => absurd hi (Nat.not_lt_zero _)), Ext.refl _⟩
 case round =>
  obtain ⟨k, rfl, hk, hgd, hE⟩ := hrel
  by_cases hlt : k < n
  ·have hkl : k < hs.length := by have := HN.out; omega
   obtain ⟨⟨c0, c1, c2⟩, -⟩ := own_cells3 (HO.out.ext hE) hkl
   have hlie := (HO.out.ext hE).lies hs[k] (List.getElem_mem hkl)
   have HS := Lib.hid (fun (h : p hs[k] = false) i hi (hj : i < k + 1) => (if e : i = k then (by subst e; exact h) else hgd.out i hi (by omega) : p hs[i] = false))
   have HB' := Lib.hid (HB.out k hkl hgd.out)
   have HC := Lib.hid (fun W (e : Ext wr W) => HP.out W hs[k] ((hE.trans e).gr _) (KA.keep _ _ _ _ _ (fun _ _ _ hb hc => ⟨e.cell hc, hb⟩) hlie) (HQ.out _ (List.getElem_mem hkl)))
   unfold Sh.agg at HC
   clear hlie
   clear HB hgd
   generalize hs[k] = x at *
   generalize p x = q at *
   cases q
   ·have HT := Lib.hid (HS.out rfl)
    go_wp2_with (go_at_fn f; ((with_reducible refine (HC.out _ (by solve_by_elim [X0, X1, X2, X3])).mono ?_); rintro e w7 ⟨rfl, hx7⟩))
    go_roundw
    case rel => exact ⟨k + 1, by go_num, by omega, HT, hE.trans hx7⟩
    case measure => simp [intOf]; omega
   ·have HT := Lib.hid (HB'.out rfl)
    go_wp2_with (go_at_fn f; ((with_reducible refine (HC.out _ (by solve_by_elim [X0, X1, X2, X3])).mono ?_); rintro e w7 ⟨rfl, hx7⟩))
    go_ret
    exact ⟨ret_int HT.out.symm, hE.trans hx7⟩
  ·have HT := Lib.hid (HY.out (fun i hi => hgd.out i hi (by have := HN.out; omega)))
   go_wp2_with fail
   go_ret
   exact ⟨ret_int HT.out.symm, hE⟩
set_option maxRecDepth 100000 in
theorem a_IndexF0 (A : Option Addr) (c : Nat) (fv : Value) (w : World) : Calls Tryz.prog 71 #[.slice A 0 c, fv] w fun e w' => e = .returned (.int .i64 (-1)) ∧ Ext w w' := by
 go_enter Tryz.func71, Tryz.ntmps71
 go_wp2_with fail
 go_loopw [8] (fun u W => u = .int .i64 0 ∧ Ext w W) (fun _ _ => 0)
 case atStart => exact ⟨rfl, Ext.refl _⟩
 case round =>
  obtain ⟨rfl, hE⟩ := hrel
  go_wp2_with fail
  go_ret
  exact ⟨rfl, hE⟩
/-- a list struck in place: i elements kept of the first j -/
structure KpA {α : Type} (q : α → Bool) (hs L : List α) (i j : Nat) : Prop where
 lt : i < j
 le : j ≤ hs.length
 len : L.length = hs.length
 lo : L.take i = (hs.take j).filter q
 hi : ∀ t, j ≤ t → L[t]? = hs[t]?
section
variable {α : Type} {q : α → Bool} {hs L : List α} {i j : Nat}
theorem fil1_t {x : α} (h : q x = true) : [x].filter q = [x] := by simp [h]
theorem fil1_f {x : α} (h : q x = false) : [x].filter q = [] := by simp [h]
theorem take_next {l : List α} {j : Nat} (h : j < l.length) : l.take (j + 1) = l.take j ++ [l[j]] := by
 rw [List.take_add_one, List.getElem?_eq_getElem h]; rfl
theorem KpA.start (hi : i < hs.length) (h1 : ∀ t (ht : t < hs.length), t < i → q hs[t] = true) (h2 : q hs[i] = false) : KpA q hs hs i (i + 1) := by
 refine ⟨by omega, hi, rfl, ?_, fun _ _ => rfl⟩
 rw [take_next hi, List.filter_append, fil1_f h2, List.append_nil]
 refine (List.filter_eq_self.2 (fun a ha => ?_)).symm
 obtain ⟨t, ht, rfl⟩ := List.getElem_of_mem ha
 rw [List.length_take] at ht
 rw [List.getElem_take]
 exact h1 t (by omega) (by omega)
theorem KpA.skip (h : KpA q hs L i j) (hj : j < hs.length) (hq : q hs[j] = false) : KpA q hs L i (j + 1) := by
 refine ⟨by have := h.lt; omega, hj, h.len, ?_, fun t ht => h.hi t (by omega)⟩
 rw [take_next hj, List.filter_append, fil1_f hq, List.append_nil, h.lo]
theorem KpA.keep (h : KpA q hs L i j) (hj : j < hs.length) (hq : q hs[j] = true) : KpA q hs (L.set i hs[j]) (i + 1) (j + 1) := by
 have h1 := h.lt
 have h2 := h.len
 refine ⟨by omega, hj, by rw [List.length_set]; exact h2, ?_, fun t ht => ?_⟩
 ·rw [take_next hj, List.filter_append, fil1_t hq, ← h.lo, take_next (l := L.set i hs[j]) (j := i) (by rw [List.length_set]; omega), List.take_set_of_le (Nat.le_refl _)]
  simp
 ·rw [List.getElem?_set_ne (by omega)]; exact h.hi t (by omega)
theorem KpA.done (h : KpA q hs L i hs.length) : L.take i = hs.filter q := by rw [h.lo, List.take_length]
theorem KpA.at_ (h : KpA q hs L i j) (hj : j < hs.length) : ∃ hl : j < L.length, L[j] = hs[j] := by
 have h1 := h.len
 have h2 := h.hi j (Nat.le_refl _)
 rw [List.getElem?_eq_getElem (by omega), List.getElem?_eq_getElem hj] at h2
 exact ⟨by omega, Option.some.inj h2⟩
end
def zAj : Value := .agg #[.int .i64 0, .int .i64 0, .int .i64 0]
theorem zero_aj (w : World) : (zeroValue 41).run Tryz.prog w = .ok zAj w := Tryz.zeroValue41 w
set_option maxRecDepth 100000 in
set_option maxHeartbeats 3200000 in
theorem a_DeleteF (p : Sh → Bool) (f : Nat) (eg : ∀ args w, (callFunc f args).run Tryz.prog w = .ok (.enter f args) w) (cb : Array Value) (Q : Sh → Prop) (hs : List Sh) (base : Nat) (ok0 : Nat → Prop) (g n c : Nat) (w : World) (hp : PredW f p cb Q ok0 g w) (hq : ∀ x ∈ hs, Q x) (h : OwnW w base ok0 (.slice (some ⟨g, 0, none⟩) n c) hs) (hn : n = hs.length) (hl : hs.length ≤ 8000000) :
  Calls Tryz.prog 45 #[.slice (some ⟨g, 0, none⟩) n c, .func (.func f) #[] cb] w fun e w' => ∃ m, e = .returned (.slice (some ⟨g, 0, none⟩) m c) ∧ OwnW w' base ok0 (.slice (some ⟨g, 0, none⟩) m c) (hs.filter (fun x => !p x)) ∧ w.grownBy w' (some g) := by
 have HI := Lib.hid (a_IndexF p f eg cb Q hs base ok0 g n c w hp hq h hn hl)
 have HO := Lib.hid h
 have HP := Lib.hid hp
 have HQ := Lib.hid hq
 have hnl : n ≤ 8000000 := by omega
 have hnc : n ≤ c := by
  rcases h.own.2 with ⟨hv, -⟩ | ⟨g', cap', cur, hv, -, -, hcp, -⟩
  ·simp at hv
  ·simp only [Value.slice.injEq] at hv; omega
 cases hf : hs.findIdx? (fun x => p x) with
 | none =>
  have e1 : idxF (fun x : Sh => p x) hs = -1 := by unfold idxF; rw [hf]
  have HF := Lib.hid (show hs.filter (fun x => !p x) = hs from List.filter_eq_self.2 (fun a ha => by rw [List.findIdx?_eq_none_iff.1 hf a ha]; rfl))
  rw [e1] at HI
  clear h hp hq hf e1 hn hl
  go_enter Tryz.func45, Tryz.ntmps45
  go_wp2_with (go_at_call 71; ((with_reducible refine (HI.out).mono ?_); rintro e w1 ⟨rfl, hx1⟩))
  go_ret
  exact ⟨_, rfl, by rw [HF.out]; exact HO.out.ext hx1, hx1.gr _⟩
 | some i0 =>
  have e1 : idxF (fun x : Sh => p x) hs = (i0 : Int) := by unfold idxF; rw [hf]
  obtain ⟨hi0, hp0, hlo0⟩ := List.findIdx?_eq_some_iff_getElem.1 hf
  have HK0 := Lib.hid (KpA.start (q := fun x : Sh => !p x) hi0 (fun t ht hti => by
   have := hlo0 t hti
   cases hpt : p hs[t]
   ·rfl
   ·rw [hpt] at this; exact absurd rfl this) (by rw [hp0]; rfl))
  rw [e1] at HI
  have HN := Lib.hid hn
  have hi0n : i0 < n := by omega
  have hne : ((i0 : Int) == -1) = false := beq_eq_false_iff_ne.2 (by omega)
  clear h hp hq hf e1 hn hl hi0 hp0 hlo0
  go_enter Tryz.func45, Tryz.ntmps45
  go_wp2_with (go_at_call 71; ((with_reducible refine (HI.out).mono ?_); rintro e w1 ⟨rfl, hx1⟩))
  clear hne
  go_loopw [5, 6] (fun u v W => ∃ (i j : Nat) (L : List Sh), u = .int .i64 i ∧ v = .int .i64 j ∧ i < j ∧ j ≤ n ∧ Hid (OwnW W base ok0 (.slice (some ⟨g, 0, none⟩) n c) L) ∧ Hid (KpA (fun x : Sh => !p x) hs L i j) ∧ Hid (∀ x ∈ L, Q x) ∧ Hid (w.grownBy W (some g))) (fun _ v _ => n - (intOf v).toNat)
  case atStart => exact ⟨i0, i0 + 1, hs, rfl, by go_num, by omega, by omega, Lib.hid (HO.out.ext hx1), HK0, HQ, Lib.hid (hx1.gr _)⟩
  case round =>
   clear HI HK0 hx1
   obtain ⟨i, j, L, rfl, rfl, hij, hj, hown, hkp, hQL, hgr⟩ := hrel
   by_cases hlt : j < n
   ·have hjh : j < hs.length := by have := HN.out; omega
    obtain ⟨hjL, hjx⟩ := hkp.out.at_ hjh
    have hiL : i < L.length := by omega
    obtain ⟨⟨c0, c1, c2⟩, -⟩ := own_cells3 hown.out hjL
    obtain ⟨g1, w2, hg1, hw2, ⟨p0, p1, p2⟩, hx2⟩ := box_adj wr L[j] 41
    have HC := Lib.hid (fun W (e : Ext wr W) => HP.out W L[j] (grown_two hgr.out (e.gr _)) (KA.keep _ _ _ _ _ (fun _ _ _ hb hc => ⟨e.cell hc, hb⟩) (hown.out.lies L[j] (List.getElem_mem hjL))) (hQL.out _ (List.getElem_mem hjL)))
    have HQX := Lib.hid (hQL.out _ (List.getElem_mem hjL))
    have HLX := Lib.hid (hown.out.lies L[j] (List.getElem_mem hjL))
    have HKS := Lib.hid (fun (h : p L[j] = true) => hkp.out.skip hjh (by rw [← hjx, h]; rfl))
    have HKK := Lib.hid (fun (h : p L[j] = false) => (by have := hkp.out.keep hjh (by rw [← hjx, h]; rfl); rwa [← hjx] at this : KpA (fun x : Sh => !p x) hs (L.set i L[j]) (i + 1) (j + 1)))
    have HW2 := Lib.hid hw2
    have HG1 := Lib.hid hg1
    have hgb : g < wr.heap.size := (hown.out.lt rfl).2
    have hgg : g1 ≠ g := by omega
    unfold Sh.agg at HC
    clear hw2 hg1 hkp hjx
    generalize L[j] = x at *
    cases hq : p x
    ·rw [hq] at HC
     have HKK' := Lib.hid (HKK.out hq)
     clear HKS HKK hq
     go_upto_region 8 with (fail)
     rw [← HW2.out, ← HG1.out]
     clear HW2 HG1 c0 c1 c2
     go_upto_region 9 with (go_at_fn f; ((with_reducible refine (HC.out _ hx2).mono ?_); rintro e w7 ⟨rfl, hx7⟩; replace p0 := hx7.cell p0; replace p1 := hx7.cell p1; replace p2 := hx7.cell p2))
     have hO7 := hown.out.ext (hx2.trans hx7)
     obtain ⟨⟨q0, q1, q2⟩, f0, f1, f2⟩ := own_cells3 hO7 hiL
     obtain ⟨hO8, hG8⟩ := OwnG.put3 (K := KA) rfl hO7 hiL x (a0 := .int .i64 x.id) (a1 := .int .i64 x.n) (a2 := .int .i64 x.d) rfl (KA.keep _ _ _ _ _ (fun b o y hb hc => ⟨(hx2.trans hx7).cell hc, hb⟩) HLX.out)
     obtain ⟨W8, hW8⟩ : ∃ W8, W8 = ((w7.setCell ⟨g, i * 3, none⟩ (.int .i64 x.id)).setCell ⟨g, i * 3 + 1, none⟩ (.int .i64 x.n)).setCell ⟨g, i * 3 + 2, none⟩ (.int .i64 x.d) := ⟨_, rfl⟩
     rw [← hW8] at hO8 hG8
     have HO8 := Lib.hid hO8
     have HG8 := Lib.hid (grown_two (grown_two hgr.out ((hx2.trans hx7).gr _)) hG8)
     have HW8 := Lib.hid hW8
     clear hO8 hG8 hW8 hO7 hown hgr HC hx7
     go_upto_region 10 with (fail)
     rw [← HW8.out]
     clear HW8
     go_wp2_with fail
     go_roundw
     case rel => exact ⟨i + 1, j + 1, _, by go_num, by go_num, by omega, by omega, HO8, HKK', Lib.hid (fun y hy => (List.mem_or_eq_of_mem_set hy).elim (fun h => hQL.out y h) (fun h => h ▸ HQX.out)), HG8⟩
     case measure => simp [intOf]; omega
    ·rw [hq] at HC
     have HKS' := Lib.hid (HKS.out hq)
     clear HKS HKK hq
     go_upto_region 8 with (fail)
     rw [← HW2.out, ← HG1.out]
     clear HW2 HG1 c0 c1 c2
     go_wp2_with (go_at_fn f; ((with_reducible refine (HC.out _ hx2).mono ?_); rintro e w7 ⟨rfl, hx7⟩))
     go_roundw
     case rel => exact ⟨i, j + 1, L, rfl, by go_num, by omega, by omega, Lib.hid (hown.out.ext (hx2.trans hx7)), HKS', hQL, Lib.hid (grown_two hgr.out ((hx2.trans hx7).gr _))⟩
     case measure => simp [intOf]; omega
   ·have hjn : j = n := by omega
    subst hjn
    obtain ⟨W9, hcl, hO9, hG9⟩ := OwnG.cleared (P := Tryz.prog) (t := 42) (z := zAj) Tryz.underlying42 zero_aj rfl (by decide) (by decide) hown.out (by have := HN.out; have := hkp.out.len; omega) hij
    have HF := Lib.hid (show L.take i = hs.filter (fun x => !p x) by have h1 := hkp.out; have h2 := HN.out; subst h2; exact h1.done)
    have HO9 := Lib.hid hO9
    have HG9 := Lib.hid (grown_two hgr.out hG9)
    have hin : (i : Int) ≤ (j : Int) := by omega
    have hic : (i : Int) ≤ (c : Int) := by omega
    have hin2 : i ≤ j := by omega
    have hic2 : i ≤ c := by omega
    replace hcl : ∀ ty c', (Builtin.clear_ #[42] ty #[.slice (some ⟨g, i * 3, none⟩) (j - i) c']).run Tryz.prog wr = .ok (.tuple #[]) W9 := hcl
    clear hO9 hG9 hown hkp hgr
    go_wp2_with fail
    go_ret
    exact ⟨_, rfl, by rw [← HF.out]; exact HO9.out, HG9.out⟩
set_option maxRecDepth 100000 in
theorem a_DeleteF0 (A : Option Addr) (c : Nat) (fv : Value) (w : World) : Calls Tryz.prog 45 #[.slice A 0 c, fv] w fun e w' => e = .returned (.slice A 0 c) ∧ Ext w w' := by
 go_enter Tryz.func45, Tryz.ntmps45
 go_wp2_with (go_at_call 71; ((with_reducible refine (a_IndexF0 _ _ _ _).mono ?_); rintro e w1 ⟨rfl, hx1⟩))
 go_ret
 exact ⟨rfl, hx1⟩
theorem a_DeleteV (p : Sh → Bool) (f : Nat) (eg : ∀ args w, (callFunc f args).run Tryz.prog w = .ok (.enter f args) w) (cb : Array Value) (l : List Sh) (w0 : World) (v : Value) (w : World) (hp : ∀ (W : World) (x : Sh), Ext w0 W → Calls Tryz.prog f (#[Sh.agg x] ++ cb) W fun e w' => e = .returned (.bool (p x)) ∧ Ext W w') (h : OA w w0.heap.size v l) (hx : Ext w0 w) (hl : l.length ≤ 8000000) :
  Calls Tryz.prog 45 #[v, .func (.func f) #[] cb] w fun e w' => ∃ v', e = .returned v' ∧ OA w' w0.heap.size v' (l.filter (fun x => !p x)) ∧ Ext w0 w' := by
 rcases h.own.2 with ⟨rfl, h0⟩ | ⟨g, cp, cur, rfl, hb, -, -⟩
 ·obtain rfl : l = [] := List.eq_nil_of_length_eq_zero (by first | exact h0 | simpa using h0)
  exact (a_DeleteF0 none 0 _ w).mono (fun e w' ⟨h1, h2⟩ => ⟨_, h1, OwnG.nil _ _ _ _ _, hx.trans h2⟩)
 ·refine (a_DeleteF p f eg cb (fun _ => True) l w0.heap.size (fun _ => False) g l.length cp w (fun W x hg _ _ => hp W x (hx.grown hg (fun k hk => by cases hk; exact hb))) (fun _ _ => trivial) h rfl hl).mono ?_
  rintro e w' ⟨m, rfl, hO, hg⟩
  exact ⟨_, rfl, hO, hx.grown hg (fun k hk => by cases hk; exact hb)⟩
set_option maxRecDepth 100000 in
theorem co_Row1 (x : Sh) (id : Int) (y0 : Nat) (w : World) (hy : w.cell? ⟨y0, 0, none⟩ = some (.int .i64 id)) :
  Calls Tryz.prog 46 (#[Sh.agg x] ++ #[.pointer (some ⟨y0, 0, none⟩)]) w fun e w' => e = .returned (.bool (!decide (x.id = id))) ∧ Ext w w' := by
 obtain ⟨q, w1, hq, hw1, ⟨c0, c1, c2⟩, hx⟩ := box_adj w x 41
 have hy1 := hx.cell hy
 have HW := Lib.hid hw1
 have HQ := Lib.hid hq
 unfold Sh.agg
 generalize x.id = a at *
 generalize x.n = b at *
 generalize x.d = c at *
 have g : (a != id) = !decide (a = id) := by
  by_cases h : a = id
  ·simp [h]
  ·simp [h]
 have HG := Lib.hid g
 clear hw1 hq hy g
 refine (show Calls Tryz.prog 46 #[.agg #[.int .i64 a, .int .i64 b, .int .i64 c], .pointer (some ⟨y0, 0, none⟩)] w _ from ?_)
 go_enter Tryz.func46, Tryz.ntmps46
 go_upto_region 1 with (fail)
 rw [← HW.out, ← HQ.out]
 clear HW HQ
 go_wp2_with fail
 go_ret
 exact ⟨ret_bool HG.out, hx⟩
theorem eg_row (args : Array Value) (w : World) : (callFunc 46 args).run Tryz.prog w = .ok (.enter 46 args) w :=
 run_enter (c := Tryz.f46.body.get!) Tryz.func46 (by kernel_rfl) (by kernel_rfl) args w
set_option maxRecDepth 100000 in
theorem co_Row (c : Col) (id : Int) (ok : Nat → Prop) (A B Cx D : Option Addr) (k0 k1 k2 k3 : Nat) (w : World) (hv : ColAt w ok A B Cx D c) (hm : c.tos.length ≤ 8000000) :
  Calls Tryz.prog 17 #[agC c A B Cx D k0 k1 k2 k3, .int .i64 id] w fun e w' => ∃ A' c', e = .returned (.slice A' ((entR c).filter (fun a => decide (a.id = id))).length c') ∧ Shares w' (fun b => w.heap.size ≤ b) A' ((entR c).filter (fun a => decide (a.id = id))) ∧ Ext w w' := by
 obtain ⟨q, w1, hq, hw1, ⟨a0, a1, a2, a3⟩, hx1⟩ := box_col w c A B Cx D k0 k1 k2 k3 29
 obtain ⟨y, w2, hy, hw2, hc2, hx2⟩ : ∃ (y : Nat) (w2 : World), y = w1.heap.size ∧ w2 = w1.alloc (.cells #[.int .i64 id] 3) ∧ w2.cell? ⟨y, 0, none⟩ = some (.int .i64 id) ∧ Ext w1 w2 := ⟨_, _, rfl, rfl, by go_simp, (Ext.refl _).alloc _⟩
 replace a0 := hx2.cell a0
 replace a1 := hx2.cell a1
 replace a2 := hx2.cell a2
 replace a3 := hx2.cell a3
 have HW1 := Lib.hid hw1
 have HW2 := Lib.hid hw2
 have HQ := Lib.hid hq
 have HY := Lib.hid (show y = q + 1 by rw [hy, hw1, hq]; simp)
 have HX := Lib.hid (hx1.trans hx2)
 have HEN := Lib.hid (co_EntriesO c ok A B Cx D k0 k1 k2 k3 w2 ((hv.ext hx1).ext hx2) hm)
 have HCY := Lib.hid (fun V (e : Ext w2 V) => e.cell hc2)
 have HEL := Lib.hid (show (entR c).length ≤ 8000000 by
  unfold entR
  split
  ·rename_i h
   rcases valid_shape (colB_iff.1 h) with ⟨h1, h2, h3, h4⟩ | h1
   ·unfold flatC; rw [h1]; exact Nat.zero_le _
   ·rw [flatC_len h1]; exact hm
  ·exact Nat.zero_le _)
 generalize entR c = l at *
 have HFE := Lib.hid (show l.filter (fun x => !(fun x : Sh => !decide (x.id = id)) x) = l.filter (fun a => decide (a.id = id)) by congr 1; funext a; simp)
 clear hw1 hw2 hq hy hv hx1 hx2 hc2 hm
 unfold agC at HEN ⊢
 go_enter Tryz.func17, Tryz.ntmps17
 go_upto_region 1 with (fail)
 rw [← HW1.out, ← HQ.out, ← HY.out, ← HW2.out]
 clear HW1 HW2 HQ HY
 go_wp2_with (first | (go_at_call 19; ((with_reducible refine (HEN.out).mono ?_); rintro e w3 ⟨v3, rfl, hO3, hx3⟩; have HX3 := Lib.hid hx3; have HDL := Lib.hid (a_DeleteV (fun x => !decide (x.id = id)) 46 eg_row #[.pointer (some ⟨y, 0, none⟩)] l w2 v3 w3 (fun W x hx => co_Row1 x id y W (HCY.out _ hx)) hO3 HX3.out HEL.out); clear HEN hO3 hx3)) | (go_at_call 45; ((with_reducible refine (HDL.out).mono ?_); rintro e w4 ⟨v4, rfl, hO4, hx4⟩)))
 rw [HFE.out] at hO4
 obtain ⟨A5, c5, e5, -, hS5⟩ := OA.shares hO4 (by have h1 := List.length_filter_le (fun a : Sh => decide (a.id = id)) l; have h2 := HEL.out; omega)
 subst e5
 clear hO4
 go_ret
 exact ⟨A5, c5, rfl, SliceR.mono hS5 (fun _ _ _ _ hx => ⟨Nat.le_trans HX.out.le hx.1, hx.2⟩), HX.out.trans hx4⟩
set_option maxRecDepth 100000 in
theorem co_Degree (c : Col) (id : Int) (ok : Nat → Prop) (A B Cx D : Option Addr) (k0 k1 k2 k3 : Nat) (w : World) (hv : ColAt w ok A B Cx D c) (hm : c.tos.length ≤ 8000000) :
  Calls Tryz.prog 18 #[agC c A B Cx D k0 k1 k2 k3, .int .i64 id] w fun e w' => e = .returned (.int .i64 (((entR c).filter (fun a => decide (a.id = id))).length : Int)) ∧ Ext w w' := by
 obtain ⟨q, w1, hq, hw1, ⟨a0, a1, a2, a3⟩, hx1⟩ := box_col w c A B Cx D k0 k1 k2 k3 29
 have HW1 := Lib.hid hw1
 have HQ := Lib.hid hq
 have HX := Lib.hid hx1
 have HR := Lib.hid (co_Row c id ok A B Cx D k0 k1 k2 k3 w1 (hv.ext hx1) hm)
 generalize (entR c).filter (fun a => decide (a.id = id)) = l at *
 clear hw1 hq hv hx1 hm
 unfold agC at HR ⊢
 go_enter Tryz.func18, Tryz.ntmps18
 go_upto_region 1 with (fail)
 rw [← HW1.out, ← HQ.out]
 clear HW1 HQ
 go_wp2_with (go_at_call 17; ((with_reducible refine (HR.out).mono ?_); rintro e w3 ⟨A3, c3, rfl, hS3, hx3⟩))
 go_ret
 exact ⟨rfl, HX.out.trans hx3⟩
end Go.Proofs.YtnheioehadldmaaGreat

/- PLAIN: what column.Encode writes; an append of a row of bytes. -/
namespace Go.Proofs.YtnheioehadldmaaGreat
open Go.RowKit
theorem fm_bytes : ∀ l : List Nat, l.flatMap KB.enc = l.map (fun x : Nat => Value.int .u8 (x : Int))
 | [] => rfl
 | x :: l => by rw [List.flatMap_cons, fm_bytes l]; rfl
/-- an own row of bytes appended to an own row of bytes -/
theorem run_catB (ty : TypeId) {w : World} {base base2 : Nat} {v v2 : Value} {l l2 : List Nat} (h : OB w base v l) (hb : base ≤ w.heap.size) (h2 : OB w base2 v2 l2) (h63 : l.length + l2.length ≤ 8388608) :
  ∃ v' w', (Builtin.append_ #[35, 35] ty #[v, v2]).run Tryz.prog w = .ok v' w' ∧ OB w' base v' (l ++ l2) ∧ w.grownBy w' v.ownBlock := by
 obtain ⟨A, c, hv, hle, hB⟩ := h2.byts (by omega)
 have hA : A = none → l2.length = 0 := fun e => by
  rcases Nat.eq_zero_or_pos l2.length with h0 | h0
  ·exact h0
  ·obtain ⟨b, o, e2, -⟩ := hB.2 h0
   rw [e] at e2; cases e2
 have hC : ∀ ad, A = some ad → ∀ j u, (l2.flatMap KB.enc)[j]? = some u → w.cell? (ad.add j) = some u := fun ad e j u hu => by
  rw [fm_bytes, List.getElem?_map] at hu
  cases hj : l2[j]? with
  | none => rw [hj] at hu; cases hu
  | some x =>
   rw [hj] at hu
   obtain ⟨hjl, hx⟩ := List.getElem?_eq_some_iff.1 hj
   obtain ⟨b, o, e2, hc⟩ := hB.2 (by omega)
   rw [e] at e2
   injection e2 with e2
   subst e2
   have h9 := (hc j hjl).2
   rw [Addr.add_mid]
   rw [Nat.mul_one, hx] at h9
   rw [h9, ← hu]; rfl
 obtain ⟨v', w', k1, k2, k3, -⟩ := run_catG T_kb ty w h hb A l2.length c l2 rfl hA hC (fun _ _ => trivial) h63 (by decide)
 exact ⟨v', w', by rw [hv]; exact k1, k2, k3⟩
theorem own_catB {ops : Array Oper} {rest : List Oper} {o : Oper} {a : Act} {Q : Exit → Act → World → Prop} {w : World} {base base2 : Nat} {v v2 : Value} {l l2 : List Nat} (hgd : o.guard = none) (s y : Operand)
  (ho : o.op = .call { callee := .builtin .append, args := #[s, y], argTypes := #[35, 35] }) (hs' : a.eval s = v) (hy : a.eval y = v2) (h : OB w base v l) (hb : base ≤ w.heap.size) (h2 : OB w base2 v2 l2) (h63 : l.length + l2.length ≤ 8388608)
  (hK : ∀ v' w', OB w' base v' (l ++ l2) → w.grownBy w' v.ownBlock → wpList Tryz.prog ops Q rest (a.put o.dst v') w') : wpList Tryz.prog ops Q (o :: rest) a w := by
 obtain ⟨v', w', hr, h1, h3⟩ := run_catB o.type h hb h2 h63
 refine wpList_plain hgd fun K2 hK2 => ?_
 unfold Oper.wp execOp
 simp only [ho, resolve, invoke, builtin, Sem.run_bind, Sem.run_pure, Result.andThen_ok, List.map_toArray, List.map_cons, List.map_nil, hs', hy, hr]
 exact hK2 _ _ (hK v' w' h1 h3)
theorem step_catB {ops : Array Oper} {o : Oper} {a : Act} {K2 : Act → World → Prop} {Q : Exit → Act → World → Prop} {E : Prop} {w : World} {base base2 : Nat} {v v2 : Value} {l l2 : List Nat} (hgd : o.guard = none) (s y : Operand)
  (ho : o.op = .call { callee := .builtin .append, args := #[s, y], argTypes := #[35, 35] }) (hs' : a.eval s = v) (hy : a.eval y = v2) (h : OB w base v l) (hb : base ≤ w.heap.size) (h2 : OB w base2 v2 l2) (h63 : l.length + l2.length ≤ 8388608)
  (hK : ∀ v' w', OB w' base v' (l ++ l2) → w.grownBy w' v.ownBlock → K2 (a.put o.dst v') w') : if Region.wanted o (yielded ops a.tmps) = true then Oper.wp Tryz.prog o a w K2 Q else E := by
 obtain ⟨v', w', hr, h1, h3⟩ := run_catB o.type h hb h2 h63
 exact step_append_run' hgd s y _ _ ho v _ hs' hy hr (hK v' w' h1 h3)
def prevN (c : Col) (i : Nat) : Int := if i = 0 then 0 else c.nodes[i - 1]!
def prevE (c : Col) (k : Nat) : Int := if k = 0 then 0 else c.edges[k - 1]!
def prevT (c : Col) (i k : Nat) : Int := if k = c.first[i]!.toNat then c.nodes[i]! else c.tos[k - 1]!
def entB (c : Col) (i k : Nat) : List Nat := vi (zig (c.tos[k]! - prevT c i k)) ++ vi (zig (c.edges[k]! - prevE c k))
def entsB (c : Col) (i k : Nat) : List Nat := (List.range' c.first[i]!.toNat (k - c.first[i]!.toNat)).flatMap (entB c i)
def hdB (c : Col) (i : Nat) : List Nat := vi (c.nodes[i]! - prevN c i).toNat ++ vi (c.first[i + 1]!.toNat - c.first[i]!.toNat)
def rowB (c : Col) (i : Nat) : List Nat := hdB c i ++ entsB c i c.first[i + 1]!.toNat
def rowsB (c : Col) (i : Nat) : List Nat := (List.range i).flatMap (rowB c)
def encC (c : Col) : List Nat := vi c.nodes.length ++ rowsB c c.nodes.length
noncomputable def encR (c : Col) : List Nat := if colB c = true then encC c else []
theorem ents_start (c : Col) (i : Nat) : entsB c i c.first[i]!.toNat = [] := by unfold entsB; rw [Nat.sub_self]; rfl
theorem ents_snoc {c : Col} {i k : Nat} (h : c.first[i]!.toNat ≤ k) : entsB c i (k + 1) = entsB c i k ++ entB c i k := by
 unfold entsB
 rw [show k + 1 - c.first[i]!.toNat = (k - c.first[i]!.toNat) + 1 by omega, List.range'_concat, List.flatMap_append, show c.first[i]!.toNat + 1 * (k - c.first[i]!.toNat) = k by omega]
 simp
theorem rows_succB (c : Col) (i : Nat) : rowsB c (i + 1) = rowsB c i ++ rowB c i := by
 unfold rowsB
 rw [List.range_succ, List.flatMap_append]
 simp
theorem prevN_succ (c : Col) (i : Nat) : prevN c (i + 1) = c.nodes[i]! := by unfold prevN; rw [if_neg (by omega)]; rfl
theorem prevE_succ (c : Col) (k : Nat) : prevE c (k + 1) = c.edges[k]! := by unfold prevE; rw [if_neg (by omega)]; rfl
theorem prevT_succ {c : Col} {i k : Nat} (h : c.first[i]!.toNat ≤ k) : prevT c i (k + 1) = c.tos[k]! := by unfold prevT; rw [if_neg (by omega)]; rfl
theorem prevT_start (c : Col) (i : Nat) : prevT c i c.first[i]!.toNat = c.nodes[i]! := by unfold prevT; rw [if_pos rfl]
theorem nb_node {c : Col} (h : validP c) {i : Nat} (hi : i < c.nodes.length) : 0 ≤ c.nodes[i]! - prevN c i ∧ c.nodes[i]! - prevN c i ≤ 1000000 := by
 obtain ⟨⟨-, hs⟩, -⟩ := (valid_ref c).1 h
 obtain ⟨h1, h2⟩ := hs i hi
 unfold prevN
 unfold idOk at h1
 split
 ·omega
 ·rename_i h0
  obtain ⟨j, rfl⟩ : ∃ j, i = j + 1 := ⟨i - 1, by omega⟩
  have h3 := h2 j rfl
  have h4 := (hs j (by omega)).1
  unfold idOk at h4
  rw [Nat.add_sub_cancel]
  omega
theorem nb_ent {c : Col} (h : validP c) {i k : Nat} (hi : i < c.nodes.length) (hk : k < c.tos.length) : (-1000000 ≤ c.tos[k]! - prevT c i k ∧ c.tos[k]! - prevT c i k ≤ 1000000) ∧ -1000000 ≤ c.edges[k]! - prevE c k ∧ c.edges[k]! - prevE c k ≤ 1000000 := by
 obtain ⟨⟨-, hs⟩, ht, -⟩ := (valid_ref c).1 h
 obtain ⟨h1, h2⟩ := ht k hk
 have h3 := (hs i hi).1
 unfold prevT prevE
 unfold idOk at h1 h2 h3
 refine ⟨?_, ?_⟩
 ·split
  ·omega
  ·rename_i h0
   have h4 := (ht (k - 1) (by omega)).1
   unfold idOk at h4
   omega
 ·split
  ·omega
  ·rename_i h0
   have h4 := (ht (k - 1) (by omega)).2
   unfold idOk at h4
   omega
theorem entB_len {c : Col} (h : validP c) {i k : Nat} (hi : i < c.nodes.length) (hk : k < c.tos.length) : (entB c i k).length ≤ 20 := by
 obtain ⟨h1, h2⟩ := nb_ent h hi hk
 unfold entB
 rw [List.length_append]
 have a := vi_len10 (zig_lt (n := c.tos[k]! - prevT c i k) (by omega))
 have b := vi_len10 (zig_lt (n := c.edges[k]! - prevE c k) (by omega))
 omega
theorem entsB_len {c : Col} (h : validP c) {i : Nat} (hi : i < c.nodes.length) : ∀ d, c.first[i]!.toNat + d ≤ c.tos.length → (entsB c i (c.first[i]!.toNat + d)).length ≤ 20 * d
 | 0, _ => by rw [Nat.add_zero, ents_start]; exact Nat.zero_le _
 | d + 1, hd => by
  have ih := entsB_len h hi d (by omega)
  rw [← Nat.add_assoc, ents_snoc (by omega), List.length_append]
  have := entB_len h hi (k := c.first[i]!.toNat + d) (by omega)
  omega
theorem hdB_len {c : Col} (h : validP c) {i : Nat} (hi : i < c.nodes.length) (hm : c.first[i + 1]!.toNat ≤ 1000000) : (hdB c i).length ≤ 20 := by
 have h1 := nb_node h hi
 unfold hdB
 rw [List.length_append]
 have a := vi_len10 (u := (c.nodes[i]! - prevN c i).toNat) (by omega)
 have b := vi_len10 (u := c.first[i + 1]!.toNat - c.first[i]!.toNat) (by omega)
 omega
theorem rowsB_len {c : Col} (h : validP c) (hs : ShapeC c) (hm : c.tos.length ≤ 1000000) : ∀ {i : Nat}, i ≤ c.nodes.length → (rowsB c i).length ≤ 20 * i + 20 * c.first[i]!.toNat
 | 0, _ => Nat.zero_le _
 | i + 1, hi => by
  have ih := rowsB_len h hs hm (i := i) (by omega)
  have hle := hs.le (i := i + 1) hi
  have hr := hs.lt (i := i) (j := i + 1) (by omega) hi
  have hnn := hs.nn (i := i) (by omega)
  have a := hdB_len h (i := i) (by omega) (by omega)
  have b := entsB_len h (i := i) (by omega) (c.first[i + 1]!.toNat - c.first[i]!.toNat) (by omega)
  rw [show c.first[i]!.toNat + (c.first[i + 1]!.toNat - c.first[i]!.toNat) = c.first[i + 1]!.toNat by omega] at b
  rw [rows_succB, List.length_append]
  unfold rowB
  rw [List.length_append]
  omega
end Go.Proofs.YtnheioehadldmaaGreat

/- THE WALK over column.Encode. -/
namespace Go.Proofs.YtnheioehadldmaaGreat
open Go.RowKit
set_option maxRecDepth 100000 in
set_option maxHeartbeats 6400000 in
theorem co_Encode (c : Col) (ok : Nat → Prop) (A B Cx D : Option Addr) (k0 k1 k2 k3 : Nat) (w : World) (hv : ColAt w ok A B Cx D c) (hm : c.tos.length ≤ 100000 ∧ c.nodes.length ≤ 100000) :
  Calls Tryz.prog 12 #[agC c A B Cx D k0 k1 k2 k3] w fun e w' => ∃ A' c', e = .returned (.slice A' (encR c).length c') ∧ (encR c).length ≤ c' ∧ Byts w' (fun b => w.heap.size ≤ b) A' (encR c) ∧ Ext w w' := by
 obtain ⟨q, w1, hq, hw1, ⟨a0, a1, a2, a3⟩, hx⟩ := box_col w c A B Cx D k0 k1 k2 k3 29
 have HW := Lib.hid hw1
 have HQ := Lib.hid hq
 have HX := Lib.hid hx
 have HBS := Lib.hid hx.le
 have hnl := hv.n.len
 have HV := Lib.hid (hv.ext hx)
 have HVA := Lib.hid (co_Valid c ok A B Cx D k0 k1 k2 k3 w1 (hv.ext hx) (by omega))
 obtain ⟨R, hR⟩ : ∃ R, R = encR c := ⟨_, rfl⟩
 rw [← hR]
 have HR1 := Lib.hid (fun (h : colB c = true) => (by rw [hR]; unfold encR; rw [if_pos h] : R = encC c))
 have HR0 := Lib.hid (fun (h : colB c = false) => (by rw [hR]; unfold encR; rw [if_neg (by rw [h]; exact Bool.false_ne_true)] : R = []))
 have HVP := Lib.hid (fun (h : colB c = true) => colB_iff.1 h)
 clear hw1 hq hv hx hR
 unfold agC at HVA ⊢
 go_enter Tryz.func12, Tryz.ntmps12
 go_upto_region 1 with (fail)
 rw [← HW.out, ← HQ.out]
 clear HW HQ
 cases hb : colB c
 ·rw [hb] at HVA
  have e := HR0.out hb
  subst e
  clear hb HR0 HR1 HVP
  go_wp2_with (go_at_call 15; ((with_reducible refine (HVA.out).mono ?_); rintro e w2 ⟨rfl, hx2⟩))
  go_ret
  exact ⟨none, 0, rfl, Nat.le_refl _, SliceR.nil _ _ _, HX.out.trans hx2⟩
 ·rw [hb] at HVA
  have HR := Lib.hid (HR1.out hb)
  have hV := HVP.out hb
  clear hb HR0 HR1 HVP
  have HPC := Lib.hid (fun W => co_PutUint c.nodes.length (by omega) W)
  by_cases hn0 : c.nodes.length = 0
  ·have hz : R = vi 0 := by
    rw [HR.out]; unfold encC; rw [hn0]; unfold rowsB; rw [List.range_zero, List.flatMap_nil, List.append_nil]
   subst hz
   clear HV HR hV hm HPC
   have HPC : Hid (∀ W, Calls Tryz.prog 35 #[.int .i64 0] W fun e w' => ∃ v, e = .returned v ∧ OB w' W.heap.size v (vi 0) ∧ Ext W w') := Lib.hid (fun W => co_PutUint 0 (by omega) W)
   generalize c.nodes.length = nl at *
   subst hn0
   go_upto_region 4 with (first | (go_at_call 15; ((with_reducible refine (HVA.out).mono ?_); rintro e w2 ⟨rfl, hx2⟩; replace a0 := hx2.cell a0; replace a1 := hx2.cell a1; replace a2 := hx2.cell a2; replace a3 := hx2.cell a3; clear HVA)) | (go_at_call 35; (go_loud (with_reducible refine (HPC.out _).mono ?_); rintro e w3 ⟨v3, rfl, hO3, hx3⟩; replace a0 := hx3.cell a0; have HO3 := Lib.hid hO3; clear HPC hO3)))
   go_wp2_with fail
   go_loopw [3, 20] (fun u3 u W => ∃ (_ : Nat), u3 = v3 ∧ u = .int .i64 0 ∧ Hid (Ext w3 W)) (fun _ _ _ => 0)
   case atStart => exact ⟨0, rfl, rfl, Lib.hid (by solve_by_elim [X0, X1, X2, X3])⟩
   case round =>
    obtain ⟨-, rfl, rfl, hE⟩ := hrel
    obtain ⟨A3, c3, rfl, hle, hB⟩ := OB.byts (OwnG.ext HO3.out hE.out) (by have := vi_len10 (u := 0) (by decide); omega)
    go_wp2_with fail
    go_ret
    exact ⟨A3, c3, rfl, hle, SliceR.mono hB (fun _ _ _ _ hx => ⟨Nat.le_trans HBS.out (Nat.le_trans hx2.le hx.1), hx.2⟩), ((HX.out.trans hx2).trans hx3).trans hE.out⟩
  ·have hS : ShapeC c := by
    rcases hV with ⟨h1, -⟩ | ⟨h1, -⟩
    ·exact absurd (by rw [h1]; rfl) hn0
    ·exact h1
   have hfl : c.nodes.length + 1 ≤ c.first.length := by have := hS.len; omega
   have hel : c.tos.length ≤ c.edges.length := by have := hS.same; omega
   have hlast := hS.lt (i := 0) (j := c.nodes.length) (by omega) (Nat.le_refl _)
   rw [hS.zero, hS.last] at hlast
   obtain ⟨bn, on, rfl, hcn⟩ := HV.out.n.2 (by omega)
   obtain ⟨bf, of, rfl, hcf⟩ := HV.out.f.2 (by omega)
   obtain ⟨bt, ot, rfl, hct⟩ := HV.out.t.2 (by omega)
   obtain ⟨be, oe, rfl, hce⟩ := HV.out.e.2 (by omega)
   have HN := Lib.hid (fun t (ht : t < c.nodes.length) W (e : Ext w1 W) => (by have h := (hcn t ht).2; rw [Nat.mul_one, ← getElem!_pos _ t ht] at h; exact e.cell h : W.cell? ⟨bn, on + t, none⟩ = some (.int .i64 c.nodes[t]!)))
   have HF := Lib.hid (fun t (ht : t < c.first.length) W (e : Ext w1 W) => (by have h := (hcf t ht).2; rw [Nat.mul_one, ← getElem!_pos _ t ht] at h; exact e.cell h : W.cell? ⟨bf, of + t, none⟩ = some (.int .i64 c.first[t]!)))
   have HT := Lib.hid (fun t (ht : t < c.tos.length) W (e : Ext w1 W) => (by have h := (hct t ht).2; rw [Nat.mul_one, ← getElem!_pos _ t ht] at h; exact e.cell h : W.cell? ⟨bt, ot + t, none⟩ = some (.int .i64 c.tos[t]!)))
   have HEE := Lib.hid (fun t (ht : t < c.edges.length) W (e : Ext w1 W) => (by have h := (hce t ht).2; rw [Nat.mul_one, ← getElem!_pos _ t ht] at h; exact e.cell h : W.cell? ⟨be, oe + t, none⟩ = some (.int .i64 c.edges[t]!)))
   have MKQ := Lib.hid (fun V (e : Ext w1 V) => (⟨e.cell a0, e.cell a1, e.cell a2, e.cell a3⟩ : (V.cell? ⟨q, 0, none⟩ = some (.slice (some ⟨bn, on, none⟩) c.nodes.length k0) ∧ V.cell? ⟨q, 1, none⟩ = some (.slice (some ⟨bf, of, none⟩) c.first.length k1) ∧ V.cell? ⟨q, 2, none⟩ = some (.slice (some ⟨bt, ot, none⟩) c.tos.length k2) ∧ V.cell? ⟨q, 3, none⟩ = some (.slice (some ⟨be, oe, none⟩) c.edges.length k3))))
   have HS := Lib.hid hS
   have HVV := Lib.hid hV
   have HZ := Lib.hid (by unfold prevN; rw [if_pos rfl] : (0 : Int) = prevN c 0)
   have HZE := Lib.hid (by rw [hS.zero]; rfl : (0 : Int) = prevE c c.first[0]!.toNat)
   clear hcn hcf hct hce HV hn0 hlast hS hV
   go_upto_region 4 with (first | (go_at_call 15; ((with_reducible refine (HVA.out).mono ?_); rintro e w2 ⟨rfl, hx2⟩; replace a0 := hx2.cell a0; replace a1 := hx2.cell a1; replace a2 := hx2.cell a2; replace a3 := hx2.cell a3; clear HVA)) | (go_at_call 35; ((with_reducible refine (HPC.out _).mono ?_); rintro e w3 ⟨v3, rfl, hO3, hx3⟩; replace a0 := hx3.cell a0; clear HPC)))
   have HO0 := Lib.hid (by rw [show rowsB c 0 = [] from rfl, List.append_nil]; exact OwnG.mono hO3 hx2.le : OB w3 w1.heap.size v3 (vi c.nodes.length ++ rowsB c 0))
   have HE0 := Lib.hid (hx2.trans hx3)
   clear hO3 hx2 hx3
   go_wp2_with fail
   go_loopw [3, 4, 5, 20] (fun u3 u4 u5 u W => ∃ (vO : Value) (i : Nat) (pn pe : Int), vO = u3 ∧ u4 = .int .i64 pn ∧ u5 = .int .i64 pe ∧ u = .int .i64 i ∧ i ≤ c.nodes.length ∧ Hid (pn = prevN c i) ∧ Hid (pe = prevE c c.first[i]!.toNat) ∧ Hid (OB W w1.heap.size vO (vi c.nodes.length ++ rowsB c i)) ∧ Hid (Ext w1 W)) (fun _ _ _ u _ => c.nodes.length - (intOf u).toNat)
   case atStart => exact ⟨_, 0, 0, 0, rfl, rfl, rfl, rfl, Nat.zero_le _, HZ, HZE, HO0, HE0⟩
   case round =>
    clear HO0 HE0 HZ HZE a0 a1 a2 a3
    obtain ⟨vO, i, pn, pe, rfl, rfl, rfl, rfl, hi, HPN0, HPE0, HO, hE⟩ := hrel
    by_cases hlt : i < c.nodes.length
    ·obtain ⟨nv, hnv⟩ : ∃ nv, nv = c.nodes[i]! := ⟨_, rfl⟩
     have n0 := HN.out i hlt wr hE.out
     rw [← hnv] at n0
     have f0 := HF.out i (by omega) wr hE.out
     have hi1 : i + 1 < c.first.length := by omega
     have hi0 : i < c.first.length := by omega
     obtain ⟨x, hx⟩ : ∃ x : Nat, x = c.first[i]!.toNat := ⟨_, rfl⟩
     obtain ⟨y, hy⟩ : ∃ y : Nat, y = c.first[i + 1]!.toNat := ⟨_, rfl⟩
     have ex : c.first[i]! = (x : Int) := by have := HS.out.nn (i := i) (by omega); omega
     have ey : c.first[i + 1]! = (y : Int) := by have := HS.out.nn (i := i + 1) (by omega); omega
     have hxy : x ≤ y := by have := HS.out.rise i hlt; omega
     have hyt : y ≤ c.tos.length := by have := HS.out.le (i := i + 1) (by omega); omega
     have hnb := nb_node HVV.out hlt
     obtain ⟨dn, hdn⟩ : ∃ dn : Nat, dn = (c.nodes[i]! - prevN c i).toNat := ⟨_, rfl⟩
     obtain ⟨dm, hdm⟩ : ∃ dm : Nat, dm = y - x := ⟨_, rfl⟩
     have hdl : dn ≤ 1000000 := by omega
     have hml : dm ≤ 1000000 := by omega
     have wi : IntKind.i64.wrap ((i : Int) + 1) = ((i + 1 : Nat) : Int) := by rw [IntKind.wrap_i64]; omega
     have wd : IntKind.i64.wrap (nv - pn) = (dn : Int) := by rw [IntKind.wrap_i64, HPN0.out, hnv]; omega
     have wm : IntKind.i64.wrap ((y : Int) - (x : Int)) = (dm : Int) := by rw [IntKind.wrap_i64]; omega
     have HPN := Lib.hid (fun W => co_PutUint dn (by omega) W)
     have HPF := Lib.hid (fun W => co_PutUint dm (by omega) W)
     have HHD := Lib.hid (by unfold hdB; rw [← hdn, ← hx, ← hy, ← hdm] : hdB c i = vi dn ++ vi dm)
     have hln := vi_len10 (u := c.nodes.length) (by omega)
     have hld := vi_len10 (u := dn) (by omega)
     have hlm := vi_len10 (u := dm) (by omega)
     have hrl := rowsB_len HVV.out HS.out (by omega) hi
     rw [← hx] at hrl
     have hl1 : (vi c.nodes.length ++ rowsB c i).length + (vi dn).length ≤ 8388608 := by rw [List.length_append]; omega
     have hl2 : ((vi c.nodes.length ++ rowsB c i) ++ vi dn).length + (vi dm).length ≤ 8388608 := by rw [List.length_append, List.length_append]; omega
     have hl3 : ((vi c.nodes.length ++ rowsB c i) ++ hdB c i).length ≤ 4000100 := by rw [HHD.out, List.length_append, List.length_append, List.length_append]; omega
     have HFI := Lib.hid (fun W (e : Ext w1 W) => (by have h := HF.out i hi0 W e; rw [ex] at h; exact h : W.cell? ⟨bf, of + i, none⟩ = some (.int .i64 (x : Int))))
     have HFN := Lib.hid (fun W (e : Ext w1 W) => (by have h := HF.out (i + 1) hi1 W e; rw [ey] at h; exact h : W.cell? ⟨bf, of + (i + 1), none⟩ = some (.int .i64 (y : Int))))
     have HRS := Lib.hid (rows_succB c i)
     have HRB := Lib.hid (show rowB c i = hdB c i ++ entsB c i y by unfold rowB; rw [hy])
     have HE0S := Lib.hid (by rw [hx]; exact ents_start c i : entsB c i x = [])
     have HES := Lib.hid (fun k (hk : x ≤ k) => ents_snoc (c := c) (i := i) (k := k) (by omega))
     have HEL := Lib.hid (fun k (hk : x ≤ k) (hk2 : k ≤ y) => (by have h := entsB_len HVV.out hlt (k - x) (by omega); rw [← hx, show x + (k - x) = k by omega] at h; omega : (entsB c i k).length ≤ 20 * k))
     have HNB := Lib.hid (fun k (hk2 : k < y) => nb_ent HVV.out hlt (k := k) (by omega))
     have HPTS := Lib.hid (fun k (hk : x ≤ k) => prevT_succ (c := c) (i := i) (k := k) (by omega))
     have HPT0 := Lib.hid (by rw [hnv, hx]; exact (prevT_start c i).symm : nv = prevT c i x)
     have HPNS := Lib.hid (by rw [hnv]; exact (prevN_succ c i).symm : nv = prevN c (i + 1))
     have HPEX := Lib.hid (by rw [hx]; exact HPE0.out : pe = prevE c x)
     have HPEY := Lib.hid (by rw [hy] : prevE c y = prevE c c.first[i + 1]!.toNat)
     clear hnb hdn hdm hx hy ex ey hnv HPN0 HPE0 f0 hln hld hlm hrl
     go_upto_region 8 with (fail)
     clear n0
     go_upto_region 9 with (first | (go_at_call 35; ((with_reducible refine (HPN.out _).mono ?_); rintro e w2 ⟨v2, rfl, hO2, hx2⟩; have HO2 := Lib.hid hO2; clear hO2 HPN)) | (at_builtin; go_loud (refine own_catB rfl (.tmp 25) (.tmp 29) rfl rfl rfl (OwnG.ext HO.out hx2) (Nat.le_trans hE.out.le hx2.le) HO2.out hl1 ?_); intro v3 w3 hO3 hg3; have hE3 : Ext w1 w3 := (hE.out.trans hx2).grown hg3 (fun g e => (OwnG.lt HO.out e).1); have HO3 := Lib.hid hO3; have HE3 := Lib.hid hE3; clear hO3 hg3 hE3 hx2))
     have MF := Lib.hid (fun V (e : Ext w1 V) => (⟨(MKQ.out V e).2.1, HFI.out V e, HFN.out V e⟩ : V.cell? ⟨q, 1, none⟩ = some (.slice (some ⟨bf, of, none⟩) c.first.length k1) ∧ V.cell? ⟨bf, of + i, none⟩ = some (.int .i64 (x : Int)) ∧ V.cell? ⟨bf, of + (i + 1), none⟩ = some (.int .i64 (y : Int))))
     clear HO2
     refine wp_region_held_drew (S := (fun V => V.cell? ⟨q, 1, none⟩ = some (.slice (some ⟨bf, of, none⟩) c.first.length k1) ∧ V.cell? ⟨bf, of + i, none⟩ = some (.int .i64 (x : Int)) ∧ V.cell? ⟨bf, of + (i + 1), none⟩ = some (.int .i64 (y : Int)))) (by kernel_rfl) ?hs62001 (fun hHeld => ?go62001)
     case hs62001 => (first | exact MF.out _ (Ext.trans HE3.out (by solve_by_elim [X0, X1, X2, X3])) | exact MF.out _ (Ext.trans HE5.out (by solve_by_elim [X0, X1, X2, X3])))
     refine TK 0 (v := ?v62002) hHeld ?hy62002 ?_
     case hy62002 => (intro w hSw; (try dsimp only at hSw); go_simp <;> first | with_reducible rfl | rw [if_neg (by omega)] | rw [if_pos (by omega)])
     (try simp only [PU])
     refine TK 1 (v := ?v62003) hHeld ?hy62003 ?_
     case hy62003 => (intro w hSw; (try dsimp only at hSw); go_simp <;> first | with_reducible rfl | rw [if_neg (by omega)] | rw [if_pos (by omega)])
     (try simp only [PU])
     refine TK 2 (v := ?v62004) hHeld ?hy62004 ?_
     case hy62004 => (intro w hSw; (try dsimp only at hSw); go_simp <;> first | with_reducible rfl | rw [if_neg (by omega)] | rw [if_pos (by omega)])
     (try simp only [PU])
     refine TK 3 (v := ?v62005) hHeld ?hy62005 ?_
     case hy62005 => (intro w hSw; (try dsimp only at hSw); go_simp <;> first | with_reducible rfl | rw [if_neg (by omega)] | rw [if_pos (by omega)])
     (try simp only [PU])
     refine TK 4 (v := ?v62006) hHeld ?hy62006 ?_
     case hy62006 => (intro w hSw; (try dsimp only at hSw); go_simp <;> first | with_reducible rfl | rw [if_neg (by omega)] | rw [if_pos (by omega)])
     (try simp only [PU])
     refine TK 5 (v := ?v62007) hHeld ?hy62007 ?_
     case hy62007 => (intro w hSw; (try dsimp only at hSw); go_simp <;> first | with_reducible rfl | rw [if_neg (by omega)] | rw [if_pos (by omega)])
     (try simp only [PU])
     refine TK 6 (v := ?v62008) hHeld ?hy62008 ?_
     case hy62008 => (intro w hSw; (try dsimp only at hSw); go_simp <;> first | with_reducible rfl | rw [if_neg (by omega)] | rw [if_pos (by omega)])
     (try simp only [PU])
     refine TK 7 (v := ?v62009) hHeld ?hy62009 ?_
     case hy62009 => (intro w hSw; (try dsimp only at hSw); go_simp <;> first | with_reducible rfl | rw [if_neg (by omega)] | rw [if_pos (by omega)])
     (try simp only [PU])
     refine TK 8 (v := ?v62010) hHeld ?hy62010 ?_
     case hy62010 => (intro w hSw; (try dsimp only at hSw); go_simp <;> first | with_reducible rfl | rw [if_neg (by omega)] | rw [if_pos (by omega)])
     (try simp only [PU])
     refine TK 9 (v := ?v62011) hHeld ?hy62011 ?_
     case hy62011 => (intro w hSw; (try dsimp only at hSw); go_simp <;> first | with_reducible rfl | rw [if_neg (by omega)] | rw [if_pos (by omega)])
     (try simp only [PU])
     refine TK 10 (v := ?v62012) hHeld ?hy62012 ?_
     case hy62012 => (intro w hSw; (try dsimp only at hSw); go_simp <;> first | with_reducible rfl | rw [if_neg (by omega)] | rw [if_pos (by omega)])
     (try simp only [PU])
     refine TK 11 (v := ?v62013) hHeld ?hy62013 ?_
     case hy62013 => (intro w hSw; (try dsimp only at hSw); go_simp <;> first | with_reducible rfl | rw [if_neg (by omega)] | rw [if_pos (by omega)])
     (try simp only [PU])
     refine TK 12 (v := ?v62014) hHeld ?hy62014 ?_
     case hy62014 => (intro w hSw; (try dsimp only at hSw); go_simp <;> first | with_reducible rfl | rw [if_neg (by omega)] | rw [if_pos (by omega)])
     (try simp only [PU])
     refine wpAnyH_ready (rs := [13]) (by kernel_rfl) (by simp) ?_
     refine AllReadyH.cons (o := ⟨_, _, _, _, _, _⟩) rfl (fun K hK => ?step62015x0) ?more62015x0
     case more62015x0 => exact AllReadyH.nil
     go_simp
     (go_at_call 35; ((with_reducible refine (HPF.out _).mono ?_); rintro e w4 ⟨v4, rfl, hO4, hx4⟩; replace hx4 : Ext w3 w4 := Ext.trans (a := w3) (by solve_by_elim [X0, X1, X2, X3]) hx4; have HO4 := Lib.hid hO4; clear hO4 HPF))
     refine hK.out _ _ ?hS62015x0 (fun H62015 => ?_)
     case hS62015x0 => first | (first | exact MF.out _ (Ext.trans HE3.out (by solve_by_elim [X0, X1, X2, X3])) | exact MF.out _ (Ext.trans HE5.out (by solve_by_elim [X0, X1, X2, X3]))) | ((try dsimp only); (first | exact MF.out _ (Ext.trans HE3.out (by solve_by_elim [X0, X1, X2, X3])) | exact MF.out _ (Ext.trans HE5.out (by solve_by_elim [X0, X1, X2, X3]))))
     clear hK K
     clear hHeld
     (try simp only [PU])
     refine wpAnyH_ready (rs := [14]) (by kernel_rfl) (by simp) ?_
     refine AllReadyH.cons (o := ⟨_, _, _, _, _, _⟩) rfl (fun K hK => ?step62016x0) ?more62016x0
     case more62016x0 => exact AllReadyH.nil
     (refine step_catB rfl (.tmp 31) (.tmp 44) rfl rfl rfl (OwnG.ext HO3.out (by solve_by_elim [X0, X1, X2, X3])) (Nat.le_trans HE3.out.le (Ext.le (a := w3) (by solve_by_elim [X0, X1, X2, X3]))) (OwnG.ext HO4.out (by solve_by_elim [X0, X1, X2, X3])) hl2 ?_; intro v5 w5 hO5 hg5; have hE5 : Ext w1 w5 := (HE3.out.trans (show Ext w3 _ from (by solve_by_elim [X0, X1, X2, X3]))).grown hg5 (fun g e => (OwnG.lt HO3.out e).1); have HO5 := Lib.hid hO5; have HE5 := Lib.hid hE5; clear hO5 hg5 hE5 hx4)
     refine hK.out _ _ ?hS62016x0 (fun H62016 => ?_)
     case hS62016x0 => first | (first | exact MF.out _ (Ext.trans HE3.out (by solve_by_elim [X0, X1, X2, X3])) | exact MF.out _ (Ext.trans HE5.out (by solve_by_elim [X0, X1, X2, X3]))) | ((try dsimp only); (first | exact MF.out _ (Ext.trans HE3.out (by solve_by_elim [X0, X1, X2, X3])) | exact MF.out _ (Ext.trans HE5.out (by solve_by_elim [X0, X1, X2, X3]))))
     clear hK K
     clear H62015
     (try simp only [PU])
     refine TK 15 (v := ?v62017) H62016 ?hy62017 ?_
     case hy62017 => (intro w hSw; (try dsimp only at hSw); go_simp <;> first | with_reducible rfl | rw [if_neg (by omega)] | rw [if_pos (by omega)])
     (try simp only [PU])
     refine wpAnyH_done (by kernel_rfl) ?_ _
     clear H62016
     skip
     have HO0 := Lib.hid (by rw [HE0S.out, List.append_nil, HHD.out, ← List.append_assoc]; exact HO5.out : OB w5 w1.heap.size v5 (((vi c.nodes.length ++ rowsB c i) ++ hdB c i) ++ entsB c i x))
     have HE0 := HE5
     obtain ⟨a0, a1, a2, a3⟩ := MKQ.out w5 HE5.out
     have f0 := HFI.out w5 HE5.out
     clear HO HO3 HO5 hE HE3 HE5 HO4 hl1 hl2 MF
     go_wp2_with fail
     go_loopw [3, 5, 8, 9] (fun u3 u5 u8 u9 W => ∃ (vO : Value) (k : Nat) (pe pt : Int), vO = u3 ∧ u5 = .int .i64 pe ∧ u8 = .int .i64 pt ∧ u9 = .int .i64 k ∧ x ≤ k ∧ k ≤ y ∧ Hid (pe = prevE c k) ∧ Hid (pt = prevT c i k) ∧ Hid (OB W w1.heap.size vO (((vi c.nodes.length ++ rowsB c i) ++ hdB c i) ++ entsB c i k)) ∧ Hid (Ext w1 W)) (fun _ _ _ u _ => y - (intOf u).toNat)
     case atStart => exact ⟨_, x, pe, nv, rfl, rfl, rfl, rfl, Nat.le_refl _, hxy, HPEX, HPT0, HO0, HE0⟩
     case round =>
      clear HO0 HE0 a0 a1 a2 a3 f0 wd wm
      obtain ⟨vO, k, pe, pt, rfl, rfl, rfl, rfl, hxk, hky, HPE, HPT, HO, hE⟩ := hrel
      obtain ⟨a0, a1, a2, a3⟩ := MKQ.out wr hE.out
      have f1 := HFN.out wr hE.out
      by_cases hky' : k < y
      ·have hkt : k < c.tos.length := by omega
       have hke : k < c.edges.length := by omega
       have hnb := HNB.out k hky'
       obtain ⟨tv, htv⟩ : ∃ tv, tv = c.tos[k]! := ⟨_, rfl⟩
       obtain ⟨ev, hev⟩ : ∃ ev, ev = c.edges[k]! := ⟨_, rfl⟩
       have HCT := Lib.hid (fun W (e : Ext w1 W) => (by rw [htv]; exact HT.out k hkt W e : W.cell? ⟨bt, ot + k, none⟩ = some (.int .i64 tv)))
       have HCE := Lib.hid (fun W (e : Ext w1 W) => (by rw [hev]; exact HEE.out k hke W e : W.cell? ⟨be, oe + k, none⟩ = some (.int .i64 ev)))
       obtain ⟨d1, hd1⟩ : ∃ d1, d1 = tv - pt := ⟨_, rfl⟩
       obtain ⟨d2, hd2⟩ : ∃ d2, d2 = ev - pe := ⟨_, rfl⟩
       have e1 : c.tos[k]! - prevT c i k = d1 := by rw [hd1, htv, HPT.out]
       have e2 : c.edges[k]! - prevE c k = d2 := by rw [hd2, hev, HPE.out]
       have HSN := Lib.hid (by rw [HES.out k hxk]; unfold entB; rw [e1, e2]; simp only [List.append_assoc] : ((vi c.nodes.length ++ rowsB c i) ++ hdB c i) ++ entsB c i (k + 1) = ((((vi c.nodes.length ++ rowsB c i) ++ hdB c i) ++ entsB c i k) ++ vi (zig d1)) ++ vi (zig d2))
       rw [e1, e2] at hnb
       have h1a : -9223372036854775808 ≤ d1 ∧ d1 ≤ 9223372036854775807 := by omega
       have h2a : -9223372036854775808 ≤ d2 ∧ d2 ≤ 9223372036854775807 := by omega
       have wt : IntKind.i64.wrap (tv - pt) = d1 := by rw [IntKind.wrap_i64]; omega
       have we : IntKind.i64.wrap (ev - pe) = d2 := by rw [IntKind.wrap_i64]; omega
       have HPA := Lib.hid (fun W => co_PutInt d1 h1a W)
       have HPB := Lib.hid (fun W => co_PutInt d2 h2a W)
       have b1 := vi_len10 (zig_lt h1a)
       have b2 := vi_len10 (zig_lt h2a)
       have b3 := HEL.out k hxk hky
       have hl1 : (((vi c.nodes.length ++ rowsB c i) ++ hdB c i) ++ entsB c i k).length + (vi (zig d1)).length ≤ 8388608 := by rw [List.length_append]; omega
       have hl2 : ((((vi c.nodes.length ++ rowsB c i) ++ hdB c i) ++ entsB c i k) ++ vi (zig d1)).length + (vi (zig d2)).length ≤ 8388608 := by rw [List.length_append, List.length_append]; omega
       have HPE1 := Lib.hid (by rw [hev]; exact (prevE_succ c k).symm : ev = prevE c (k + 1))
       have HPT1 := Lib.hid (by rw [htv]; exact (HPTS.out k hxk).symm : tv = prevT c i (k + 1))
       have t0 := HCT.out wr hE.out
       clear e1 e2 hnb hd1 hd2 htv hev h1a h2a b1 b2 b3 HPE HPT
       go_upto_region 15 with (fail)
       clear f1
       go_upto_region 16 with (first | (go_at_call 36; ((with_reducible refine (HPA.out _).mono ?_); rintro e w4 ⟨v4, rfl, hO4, hx4⟩; have HO4 := Lib.hid hO4; clear hO4 HPA)) | (at_builtin; go_loud (refine own_catB rfl (.tmp 63) (.tmp 71) rfl rfl rfl (OwnG.ext HO.out hx4) (Nat.le_trans hE.out.le hx4.le) HO4.out hl1 ?_); intro v5 w5 hO5 hg5; have hE5 : Ext w1 w5 := (hE.out.trans hx4).grown hg5 (fun g e => (OwnG.lt HO.out e).1); have HO5 := Lib.hid hO5; have HE5 := Lib.hid hE5; clear hO5 hg5 hE5 hx4 HO4))
       clear a0 a1 a2 a3 t0
       obtain ⟨a0, a1, a2, a3⟩ := MKQ.out w5 HE5.out
       have t1 := HCE.out w5 HE5.out
       go_upto_region 17 with (first | (go_at_call 36; ((with_reducible refine (HPB.out _).mono ?_); rintro e w6 ⟨v6, rfl, hO6, hx6⟩; have HO6 := Lib.hid hO6; clear hO6 HPB)) | (at_builtin; go_loud (refine own_catB rfl (.tmp 73) (.tmp 81) rfl rfl rfl (OwnG.ext HO5.out hx6) (Nat.le_trans HE5.out.le hx6.le) HO6.out hl2 ?_); intro v7 w7 hO7 hg7; have hE7 : Ext w1 w7 := (HE5.out.trans hx6).grown hg7 (fun g e => (OwnG.lt HO5.out e).1); have HO7 := Lib.hid hO7; have HE7 := Lib.hid hE7; clear hO7 hg7 hE7 hx6 HO6))
       clear a0 a1 a2 a3 t1
       have MT := Lib.hid (fun V (e : Ext w7 V) => (⟨(MKQ.out V (HE7.out.trans e)).2.2.1, (MKQ.out V (HE7.out.trans e)).2.2.2, HCT.out V (HE7.out.trans e), HCE.out V (HE7.out.trans e)⟩ : V.cell? ⟨q, 2, none⟩ = some (.slice (some ⟨bt, ot, none⟩) c.tos.length k2) ∧ V.cell? ⟨q, 3, none⟩ = some (.slice (some ⟨be, oe, none⟩) c.edges.length k3) ∧ V.cell? ⟨bt, ot + k, none⟩ = some (.int .i64 tv) ∧ V.cell? ⟨be, oe + k, none⟩ = some (.int .i64 ev)))
       clear HO HO5 hE HE5 wt we
       refine wp_region_held_drew (S := (fun V => V.cell? ⟨q, 2, none⟩ = some (.slice (some ⟨bt, ot, none⟩) c.tos.length k2) ∧ V.cell? ⟨q, 3, none⟩ = some (.slice (some ⟨be, oe, none⟩) c.edges.length k3) ∧ V.cell? ⟨bt, ot + k, none⟩ = some (.int .i64 tv) ∧ V.cell? ⟨be, oe + k, none⟩ = some (.int .i64 ev))) (by kernel_rfl) ?hs62018 (fun hHeld => ?go62018)
       case hs62018 => (exact MT.out _ (by solve_by_elim [X0, X1, X2, X3]))
       refine TK 0 (v := ?v62019) hHeld ?hy62019 ?_
       case hy62019 => (intro w hSw; (try dsimp only at hSw); go_simp <;> first | with_reducible rfl | rw [if_neg (by omega)] | rw [if_pos (by omega)])
       (try simp only [PU])
       refine TK 1 (v := ?v62020) hHeld ?hy62020 ?_
       case hy62020 => (intro w hSw; (try dsimp only at hSw); go_simp <;> first | with_reducible rfl | rw [if_neg (by omega)] | rw [if_pos (by omega)])
       (try simp only [PU])
       refine TK 2 (v := ?v62021) hHeld ?hy62021 ?_
       case hy62021 => (intro w hSw; (try dsimp only at hSw); go_simp <;> first | with_reducible rfl | rw [if_neg (by omega)] | rw [if_pos (by omega)])
       (try simp only [PU])
       refine TK 3 (v := ?v62022) hHeld ?hy62022 ?_
       case hy62022 => (intro w hSw; (try dsimp only at hSw); go_simp <;> first | with_reducible rfl | rw [if_neg (by omega)] | rw [if_pos (by omega)])
       (try simp only [PU])
       refine TK 4 (v := ?v62023) hHeld ?hy62023 ?_
       case hy62023 => (intro w hSw; (try dsimp only at hSw); go_simp <;> first | with_reducible rfl | rw [if_neg (by omega)] | rw [if_pos (by omega)])
       (try simp only [PU])
       refine TK 5 (v := ?v62024) hHeld ?hy62024 ?_
       case hy62024 => (intro w hSw; (try dsimp only at hSw); go_simp <;> first | with_reducible rfl | rw [if_neg (by omega)] | rw [if_pos (by omega)])
       (try simp only [PU])
       refine TK 6 (v := ?v62025) hHeld ?hy62025 ?_
       case hy62025 => (intro w hSw; (try dsimp only at hSw); go_simp <;> first | with_reducible rfl | rw [if_neg (by omega)] | rw [if_pos (by omega)])
       (try simp only [PU])
       refine TK 7 (v := ?v62026) hHeld ?hy62026 ?_
       case hy62026 => (intro w hSw; (try dsimp only at hSw); go_simp <;> first | with_reducible rfl | rw [if_neg (by omega)] | rw [if_pos (by omega)])
       (try simp only [PU])
       refine TK 8 (v := ?v62027) hHeld ?hy62027 ?_
       case hy62027 => (intro w hSw; (try dsimp only at hSw); go_simp <;> first | with_reducible rfl | rw [if_neg (by omega)] | rw [if_pos (by omega)])
       (try simp only [PU])
       refine TK 9 (v := ?v62028) hHeld ?hy62028 ?_
       case hy62028 => (intro w hSw; (try dsimp only at hSw); go_simp <;> first | with_reducible rfl | rw [if_neg (by omega)] | rw [if_pos (by omega)])
       (try simp only [PU])
       refine TK 10 (v := ?v62029) hHeld ?hy62029 ?_
       case hy62029 => (intro w hSw; (try dsimp only at hSw); go_simp <;> first | with_reducible rfl | rw [if_neg (by omega)] | rw [if_pos (by omega)])
       (try simp only [PU])
       refine TK 11 (v := ?v62030) hHeld ?hy62030 ?_
       case hy62030 => (intro w hSw; (try dsimp only at hSw); go_simp <;> first | with_reducible rfl | rw [if_neg (by omega)] | rw [if_pos (by omega)])
       (try simp only [PU])
       refine wpAnyH_done (by kernel_rfl) ?_ _
       clear hHeld
       go_wp2_with fail
       go_roundw
       case rel => exact ⟨_, k + 1, ev, tv, rfl, rfl, rfl, by go_num, by omega, by omega, HPE1, HPT1, Lib.hid (by rw [HSN.out]; exact OwnG.ext HO7.out (by solve_by_elim [X0, X1, X2, X3])), Lib.hid (HE7.out.trans (by solve_by_elim [X0, X1, X2, X3]))⟩
       case measure => simp [intOf]; omega
      ·have hke : k = y := by omega
       have HPY := Lib.hid (by rw [HPE.out, hke]; exact HPEY.out : pe = prevE c c.first[i + 1]!.toNat)
       have HOF := Lib.hid (by rw [HRS.out, HRB.out, ← hke, ← List.append_assoc, ← List.append_assoc]; exact HO.out : OB wr w1.heap.size vO (vi c.nodes.length ++ rowsB c (i + 1)))
       clear hke HO HPE HPT
       go_wp2_with fail
       go_roundw
       case rel => exact ⟨_, i + 1, nv, pe, rfl, rfl, rfl, by go_num, by omega, HPNS, HPY, HOF, hE⟩
       case measure => simp [intOf]; omega
    ·have hke : i = c.nodes.length := by omega
     have HOF := Lib.hid (by rw [HR.out]; unfold encC; rw [hke] at HO; exact HO.out : OB wr w1.heap.size vO R)
     have hrl := rowsB_len HVV.out HS.out (by omega) (Nat.le_refl _)
     have hln := vi_len10 (u := c.nodes.length) (by omega)
     have hle2 := HS.out.le (Nat.le_refl c.nodes.length)
     have hRl : R.length ≤ 140737488355328 := by rw [HR.out]; unfold encC; rw [List.length_append]; omega
     obtain ⟨A3, c3, rfl, hle, hB⟩ := OB.byts HOF.out hRl
     have HB := Lib.hid hB
     clear hke HO HOF HR hrl hln hle2 hRl hB HPN0 HPE0
     go_wp2_with fail
     go_ret
     exact ⟨A3, c3, rfl, hle, SliceR.mono HB.out (fun _ _ _ _ hx => ⟨Nat.le_trans HBS.out hx.1, hx.2⟩), HX.out.trans hE.out⟩
end Go.Proofs.YtnheioehadldmaaGreat

/- PLAIN: what column.Decode computes. -/
namespace Go.Proofs.YtnheioehadldmaaGreat
def entsE : Nat → Int → Int → List Int → List Int → List Nat → Except Int (Int × List Int × List Int × List Nat)
 | 0, _, edge, T, E, r => .ok (edge, T, E, r)
 | n + 1, tv, edge, T, E, r => match nearM tv r with
  | .error e => .error e
  | .ok (tv', r1) => match nearM edge r1 with
   | .error e => .error e
   | .ok (ed', r2) => entsE n tv' ed' (T ++ [tv']) (E ++ [ed']) r2
def rowsE : Nat → Int → Int → Col → List Nat → Except Int (Col × List Nat)
 | 0, _, _, c, r => .ok (c, r)
 | n + 1, node, edge, c, r => match uI r with
  | .error e => .error e
  | .ok (d, r1) => match idM node d r1 with
   | .error e => .error e
   | .ok (nd, r2) => match uI r2 with
    | .error e => .error e
    | .ok (many, r3) => if many = 0 then .error 1 else match entsE many.toNat nd edge c.tos c.edges r3 with
     | .error e => .error e
     | .ok (ed', T, E, r4) => rowsE n nd ed' ⟨c.nodes ++ [nd], c.first ++ [(c.tos.length : Int)], T, E⟩ r4
def finC (c : Col) : Col := if c.nodes = [] then c else { c with first := c.first ++ [(c.tos.length : Int)] }
/-- the entries of a row, then the other rows -/
def contE (n : Nat) (nd : Int) (N F : List Int) : Except Int (Int × List Int × List Int × List Nat) → Except Int (Col × List Nat)
 | .error e => .error e
 | .ok (ed', T, E, r4) => rowsE n nd ed' ⟨N, F, T, E⟩ r4
def rowsS (n : Nat) (node edge : Int) (c : Col) : Except Int (List Nat) → Except Int (Col × List Nat)
 | .error e => .error e
 | .ok r => rowsE n node edge c r
def entsS (n : Nat) (tv edge : Int) (T E : List Int) : Except Int (List Nat) → Except Int (Int × List Int × List Int × List Nat)
 | .error e => .error e
 | .ok r => entsE n tv edge T E r
noncomputable def endC : Except Int (Col × List Nat) → Except Int Col
 | .error e => .error e
 | .ok (c, r) => if colB (finC c) = true then (if r = [] then .ok (finC c) else .error 2) else .error 1
def cntS (cnt : Int) (st : Except Int (List Nat)) : Except Int (Col × List Nat) := rowsS cnt.toNat 0 0 noCol st
noncomputable def decC (l : List Nat) : Except Int Col := match uI l with
 | .error e => .error e
 | .ok (cnt, r) => endC (rowsE cnt.toNat 0 0 noCol r)
def decR : Except Int Col → Int × Col
 | .error e => (e, noCol)
 | .ok c => (0, c)
def chkS (st : Except Int (List Nat)) (many : Int) : Except Int (List Nat) := match st with
 | .error e => .error e
 | .ok r => if many = 0 then .error 1 else .ok r
theorem dec_start {l : List Nat} {cnt : Int} {st : Except Int (List Nat)} (h : stU (.ok l) cnt st) : decC l = endC (cntS cnt st) := by
 unfold stU at h
 unfold decC
 cases hu : uI l with
 | error e => simp only [hu] at h; rw [h]; rfl
 | ok p => obtain ⟨n, r⟩ := p; simp only [hu] at h; obtain ⟨rfl, rfl⟩ := h; rfl
theorem ents_step {X : Except Int (Col × List Nat)} {m k : Nat} {nd tv edge x1 x2 : Int} {N F T E : List Int} {r : List Nat} {st1 st2 : Except Int (List Nat)} (h : X = contE m nd N F (entsS (k + 1) tv edge T E (.ok r))) (h1 : stN (.ok r) tv x1 st1) (h2 : stN st1 edge x2 st2) : X = contE m nd N F (entsS k x1 x2 (T ++ [x1]) (E ++ [x2]) st2) := by
 rw [h]
 show contE m nd N F (entsE (k + 1) tv edge T E r) = _
 unfold entsE
 unfold stN at h1
 cases hn : nearM tv r with
 | error e => simp only [hn] at h1; rw [h1] at h2; unfold stN at h2; simp only at h2; rw [h2]; rfl
 | ok p =>
  obtain ⟨a, r1⟩ := p
  simp only [hn] at h1
  obtain ⟨rfl, rfl⟩ := h1
  unfold stN at h2
  simp only
  cases hm : nearM edge r1 with
  | error e => simp only [hm] at h2; rw [h2]; rfl
  | ok p =>
   obtain ⟨b, r2⟩ := p
   simp only [hm] at h2
   obtain ⟨rfl, rfl⟩ := h2
   rfl
theorem rows_step {X : Except Int (Col × List Nat)} {n : Nat} {node edge d nd many : Int} {c : Col} {r : List Nat} {st1 st2 st3 : Except Int (List Nat)} (h : X = rowsS (n + 1) node edge c (.ok r)) (h1 : stU (.ok r) d st1) (h2 : stI st1 node d nd st2) (h3 : stU st2 many st3) : X = contE n nd (c.nodes ++ [nd]) (c.first ++ [(c.tos.length : Int)]) (entsS many.toNat nd edge c.tos c.edges (chkS st3 many)) := by
 rw [h]
 show rowsE (n + 1) node edge c r = _
 unfold rowsE
 unfold stU at h1
 cases ha : uI r with
 | error e => simp only [ha] at h1; rw [h1] at h2; unfold stI at h2; simp only at h2; rw [h2] at h3; unfold stU at h3; simp only at h3; rw [h3]; rfl
 | ok p =>
  obtain ⟨a, r1⟩ := p
  simp only [ha] at h1
  obtain ⟨rfl, rfl⟩ := h1
  unfold stI at h2
  simp only
  cases hb : idM node d r1 with
  | error e => simp only [hb] at h2; rw [h2] at h3; unfold stU at h3; simp only at h3; rw [h3]; rfl
  | ok p =>
   obtain ⟨b, r2⟩ := p
   simp only [hb] at h2
   obtain ⟨rfl, rfl⟩ := h2
   unfold stU at h3
   simp only
   cases hc : uI r2 with
   | error e => simp only [hc] at h3; rw [h3]; rfl
   | ok p =>
    obtain ⟨b, r3⟩ := p
    simp only [hc] at h3
    obtain ⟨rfl, rfl⟩ := h3
    simp only [chkS]
    by_cases hm : many = 0
    ·rw [if_pos hm, if_pos hm]; rfl
    ·rw [if_neg hm, if_neg hm]; show _ = contE _ _ _ _ (entsE _ _ _ _ _ _); cases entsE many.toNat nd edge c.tos c.edges r3 <;> rfl
theorem ents_end {X : Except Int (Col × List Nat)} {m : Nat} {nd tv edge : Int} {N F T E : List Int} {r : List Nat} (h : X = contE m nd N F (entsS 0 tv edge T E (.ok r))) : X = rowsS m nd edge ⟨N, F, T, E⟩ (.ok r) := h
theorem ents_err {X : Except Int (Col × List Nat)} {m k k' : Nat} {nd nd' tv edge edge' e : Int} {N F T E : List Int} {c : Col} (h : X = contE m nd N F (entsS k tv edge T E (.error e))) : X = rowsS k' nd' edge' c (.error e) := h
/-- what is left bounds what is read -/
def bdS (NN : Nat) (st : Except Int (List Nat)) (len : Nat) : Prop := match st with
 | .error _ => len ≤ NN + 1
 | .ok r => len + r.length ≤ NN
/-- ids come out of the reader -/
def rgS (st : Except Int (List Nat)) (x : Int) : Prop := match st with
 | .error _ => True
 | .ok _ => 0 ≤ x ∧ x ≤ 1000000
theorem idM_suf {base n m : Int} {r r' : List Nat} (h : idM base n r = .ok (m, r')) : r' = r ∧ 0 ≤ m ∧ m ≤ 1000000 := by
 unfold idM at h
 split at h
 ·cases h
 ·rename_i hn
  injection h with h
  injection h with e1 e2
  have hb : idB (base + n) = true := by
   cases hb : idB (base + n) with
   | true => rfl
   | false => exact absurd (.inr (.inr hb)) hn
  rw [idB_iff] at hb
  unfold idOk at hb
  exact ⟨e2.symm, by omega, by omega⟩
theorem nearM_suf {base m : Int} {r r' : List Nat} (h : nearM base r = .ok (m, r')) : r'.length < r.length ∧ 0 ≤ m ∧ m ≤ 1000000 := by
 unfold nearM at h
 cases hi : iE r with
 | error e => rw [hi] at h; cases h
 | ok p =>
  obtain ⟨n, r1⟩ := p
  rw [hi] at h
  obtain ⟨h1, h2, h3⟩ := idM_suf h
  rw [h1]
  exact ⟨(iE_suf hi).1, h2, h3⟩
theorem bd_push {NN len : Nat} {st st' : Except Int (List Nat)} {base x : Int} (h : bdS NN st len) (hl : len ≤ NN) (h1 : stN st base x st') : rgS st' x ∧ bdS NN st' len ∧ (∀ r, st = .ok r → bdS NN st' (len + 1)) := by
 cases st with
 | error e => unfold stN at h1; simp only at h1; subst h1; exact ⟨trivial, h, fun r hr => by cases hr⟩
 | ok r =>
  unfold stN at h1
  simp only at h1
  cases hn : nearM base r with
  | error e => rw [hn] at h1; simp only at h1; subst h1; exact ⟨trivial, show len ≤ NN + 1 by omega, fun _ _ => show len + 1 ≤ NN + 1 by omega⟩
  | ok p =>
   obtain ⟨m, r'⟩ := p
   rw [hn] at h1
   simp only at h1
   obtain ⟨rfl, rfl⟩ := h1
   obtain ⟨k1, k2, k3⟩ := nearM_suf hn
   have h' : len + r.length ≤ NN := h
   exact ⟨⟨k2, k3⟩, show len + r'.length ≤ NN by omega, fun _ _ => show len + 1 + r'.length ≤ NN by omega⟩
end Go.Proofs.YtnheioehadldmaaGreat
