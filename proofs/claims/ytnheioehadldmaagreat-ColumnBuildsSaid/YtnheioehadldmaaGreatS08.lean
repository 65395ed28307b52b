/- PARTS OF THE WALKS, joined: SaD, SaE, PtG, CoE, MapOf, CoF. -/
import Derived.Test.YtnheioehadldmaaGreatS07
import Derived.Test.YtnheioehadldmaaGreatS06
import Derived.Test.YtnheioehadldmaaGreatS02
import Derived.Test.YtnheioehadldmaaGreatS05
import Derived.Maps.OwnSet
import Derived.Maps.OwnOps
import Derived.Test.YtnheioehadldmaaGreatS00
/- THE WALK over slices.symMergeCmpFunc, at entries: the general case; the recursion. -/
namespace Go.Proofs.YtnheioehadldmaaGreat
open Go.RowKit Go.Sort
theorem perm_size {a b n : Nat} {d e : Array Sh} (h : PermIn a b d e) (hz : d.size = n) : e.size = n := h.1.trans hz
theorem permR {a b : Nat} {d : Array Sh} : PermIn a b d d := permIn_refl d a b
/-- SymCut, in letters -/
structure SymL (lt : Sh → Sh → Bool) (a mid E b s : Nat) (e : Array Sh) : Prop where
 r1 : SortedIn lt a s e
 r2 : SortedIn lt s mid e
 r3 : SortedIn lt mid E e
 r4 : SortedIn lt E b e
 cross : Cross lt a mid b e
theorem sym_cutL {lt : Sh → Sh → Bool} (hS : SWO lt) {a m b s mid E : Nat} {d e : Array Sh} (h1 : a < m) (h2 : m < b) (hl : SortedIn lt a m d) (hr : SortedIn lt m b d) (hmid : mid = (a + b) / 2) (hE : E = mid + m - s)
  (hlo : symLo a m b ≤ s) (hhi : s ≤ symHi a m b) (hup : symLo a m b < s → lt d[mid + m - s]! d[s - 1]! = false) (hdn : s < symHi a m b → lt d[mid + m - s - 1]! d[s]! = true) (he : ∀ x, e[x]! = d[rotS s m E x]!) : SymL lt a mid E b s e := by
 subst hE
 subst hmid
 have h := sym_cut hS h1 h2 hl hr ⟨hlo, hhi, hup, hdn⟩ he
 exact ⟨h.r1, h.r2, h.r3, h.r4, h.cross⟩
theorem sym_doneL {lt : Sh → Sh → Bool} {a mid E b s : Nat} {e e1 e2 : Array Sh} (ham : a ≤ mid) (hmb : mid ≤ b) (hb : b ≤ e.size) (h : SymL lt a mid E b s e) (hp1 : PermIn a mid e e1) (hs1 : SortedIn lt a mid e1) (hp2 : PermIn mid b e1 e2) (hs2 : SortedIn lt mid b e2) :
  PermIn a b e e2 ∧ SortedIn lt a b e2 := by
 have z1 := hp1.1
 refine ⟨permIn_trans _ _ _ a b (permIn_mono _ _ _ _ _ _ (Nat.le_refl _) (by omega) hb hp1) (permIn_mono _ _ _ _ _ _ (by omega) (Nat.le_refl _) (by omega) hp2), ?_⟩
 exact srt_glue (srt_kept hs1 hp2 (.inl (Nat.le_refl _))) hs2 ((h.cross.left (by omega) hp1).right (by omega) hp2)
set_option maxRecDepth 100000 in
set_option maxHeartbeats 12800000 in
theorem sm_symC (w0 : World) (B g cap : Nat) (cf : Sh → Sh → Int) (f : Nat) (cb : Array Value) (d : Array Sh) (a m b : Nat) (w : World)
  (eg : ∀ args w, (callFunc f args).run Tryz.prog w = .ok (.enter f args) w) (hcmp : CmpOkM Tryz.prog f cb cf w0 g) (hS : SWO (ltM cf)) (hs : SortM w0 B g cap 41 d w) (h0 : a + 1 < m) (h2 : m + 1 < b) (hb : b ≤ d.size) (hsz : d.size ≤ 8000000) (hl : SortedIn (ltM cf) a m d) (hr : SortedIn (ltM cf) m b d)
  (ih : ∀ (a' m' b' : Nat) (e : Array Sh) (W : World), b' - a' < b - a → SortM w0 B g cap 41 e W → e.size = d.size → a' < m' → m' < b' → b' ≤ d.size → SortedIn (ltM cf) a' m' e → SortedIn (ltM cf) m' b' e → Calls Tryz.prog 93 #[.slice (some ⟨g, 0, none⟩) d.size cap, .int .i64 a', .int .i64 m', .int .i64 b', .func (.func f) #[] cb] W fun e' w' => e' = .returned (.tuple #[]) ∧ ∃ d', SortM w0 B g cap 41 d' w' ∧ PermIn a' b' e d' ∧ SortedIn (ltM cf) a' b' d') :
  Calls Tryz.prog 93 #[.slice (some ⟨g, 0, none⟩) d.size cap, .int .i64 a, .int .i64 m, .int .i64 b, .func (.func f) #[] cb] w fun e w' => e = .returned (.tuple #[]) ∧ ∃ d', SortM w0 B g cap 41 d' w' ∧ PermIn a b d d' ∧ SortedIn (ltM cf) a b d' := by
 have HS := Lib.hid hs
 have HC := Lib.hid hcmp
 have HW := Lib.hid hS
 have H1 := Lib.hid hl
 have H2 := Lib.hid hr
 have IH := Lib.hid ih
 clear hs hcmp hS hl hr ih
 have hma : (((m : Int) - (a : Int)) == 1) = false := by rw [beq_eq_false_iff_ne]; omega
 have hmb' : (((b : Int) - (m : Int)) == 1) = false := by rw [beq_eq_false_iff_ne]; omega
 obtain ⟨mid, hmid⟩ : ∃ mid, mid = (a + b) / 2 := ⟨_, rfl⟩
 have HMID := Lib.hid hmid
 have qm : ((a : Int) + (b : Int)) / 2 = (mid : Int) := by omega
 have m1 : 2 * mid ≤ a + b := by omega
 have m2 : a + b ≤ 2 * mid + 1 := by omega
 have hrng := sym_rng (show a < m by omega) (show m < b by omega)
 rw [← hmid] at hrng
 clear hmid
 obtain ⟨lo, HLO⟩ : ∃ lo, Hid (lo = symLo a m b) := ⟨_, rfl⟩
 obtain ⟨hi, HHI⟩ : ∃ hi, Hid (hi = symHi a m b) := ⟨_, rfl⟩
 rw [← HLO.out, ← HHI.out] at hrng
 obtain ⟨r1, r2, r3, r4, r5, -⟩ := hrng
 by_cases hm : m > mid
 ·go_enter Tryz.func93, Tryz.ntmps93
  have ql : (mid : Int) + (m : Int) - (b : Int) = (lo : Int) := by have := HLO.out; unfold symLo at this; rw [← HMID.out, if_pos hm] at this; omega
  have qh : hi ≤ mid ∧ mid ≤ hi := by have := HHI.out; unfold symHi at this; rw [← HMID.out, if_pos hm] at this; omega
  go_wp2_with fail
  clear hma hmb' qm
  go_loopw [20, 21] (fun u v W => ∃ (s r : Nat), u = .int .i64 s ∧ v = .int .i64 r ∧ lo ≤ s ∧ s ≤ r ∧ r ≤ hi ∧ Hid (SortM w0 B g cap 41 d W) ∧ Hid (lo < s → ltM cf d[mid + m - s]! d[s - 1]! = false) ∧ Hid (r < hi → ltM cf d[mid + m - r - 1]! d[r]! = true)) (fun u v _ => (intOf v - intOf u).toNat)
  case atStart => exact ⟨lo, hi, by first | rfl | exact congrArg (Value.int .i64) ql, by first | rfl | exact congrArg (Value.int .i64) (by omega), Nat.le_refl _, by omega, Nat.le_refl _, HS, Lib.hid (fun h => absurd h (by omega)), Lib.hid (fun h => absurd h (by omega))⟩
  case round =>
   obtain ⟨s, r, rfl, rfl, hls, hsr, hrh, he, hup, hdn⟩ := hrel
   by_cases hlt : s < r
   ·obtain ⟨C, hC⟩ : ∃ C, C = (s + r) / 2 := ⟨_, rfl⟩
    obtain ⟨I, hI⟩ : ∃ I, I = mid + m - 1 - C := ⟨_, rfl⟩
    have qC : ((s : Int) + (r : Int)) / 2 = (C : Int) := by omega
    have qI : (mid : Int) + (m : Int) - 1 - (C : Int) = (I : Int) := by omega
    have wI : IntKind.i64.wrap (I : Int) = (I : Int) := by rw [IntKind.wrap_i64]; omega
    have b1 : (I : Int) < (d.size : Int) := by omega
    have b2 : (C : Int) < (d.size : Int) := by omega
    have c3 : s ≤ C := by omega
    have c4 : C < r := by omega
    have c5 : C < d.size := by omega
    have c6 : I < d.size := by omega
    have HG := Lib.hid (fun (h : cf d[I]! d[C]! < 0) => fun (_ : C < hi) => (by rw [show mid + m - C - 1 = I by omega]; exact ltM_t h : ltM cf d[mid + m - C - 1]! d[C]! = true))
    have HE := Lib.hid (fun (h : ¬ cf d[I]! d[C]! < 0) => fun (_ : lo < C + 1) => (by rw [show mid + m - (C + 1) = I by omega, Nat.add_sub_cancel]; exact ltM_f h : ltM cf d[mid + m - (C + 1)]! d[C + 1 - 1]! = false))
    have hC2 : 2 * C ≤ s + r := by omega
    clear hC hI
    obtain ⟨c10, c11, c12⟩ := he.out.cells (show I < d.size by omega)
    obtain ⟨c20, c21, c22⟩ := he.out.cells (show C < d.size by omega)
    have HX := Lib.hid (fun V (h : Ext wr V) => he.out.ext h)
    have HQ := Lib.hid (fun V (h : Ext wr V) => HC.out V (he.out.ext h).gr d[I]! d[C]!)
    generalize cf d[I]! d[C]! = z at *
    generalize d[I]! = x1 at c10 c11 c12 HQ
    generalize d[C]! = x2 at c20 c21 c22 HQ
    have MK := Lib.hid (fun V (e : Ext wr V) => (⟨e.cell c10, e.cell c11, e.cell c12, e.cell c20, e.cell c21, e.cell c22, e⟩ : V.cell? ⟨g, I * 3, none⟩ = some (.int .i64 x1.id) ∧ V.cell? ⟨g, I * 3 + 1, none⟩ = some (.int .i64 x1.n) ∧ V.cell? ⟨g, I * 3 + 2, none⟩ = some (.int .i64 x1.d) ∧ V.cell? ⟨g, C * 3, none⟩ = some (.int .i64 x2.id) ∧ V.cell? ⟨g, C * 3 + 1, none⟩ = some (.int .i64 x2.n) ∧ V.cell? ⟨g, C * 3 + 2, none⟩ = some (.int .i64 x2.d) ∧ Ext wr V))
    by_cases hz : z < 0
    ·have hg := Lib.hid (HG.out hz)
     clear HG HE
     clear c10 c11 c12 c20 c21 c22
     go_wp2_with fail
     go_region_held3 (fun V => V.cell? ⟨g, I * 3, none⟩ = some (.int .i64 x1.id) ∧ V.cell? ⟨g, I * 3 + 1, none⟩ = some (.int .i64 x1.n) ∧ V.cell? ⟨g, I * 3 + 2, none⟩ = some (.int .i64 x1.d) ∧ V.cell? ⟨g, C * 3, none⟩ = some (.int .i64 x2.id) ∧ V.cell? ⟨g, C * 3 + 1, none⟩ = some (.int .i64 x2.n) ∧ V.cell? ⟨g, C * 3 + 2, none⟩ = some (.int .i64 x2.d) ∧ Ext wr V) ((exact MK.out _ (by solve_by_elim [X0, X1, X2, X3]))) ((refine (HQ.out _ (by solve_by_elim [X0, X1, X2, X3])).mono ?_; rintro e w' ⟨rfl, hb⟩; replace hb : Ext wr w' := Ext.trans (by solve_by_elim [X0, X1, X2, X3]) hb))
     have hN := Lib.hid (HX.out w' hb)
     clear HX HQ MK
     go_wp2_with fail
     go_roundw
     case rel => exact ⟨s, C, rfl, rfl, hls, c3, by omega, hN, hup, hg⟩
     case measure => simp [intOf]; omega
    ·have hg := Lib.hid (HE.out hz)
     have hz' : decide (z < 0) = false := decide_eq_false hz
     clear HG HE hz
     clear c10 c11 c12 c20 c21 c22
     go_wp2_with fail
     go_region_held3 (fun V => V.cell? ⟨g, I * 3, none⟩ = some (.int .i64 x1.id) ∧ V.cell? ⟨g, I * 3 + 1, none⟩ = some (.int .i64 x1.n) ∧ V.cell? ⟨g, I * 3 + 2, none⟩ = some (.int .i64 x1.d) ∧ V.cell? ⟨g, C * 3, none⟩ = some (.int .i64 x2.id) ∧ V.cell? ⟨g, C * 3 + 1, none⟩ = some (.int .i64 x2.n) ∧ V.cell? ⟨g, C * 3 + 2, none⟩ = some (.int .i64 x2.d) ∧ Ext wr V) ((exact MK.out _ (by solve_by_elim [X0, X1, X2, X3]))) ((refine (HQ.out _ (by solve_by_elim [X0, X1, X2, X3])).mono ?_; rintro e w' ⟨rfl, hb⟩; replace hb : Ext wr w' := Ext.trans (by solve_by_elim [X0, X1, X2, X3]) hb))
     have hN := Lib.hid (HX.out w' hb)
     clear HX HQ MK
     go_wp2_with fail
     go_roundw
     case rel => exact ⟨C + 1, r, congrArg (Value.int .i64) (by omega), rfl, by omega, by omega, hrh, hN, hg, hdn⟩
     case measure => simp [intOf]; omega
   ·obtain rfl : s = r := by omega
    obtain ⟨E, hE⟩ : ∃ E, E = mid + m - s := ⟨_, rfl⟩
    have HEQ := Lib.hid hE
    have qE : (mid : Int) + (m : Int) - (s : Int) = (E : Int) := by omega
    have e1 : E + s ≤ mid + m := by omega
    have e2 : mid + m ≤ E + s := by omega
    have HCUT := Lib.hid (fun (e : Array Sh) (hx : ∀ x, e[x]! = d[rotS s m E x]!) => sym_cutL (lt := ltM cf) HW.out (Nat.lt_of_succ_lt h0) (Nat.lt_of_succ_lt h2) H1.out H2.out HMID.out hE (HLO.out ▸ hls) (HHI.out ▸ hrh) (by rw [← HLO.out]; exact hup.out) (by rw [← HHI.out]; exact hdn.out) hx)
    have IL := Lib.hid (fun (W : World) (e : Array Sh) (h : SortM w0 B g cap 41 e W) (hz : e.size = d.size) (hc : SymL (ltM cf) a mid E b s e) => fun (h1 : a < s) (h2 : s < mid) => IH.out a s mid e W (by omega) h hz h1 h2 (by omega) hc.r1 hc.r2)
    have IR := Lib.hid (fun (W : World) (e' : Array Sh) (h : SortM w0 B g cap 41 e' W) (hz' : e'.size = d.size) (e : Array Sh) (_ : e.size = d.size) (hc : SymL (ltM cf) a mid E b s e) (hp : PermIn a mid e e') => fun (h1 : mid < E) (h2 : E < b) => IH.out mid E b e' W (by omega) h hz' h1 h2 hb (srt_kept hc.r3 hp (.inr (Nat.le_refl _))) (srt_kept hc.r4 hp (.inr (by omega))))
    have HDONE := Lib.hid (fun (e e1 e2 : Array Sh) (hz : e.size = d.size) (hc : SymL (ltM cf) a mid E b s e) (hp1 : PermIn a mid e e1) (hs1 : SortedIn (ltM cf) a mid e1) (hp2 : PermIn mid b e1 e2) (hs2 : SortedIn (ltM cf) mid b e2) => sym_doneL (by omega) (by omega) (by omega) hc hp1 hs1 hp2 hs2)
    clear hE hup hdn
    have h4 : s < m := by omega
    have h8 : mid < E := by omega
    have h3 : a < mid := by omega
    by_cases h7 : s < mid
    ·have h5 : m < E := by omega
     have HR := Lib.hid (sm_rotate w0 B g cap d s m E (.func (.func f) #[] cb) wr he.out h4 h5 (by omega) hsz)
     have HPM := Lib.hid (fun (e : Array Sh) (hp : PermIn s E d e) => permIn_mono _ _ _ _ a b (by omega) (by omega) hb hp)
     by_cases h6 : a < s
     ·replace IL := Lib.hid (fun W e h hz hc => IL.out W e h hz hc h6 h7)
      by_cases h9 : E < b
      ·replace IR := Lib.hid (fun W e1 h hz e hz2 hc hp => IR.out W e1 h hz e hz2 hc hp h8 h9)
       go_wp2_with (first | (go_at_call 108; with_reducible refine (HR.out).mono ?_; rintro e' w1 ⟨rfl, d1, hs1, hz1, hx1, hp1⟩; replace hs1 := Lib.hid hs1; replace hx1 := Lib.hid (HCUT.out d1 hx1); replace hp1 := Lib.hid (HPM.out d1 hp1)) | (go_at_call 93; with_reducible refine (IL.out w1 d1 hs1.out hz1 hx1.out).mono ?_; rintro e' w2 ⟨rfl, d2, hs2, hp2, hso2⟩; have hz2 := perm_size hp2 hz1; replace hs2 := Lib.hid hs2; replace hp2 := Lib.hid hp2; replace hso2 := Lib.hid hso2) | (go_at_call 93; with_reducible refine (IR.out w2 d2 hs2.out hz2 d1 hz1 hx1.out hp2.out).mono ?_; rintro e' w3 ⟨rfl, d3, hs3, hp3, hso3⟩; replace hs3 := Lib.hid hs3; replace hp3 := Lib.hid hp3; replace hso3 := Lib.hid hso3))
       go_end0
       have HF := HDONE.out d1 d2 d3 hz1 hx1.out hp2.out hso2.out hp3.out hso3.out
       exact ⟨rfl, d3, hs3.out, permIn_trans _ _ _ a b hp1.out HF.1, HF.2⟩
      ·have IRN := Lib.hid (fun (e e1 : Array Sh) (hc : SymL (ltM cf) a mid E b s e) (hp : PermIn a mid e e1) => (by have := srt_kept hc.r3 hp (.inr (Nat.le_refl _)); rwa [show E = b by omega] at this : SortedIn (ltM cf) mid b e1))
       go_wp2_with (first | (go_at_call 108; with_reducible refine (HR.out).mono ?_; rintro e' w1 ⟨rfl, d1, hs1, hz1, hx1, hp1⟩; replace hs1 := Lib.hid hs1; replace hx1 := Lib.hid (HCUT.out d1 hx1); replace hp1 := Lib.hid (HPM.out d1 hp1)) | (go_at_call 93; with_reducible refine (IL.out w1 d1 hs1.out hz1 hx1.out).mono ?_; rintro e' w2 ⟨rfl, d2, hs2, hp2, hso2⟩; have hz2 := perm_size hp2 hz1; replace hs2 := Lib.hid hs2; replace hp2 := Lib.hid hp2; replace hso2 := Lib.hid hso2))
       go_end0
       have HF := HDONE.out d1 d2 d2 hz1 hx1.out hp2.out hso2.out permR (IRN.out _ _ hx1.out hp2.out)
       exact ⟨rfl, d2, hs2.out, permIn_trans _ _ _ a b hp1.out HF.1, HF.2⟩
     ·have ILN := Lib.hid (fun (e : Array Sh) (hc : SymL (ltM cf) a mid E b s e) => (by have := hc.r2; rwa [show s = a by omega] at this : SortedIn (ltM cf) a mid e))
      by_cases h9 : E < b
      ·replace IR := Lib.hid (fun W e1 h hz e hz2 hc hp => IR.out W e1 h hz e hz2 hc hp h8 h9)
       go_wp2_with (first | (go_at_call 108; with_reducible refine (HR.out).mono ?_; rintro e' w1 ⟨rfl, d1, hs1, hz1, hx1, hp1⟩; replace hs1 := Lib.hid hs1; replace hx1 := Lib.hid (HCUT.out d1 hx1); replace hp1 := Lib.hid (HPM.out d1 hp1)) | (go_at_call 93; with_reducible refine (IR.out w1 d1 hs1.out hz1 d1 hz1 hx1.out permR).mono ?_; rintro e' w3 ⟨rfl, d3, hs3, hp3, hso3⟩; replace hs3 := Lib.hid hs3; replace hp3 := Lib.hid hp3; replace hso3 := Lib.hid hso3))
       go_end0
       have HF := HDONE.out d1 d1 d3 hz1 hx1.out permR (ILN.out _ hx1.out) hp3.out hso3.out
       exact ⟨rfl, d3, hs3.out, permIn_trans _ _ _ a b hp1.out HF.1, HF.2⟩
      ·have IRN := Lib.hid (fun (e e1 : Array Sh) (hc : SymL (ltM cf) a mid E b s e) (hp : PermIn a mid e e1) => (by have := srt_kept hc.r3 hp (.inr (Nat.le_refl _)); rwa [show E = b by omega] at this : SortedIn (ltM cf) mid b e1))
       go_wp2_with (go_at_call 108; with_reducible refine (HR.out).mono ?_; rintro e' w1 ⟨rfl, d1, hs1, hz1, hx1, hp1⟩; replace hs1 := Lib.hid hs1; replace hx1 := Lib.hid (HCUT.out d1 hx1); replace hp1 := Lib.hid (HPM.out d1 hp1))
       go_end0
       have HF := HDONE.out d1 d1 d1 hz1 hx1.out permR (ILN.out _ hx1.out) permR (IRN.out _ _ hx1.out permR)
       exact ⟨rfl, d1, hs1.out, permIn_trans _ _ _ a b hp1.out HF.1, HF.2⟩
    ·have h5 : ¬ m < E := by omega
     have h6 : a < s := by omega
     have h9 : E < b := by omega
     have HID := Lib.hid (fun x => (by rw [show E = m by omega, rotS_idr] : d[rotS s m E x]! = d[x]!))
     have ILN := Lib.hid (fun (e : Array Sh) (hc : SymL (ltM cf) a mid E b s e) => (by have := hc.r1; rwa [show s = mid by omega] at this : SortedIn (ltM cf) a mid e))
     replace IR := Lib.hid (fun W e1 h hz e hz2 hc hp => IR.out W e1 h hz e hz2 hc hp h8 h9)
     have hx1 := Lib.hid (HCUT.out d (fun x => (HID.out x).symm ▸ rfl))
     have hp1 := Lib.hid (permIn_refl d a b)
     go_wp2_with (go_at_call 93; with_reducible refine (IR.out wr d he.out rfl d rfl hx1.out permR).mono ?_; rintro e' w3 ⟨rfl, d3, hs3, hp3, hso3⟩; replace hs3 := Lib.hid hs3; replace hp3 := Lib.hid hp3; replace hso3 := Lib.hid hso3)
     go_end0
     have HF := HDONE.out d d d3 rfl hx1.out permR (ILN.out _ hx1.out) hp3.out hso3.out
     exact ⟨rfl, d3, hs3.out, permIn_trans _ _ _ a b hp1.out HF.1, HF.2⟩
 ·go_enter Tryz.func93, Tryz.ntmps93
  have ql : lo ≤ a ∧ a ≤ lo := by have := HLO.out; unfold symLo at this; rw [← HMID.out, if_neg hm] at this; omega
  have qh : hi ≤ m ∧ m ≤ hi := by have := HHI.out; unfold symHi at this; rw [← HMID.out, if_neg hm] at this; omega
  go_wp2_with fail
  clear hma hmb' qm
  go_loopw [20, 21] (fun u v W => ∃ (s r : Nat), u = .int .i64 s ∧ v = .int .i64 r ∧ lo ≤ s ∧ s ≤ r ∧ r ≤ hi ∧ Hid (SortM w0 B g cap 41 d W) ∧ Hid (lo < s → ltM cf d[mid + m - s]! d[s - 1]! = false) ∧ Hid (r < hi → ltM cf d[mid + m - r - 1]! d[r]! = true)) (fun u v _ => (intOf v - intOf u).toNat)
  case atStart => exact ⟨lo, hi, by first | rfl | exact congrArg (Value.int .i64) (by omega), by first | rfl | exact congrArg (Value.int .i64) (by omega), Nat.le_refl _, by omega, Nat.le_refl _, HS, Lib.hid (fun h => absurd h (by omega)), Lib.hid (fun h => absurd h (by omega))⟩
  case round =>
   obtain ⟨s, r, rfl, rfl, hls, hsr, hrh, he, hup, hdn⟩ := hrel
   by_cases hlt : s < r
   ·obtain ⟨C, hC⟩ : ∃ C, C = (s + r) / 2 := ⟨_, rfl⟩
    obtain ⟨I, hI⟩ : ∃ I, I = mid + m - 1 - C := ⟨_, rfl⟩
    have qC : ((s : Int) + (r : Int)) / 2 = (C : Int) := by omega
    have qI : (mid : Int) + (m : Int) - 1 - (C : Int) = (I : Int) := by omega
    have wI : IntKind.i64.wrap (I : Int) = (I : Int) := by rw [IntKind.wrap_i64]; omega
    have b1 : (I : Int) < (d.size : Int) := by omega
    have b2 : (C : Int) < (d.size : Int) := by omega
    have c3 : s ≤ C := by omega
    have c4 : C < r := by omega
    have c5 : C < d.size := by omega
    have c6 : I < d.size := by omega
    have HG := Lib.hid (fun (h : cf d[I]! d[C]! < 0) => fun (_ : C < hi) => (by rw [show mid + m - C - 1 = I by omega]; exact ltM_t h : ltM cf d[mid + m - C - 1]! d[C]! = true))
    have HE := Lib.hid (fun (h : ¬ cf d[I]! d[C]! < 0) => fun (_ : lo < C + 1) => (by rw [show mid + m - (C + 1) = I by omega, Nat.add_sub_cancel]; exact ltM_f h : ltM cf d[mid + m - (C + 1)]! d[C + 1 - 1]! = false))
    have hC2 : 2 * C ≤ s + r := by omega
    clear hC hI
    obtain ⟨c10, c11, c12⟩ := he.out.cells (show I < d.size by omega)
    obtain ⟨c20, c21, c22⟩ := he.out.cells (show C < d.size by omega)
    have HX := Lib.hid (fun V (h : Ext wr V) => he.out.ext h)
    have HQ := Lib.hid (fun V (h : Ext wr V) => HC.out V (he.out.ext h).gr d[I]! d[C]!)
    generalize cf d[I]! d[C]! = z at *
    generalize d[I]! = x1 at c10 c11 c12 HQ
    generalize d[C]! = x2 at c20 c21 c22 HQ
    have MK := Lib.hid (fun V (e : Ext wr V) => (⟨e.cell c10, e.cell c11, e.cell c12, e.cell c20, e.cell c21, e.cell c22, e⟩ : V.cell? ⟨g, I * 3, none⟩ = some (.int .i64 x1.id) ∧ V.cell? ⟨g, I * 3 + 1, none⟩ = some (.int .i64 x1.n) ∧ V.cell? ⟨g, I * 3 + 2, none⟩ = some (.int .i64 x1.d) ∧ V.cell? ⟨g, C * 3, none⟩ = some (.int .i64 x2.id) ∧ V.cell? ⟨g, C * 3 + 1, none⟩ = some (.int .i64 x2.n) ∧ V.cell? ⟨g, C * 3 + 2, none⟩ = some (.int .i64 x2.d) ∧ Ext wr V))
    by_cases hz : z < 0
    ·have hg := Lib.hid (HG.out hz)
     clear HG HE
     clear c10 c11 c12 c20 c21 c22
     go_wp2_with fail
     go_region_held3 (fun V => V.cell? ⟨g, I * 3, none⟩ = some (.int .i64 x1.id) ∧ V.cell? ⟨g, I * 3 + 1, none⟩ = some (.int .i64 x1.n) ∧ V.cell? ⟨g, I * 3 + 2, none⟩ = some (.int .i64 x1.d) ∧ V.cell? ⟨g, C * 3, none⟩ = some (.int .i64 x2.id) ∧ V.cell? ⟨g, C * 3 + 1, none⟩ = some (.int .i64 x2.n) ∧ V.cell? ⟨g, C * 3 + 2, none⟩ = some (.int .i64 x2.d) ∧ Ext wr V) ((exact MK.out _ (by solve_by_elim [X0, X1, X2, X3]))) ((refine (HQ.out _ (by solve_by_elim [X0, X1, X2, X3])).mono ?_; rintro e w' ⟨rfl, hb⟩; replace hb : Ext wr w' := Ext.trans (by solve_by_elim [X0, X1, X2, X3]) hb))
     have hN := Lib.hid (HX.out w' hb)
     clear HX HQ MK
     go_wp2_with fail
     go_roundw
     case rel => exact ⟨s, C, rfl, rfl, hls, c3, by omega, hN, hup, hg⟩
     case measure => simp [intOf]; omega
    ·have hg := Lib.hid (HE.out hz)
     have hz' : decide (z < 0) = false := decide_eq_false hz
     clear HG HE hz
     clear c10 c11 c12 c20 c21 c22
     go_wp2_with fail
     go_region_held3 (fun V => V.cell? ⟨g, I * 3, none⟩ = some (.int .i64 x1.id) ∧ V.cell? ⟨g, I * 3 + 1, none⟩ = some (.int .i64 x1.n) ∧ V.cell? ⟨g, I * 3 + 2, none⟩ = some (.int .i64 x1.d) ∧ V.cell? ⟨g, C * 3, none⟩ = some (.int .i64 x2.id) ∧ V.cell? ⟨g, C * 3 + 1, none⟩ = some (.int .i64 x2.n) ∧ V.cell? ⟨g, C * 3 + 2, none⟩ = some (.int .i64 x2.d) ∧ Ext wr V) ((exact MK.out _ (by solve_by_elim [X0, X1, X2, X3]))) ((refine (HQ.out _ (by solve_by_elim [X0, X1, X2, X3])).mono ?_; rintro e w' ⟨rfl, hb⟩; replace hb : Ext wr w' := Ext.trans (by solve_by_elim [X0, X1, X2, X3]) hb))
     have hN := Lib.hid (HX.out w' hb)
     clear HX HQ MK
     go_wp2_with fail
     go_roundw
     case rel => exact ⟨C + 1, r, congrArg (Value.int .i64) (by omega), rfl, by omega, by omega, hrh, hN, hg, hdn⟩
     case measure => simp [intOf]; omega
   ·obtain rfl : s = r := by omega
    obtain ⟨E, hE⟩ : ∃ E, E = mid + m - s := ⟨_, rfl⟩
    have HEQ := Lib.hid hE
    have qE : (mid : Int) + (m : Int) - (s : Int) = (E : Int) := by omega
    have e1 : E + s ≤ mid + m := by omega
    have e2 : mid + m ≤ E + s := by omega
    have HCUT := Lib.hid (fun (e : Array Sh) (hx : ∀ x, e[x]! = d[rotS s m E x]!) => sym_cutL (lt := ltM cf) HW.out (Nat.lt_of_succ_lt h0) (Nat.lt_of_succ_lt h2) H1.out H2.out HMID.out hE (HLO.out ▸ hls) (HHI.out ▸ hrh) (by rw [← HLO.out]; exact hup.out) (by rw [← HHI.out]; exact hdn.out) hx)
    have IL := Lib.hid (fun (W : World) (e : Array Sh) (h : SortM w0 B g cap 41 e W) (hz : e.size = d.size) (hc : SymL (ltM cf) a mid E b s e) => fun (h1 : a < s) (h2 : s < mid) => IH.out a s mid e W (by omega) h hz h1 h2 (by omega) hc.r1 hc.r2)
    have IR := Lib.hid (fun (W : World) (e' : Array Sh) (h : SortM w0 B g cap 41 e' W) (hz' : e'.size = d.size) (e : Array Sh) (_ : e.size = d.size) (hc : SymL (ltM cf) a mid E b s e) (hp : PermIn a mid e e') => fun (h1 : mid < E) (h2 : E < b) => IH.out mid E b e' W (by omega) h hz' h1 h2 hb (srt_kept hc.r3 hp (.inr (Nat.le_refl _))) (srt_kept hc.r4 hp (.inr (by omega))))
    have HDONE := Lib.hid (fun (e e1 e2 : Array Sh) (hz : e.size = d.size) (hc : SymL (ltM cf) a mid E b s e) (hp1 : PermIn a mid e e1) (hs1 : SortedIn (ltM cf) a mid e1) (hp2 : PermIn mid b e1 e2) (hs2 : SortedIn (ltM cf) mid b e2) => sym_doneL (by omega) (by omega) (by omega) hc hp1 hs1 hp2 hs2)
    clear hE hup hdn
    by_cases h4 : s < m
    ·have h5 : m < E := by omega
     have h7 : s < mid := by omega
     have h8 : mid < E := by omega
     have HR := Lib.hid (sm_rotate w0 B g cap d s m E (.func (.func f) #[] cb) wr he.out h4 h5 (by omega) hsz)
     have HPM := Lib.hid (fun (e : Array Sh) (hp : PermIn s E d e) => permIn_mono _ _ _ _ a b (by omega) (by omega) hb hp)
     by_cases h6 : a < s
     ·replace IL := Lib.hid (fun W e h hz hc => IL.out W e h hz hc h6 h7)
      by_cases h9 : E < b
      ·replace IR := Lib.hid (fun W e1 h hz e hz2 hc hp => IR.out W e1 h hz e hz2 hc hp h8 h9)
       go_wp2_with (first | (go_at_call 108; with_reducible refine (HR.out).mono ?_; rintro e' w1 ⟨rfl, d1, hs1, hz1, hx1, hp1⟩; replace hs1 := Lib.hid hs1; replace hx1 := Lib.hid (HCUT.out d1 hx1); replace hp1 := Lib.hid (HPM.out d1 hp1)) | (go_at_call 93; with_reducible refine (IL.out w1 d1 hs1.out hz1 hx1.out).mono ?_; rintro e' w2 ⟨rfl, d2, hs2, hp2, hso2⟩; have hz2 := perm_size hp2 hz1; replace hs2 := Lib.hid hs2; replace hp2 := Lib.hid hp2; replace hso2 := Lib.hid hso2) | (go_at_call 93; with_reducible refine (IR.out w2 d2 hs2.out hz2 d1 hz1 hx1.out hp2.out).mono ?_; rintro e' w3 ⟨rfl, d3, hs3, hp3, hso3⟩; replace hs3 := Lib.hid hs3; replace hp3 := Lib.hid hp3; replace hso3 := Lib.hid hso3))
       go_end0
       have HF := HDONE.out d1 d2 d3 hz1 hx1.out hp2.out hso2.out hp3.out hso3.out
       exact ⟨rfl, d3, hs3.out, permIn_trans _ _ _ a b hp1.out HF.1, HF.2⟩
      ·have IRN := Lib.hid (fun (e e1 : Array Sh) (hc : SymL (ltM cf) a mid E b s e) (hp : PermIn a mid e e1) => (by have := srt_kept hc.r3 hp (.inr (Nat.le_refl _)); rwa [show E = b by omega] at this : SortedIn (ltM cf) mid b e1))
       go_wp2_with (first | (go_at_call 108; with_reducible refine (HR.out).mono ?_; rintro e' w1 ⟨rfl, d1, hs1, hz1, hx1, hp1⟩; replace hs1 := Lib.hid hs1; replace hx1 := Lib.hid (HCUT.out d1 hx1); replace hp1 := Lib.hid (HPM.out d1 hp1)) | (go_at_call 93; with_reducible refine (IL.out w1 d1 hs1.out hz1 hx1.out).mono ?_; rintro e' w2 ⟨rfl, d2, hs2, hp2, hso2⟩; have hz2 := perm_size hp2 hz1; replace hs2 := Lib.hid hs2; replace hp2 := Lib.hid hp2; replace hso2 := Lib.hid hso2))
       go_end0
       have HF := HDONE.out d1 d2 d2 hz1 hx1.out hp2.out hso2.out permR (IRN.out _ _ hx1.out hp2.out)
       exact ⟨rfl, d2, hs2.out, permIn_trans _ _ _ a b hp1.out HF.1, HF.2⟩
     ·have ILN := Lib.hid (fun (e : Array Sh) (hc : SymL (ltM cf) a mid E b s e) => (by have := hc.r2; rwa [show s = a by omega] at this : SortedIn (ltM cf) a mid e))
      by_cases h9 : E < b
      ·replace IR := Lib.hid (fun W e1 h hz e hz2 hc hp => IR.out W e1 h hz e hz2 hc hp h8 h9)
       go_wp2_with (first | (go_at_call 108; with_reducible refine (HR.out).mono ?_; rintro e' w1 ⟨rfl, d1, hs1, hz1, hx1, hp1⟩; replace hs1 := Lib.hid hs1; replace hx1 := Lib.hid (HCUT.out d1 hx1); replace hp1 := Lib.hid (HPM.out d1 hp1)) | (go_at_call 93; with_reducible refine (IR.out w1 d1 hs1.out hz1 d1 hz1 hx1.out permR).mono ?_; rintro e' w3 ⟨rfl, d3, hs3, hp3, hso3⟩; replace hs3 := Lib.hid hs3; replace hp3 := Lib.hid hp3; replace hso3 := Lib.hid hso3))
       go_end0
       have HF := HDONE.out d1 d1 d3 hz1 hx1.out permR (ILN.out _ hx1.out) hp3.out hso3.out
       exact ⟨rfl, d3, hs3.out, permIn_trans _ _ _ a b hp1.out HF.1, HF.2⟩
      ·have IRN := Lib.hid (fun (e e1 : Array Sh) (hc : SymL (ltM cf) a mid E b s e) (hp : PermIn a mid e e1) => (by have := srt_kept hc.r3 hp (.inr (Nat.le_refl _)); rwa [show E = b by omega] at this : SortedIn (ltM cf) mid b e1))
       go_wp2_with (go_at_call 108; with_reducible refine (HR.out).mono ?_; rintro e' w1 ⟨rfl, d1, hs1, hz1, hx1, hp1⟩; replace hs1 := Lib.hid hs1; replace hx1 := Lib.hid (HCUT.out d1 hx1); replace hp1 := Lib.hid (HPM.out d1 hp1))
       go_end0
       have HF := HDONE.out d1 d1 d1 hz1 hx1.out permR (ILN.out _ hx1.out) permR (IRN.out _ _ hx1.out permR)
       exact ⟨rfl, d1, hs1.out, permIn_trans _ _ _ a b hp1.out HF.1, HF.2⟩
    ·have h6 : a < s := by omega
     have h8 : ¬ mid < E := by omega
     have HID := Lib.hid (fun x => (by rw [show s = m by omega, rotS_idl] : d[rotS s m E x]! = d[x]!))
     have IRN := Lib.hid (fun (e e1 : Array Sh) (hc : SymL (ltM cf) a mid E b s e) (hp : PermIn a mid e e1) => (by have := srt_kept hc.r4 hp (.inr (by omega)); rwa [show E = mid by omega] at this : SortedIn (ltM cf) mid b e1))
     by_cases h7 : s < mid
     ·replace IL := Lib.hid (fun W e h hz hc => IL.out W e h hz hc h6 h7)
      have hx1 := Lib.hid (HCUT.out d (fun x => (HID.out x).symm ▸ rfl))
      have hp1 := Lib.hid (permIn_refl d a b)
      go_wp2_with (go_at_call 93; with_reducible refine (IL.out wr d he.out rfl hx1.out).mono ?_; rintro e' w2 ⟨rfl, d2, hs2, hp2, hso2⟩; have hz2 := perm_size hp2 rfl; replace hs2 := Lib.hid hs2; replace hp2 := Lib.hid hp2; replace hso2 := Lib.hid hso2)
      go_end0
      have HF := HDONE.out d d2 d2 rfl hx1.out hp2.out hso2.out permR (IRN.out _ _ hx1.out hp2.out)
      exact ⟨rfl, d2, hs2.out, permIn_trans _ _ _ a b hp1.out HF.1, HF.2⟩
     ·have ILN := Lib.hid (fun (e : Array Sh) (hc : SymL (ltM cf) a mid E b s e) => (by have := hc.r1; rwa [show s = mid by omega] at this : SortedIn (ltM cf) a mid e))
      have hx1 := Lib.hid (HCUT.out d (fun x => (HID.out x).symm ▸ rfl))
      have hp1 := Lib.hid (permIn_refl d a b)
      go_wp2_with fail
      go_end0
      have HF := HDONE.out d d d rfl hx1.out permR (ILN.out _ hx1.out) permR (IRN.out _ _ hx1.out permR)
      exact ⟨rfl, d, he.out, permIn_trans _ _ _ a b hp1.out HF.1, HF.2⟩
set_option maxRecDepth 100000 in
theorem sm_symN : ∀ (N : Nat) (w0 : World) (B g cap : Nat) (cf : Sh → Sh → Int) (f : Nat) (cb : Array Value) (d : Array Sh) (a m b : Nat) (w : World)
  (_ : ∀ args w, (callFunc f args).run Tryz.prog w = .ok (.enter f args) w) (_ : CmpOkM Tryz.prog f cb cf w0 g) (_ : SWO (ltM cf)) (_ : SortM w0 B g cap 41 d w) (_ : b - a ≤ N) (_ : a < m) (_ : m < b) (_ : b ≤ d.size) (_ : d.size ≤ 8000000) (_ : SortedIn (ltM cf) a m d) (_ : SortedIn (ltM cf) m b d),
  Calls Tryz.prog 93 #[.slice (some ⟨g, 0, none⟩) d.size cap, .int .i64 a, .int .i64 m, .int .i64 b, .func (.func f) #[] cb] w fun e w' => e = .returned (.tuple #[]) ∧ ∃ d', SortM w0 B g cap 41 d' w' ∧ PermIn a b d d' ∧ SortedIn (ltM cf) a b d'
 | 0, w0, B, g, cap, cf, f, cb, d, a, m, b, w, eg, hcmp, hS, hs, hN, h1, h2, hb, hsz, hl, hr => by omega
 | N + 1, w0, B, g, cap, cf, f, cb, d, a, m, b, w, eg, hcmp, hS, hs, hN, h1, h2, hb, hsz, hl, hr => by
  by_cases e1 : m = a + 1
  ·exact sm_symA w0 B g cap cf f cb d a m b w eg hcmp hS hs e1 h2 hb hsz hr
  ·by_cases e2 : b = m + 1
   ·exact sm_symB w0 B g cap cf f cb d a m b w eg hcmp hS hs e1 h1 e2 hb hsz hl
   ·refine sm_symC w0 B g cap cf f cb d a m b w eg hcmp hS hs (by omega) (by omega) hb hsz hl hr (fun a' m' b' e W hlt hs' hz g1 g2 g3 g4 g5 => ?_)
    rw [← hz]
    exact sm_symN N w0 B g cap cf f cb e a' m' b' W eg hcmp hS hs' (by omega) g1 g2 (by omega) (by omega) g4 g5
theorem sm_sym (w0 : World) (B g cap : Nat) (cf : Sh → Sh → Int) (f : Nat) (cb : Array Value) (d : Array Sh) (a m b : Nat) (w : World)
  (eg : ∀ args w, (callFunc f args).run Tryz.prog w = .ok (.enter f args) w) (hcmp : CmpOkM Tryz.prog f cb cf w0 g) (hS : SWO (ltM cf)) (hs : SortM w0 B g cap 41 d w) (h1 : a < m) (h2 : m < b) (hb : b ≤ d.size) (hsz : d.size ≤ 8000000) (hl : SortedIn (ltM cf) a m d) (hr : SortedIn (ltM cf) m b d) :
  Calls Tryz.prog 93 #[.slice (some ⟨g, 0, none⟩) d.size cap, .int .i64 a, .int .i64 m, .int .i64 b, .func (.func f) #[] cb] w fun e w' => e = .returned (.tuple #[]) ∧ ∃ d', SortM w0 B g cap 41 d' w' ∧ PermIn a b d d' ∧ SortedIn (ltM cf) a b d' :=
 sm_symN (b - a) w0 B g cap cf f cb d a m b w eg hcmp hS hs (Nat.le_refl _) h1 h2 hb hsz hl hr
end Go.Proofs.YtnheioehadldmaaGreat

/- THE WALK over slices.stableCmpFunc and slices.SortStableFunc, at entries. -/
namespace Go.Proofs.YtnheioehadldmaaGreat
open Go.RowKit Go.Sort
theorem firstL_step {lt : Sh → Sh → Bool} {bs A b : Nat} {d e : Array Sh} (hq : ∃ q, A = q * bs) (hb : b = A + bs) (h : First lt bs A d) (hp : PermIn A b d e) (hs : SortedIn lt A b e) : First lt bs b e ∧ ∃ q, b = q * bs := by
 obtain ⟨q, rfl⟩ := hq
 subst hb
 have e1 : (q + 1) * bs = q * bs + bs := by rw [Nat.add_mul, Nat.one_mul]
 have := h.step hp hs
 rw [e1] at this
 exact ⟨this, q + 1, e1.symm⟩
theorem firstL_last {lt : Sh → Sh → Bool} {bs n A : Nat} {d e : Array Sh} (hq : ∃ q, A = q * bs) (h : First lt bs A d) (hn : n < A + bs) (hp : PermIn A n d e) (hs : SortedIn lt A n e) : Blocks lt bs n e := by
 obtain ⟨q, rfl⟩ := hq
 exact h.last hn hp hs
theorem levelL_step {lt : Sh → Sh → Bool} {bs n A b : Nat} {d e : Array Sh} (hb : 0 < bs) (hq : ∃ q, A = q * (2 * bs)) (hB : b = A + 2 * bs) (h : Level lt bs n A d) (hn : b ≤ n) (hp : PermIn A b d e) (hs : SortedIn lt A b e) : Level lt bs n b e ∧ ∃ q, b = q * (2 * bs) := by
 obtain ⟨q, rfl⟩ := hq
 subst hB
 have e1 : (q + 1) * (2 * bs) = q * (2 * bs) + 2 * bs := by rw [Nat.add_mul, Nat.one_mul]
 have := h.step hb hn hp hs
 rw [e1] at this
 exact ⟨this, q + 1, e1.symm⟩
theorem levelL_last {lt : Sh → Sh → Bool} {bs n A : Nat} {d e : Array Sh} (hq : ∃ q, A = q * (2 * bs)) (h : Level lt bs n A d) (hn : n < A + 2 * bs) (ha : A ≤ n) (hp : PermIn A n d e) (hs : SortedIn lt A n e) : Blocks lt (bs * 2) n e := by
 obtain ⟨q, rfl⟩ := hq
 exact h.last hn ha hp hs
theorem levelL_runs {lt : Sh → Sh → Bool} {bs n A : Nat} {d : Array Sh} (hq : ∃ q, A = q * (2 * bs)) (h : Level lt bs n A d) : SortedIn lt A (min (A + bs) n) d ∧ SortedIn lt (A + bs) (min (A + bs + bs) n) d := by
 obtain ⟨q, rfl⟩ := hq
 exact h.runs
set_option maxRecDepth 100000 in
set_option maxHeartbeats 6400000 in
theorem sm_stable (w0 : World) (B g cap : Nat) (cf : Sh → Sh → Int) (f : Nat) (cb : Array Value) (d : Array Sh) (w : World)
  (eg : ∀ args w, (callFunc f args).run Tryz.prog w = .ok (.enter f args) w) (hcmp : CmpOkM Tryz.prog f cb cf w0 g) (hS : SWO (ltM cf)) (hs : SortM w0 B g cap 41 d w) (hsz : d.size ≤ 8000000) :
  Calls Tryz.prog 79 #[.slice (some ⟨g, 0, none⟩) d.size cap, .int .i64 d.size, .func (.func f) #[] cb] w fun e w' => e = .returned (.tuple #[]) ∧ ∃ d', SortM w0 B g cap 41 d' w' ∧ PermIn 0 d.size d d' ∧ SortedIn (ltM cf) 0 d.size d' := by
 have HI := Lib.hid (fun (e : Array Sh) (W : World) (a b : Nat) (h : SortM w0 B g cap 41 e W) (hz : e.size = d.size) (hab : a ≤ b) (hb : b ≤ d.size) => (by
  rw [← hz]; exact sm_insert w0 B g cap cf f cb e a b W eg hcmp hS h hab (hz ▸ hb) (hz ▸ hsz) : Calls Tryz.prog 92 #[.slice (some ⟨g, 0, none⟩) d.size cap, .int .i64 a, .int .i64 b, .func (.func f) #[] cb] W fun r w' => r = .returned (.tuple #[]) ∧ ∃ d', SortM w0 B g cap 41 d' w' ∧ PermIn a b e d' ∧ SortedIn (ltM cf) a b d'))
 have HY := Lib.hid (fun (e : Array Sh) (W : World) (a m b : Nat) (h : SortM w0 B g cap 41 e W) (hz : e.size = d.size) (h1 : a < m) (h2 : m < b) (hb : b ≤ d.size) (hl : SortedIn (ltM cf) a m e) (hr : SortedIn (ltM cf) m b e) => (by
  rw [← hz]; exact sm_sym w0 B g cap cf f cb e a m b W eg hcmp hS h h1 h2 (hz ▸ hb) (hz ▸ hsz) hl hr : Calls Tryz.prog 93 #[.slice (some ⟨g, 0, none⟩) d.size cap, .int .i64 a, .int .i64 m, .int .i64 b, .func (.func f) #[] cb] W fun r w' => r = .returned (.tuple #[]) ∧ ∃ d', SortM w0 B g cap 41 d' w' ∧ PermIn a b e d' ∧ SortedIn (ltM cf) a b d'))
 have HS := Lib.hid hs
 clear hs hcmp hS
 obtain ⟨n, hn⟩ : ∃ n, n = d.size := ⟨_, rfl⟩
 have HN := Lib.hid hn
 have hn1 : n ≤ d.size := by omega
 have hn2 : d.size ≤ n := by omega
 rw [← hn] at HI HY ⊢
 rw [← hn] at hsz
 clear hn hn1 hn2
 go_enter Tryz.func79, Tryz.ntmps79
 go_wp2_with fail
 go_loopw [7, 8] (fun u v W => ∃ (A b : Nat) (e : Array Sh), u = .int .i64 A ∧ v = .int .i64 b ∧ A ≤ n ∧ A + 20 ≤ b ∧ b ≤ A + 20 ∧ Hid (∃ q, A = q * 20) ∧ Hid (First (ltM cf) 20 A e) ∧ Hid (SortM w0 B g cap 41 e W) ∧ Hid (e.size = n) ∧ Hid (PermIn 0 n d e)) (fun _ v _ => n + 20 - (intOf v).toNat)
 case atStart => exact ⟨0, 20, d, rfl, rfl, Nat.zero_le _, Nat.le_refl _, Nat.le_refl _, Lib.hid ⟨0, by omega⟩, Lib.hid (fun q hq => by omega), HS, Lib.hid HN.out.symm, Lib.hid (permIn_refl _ _ _)⟩
 case round =>
  obtain ⟨A, b, e, rfl, rfl, hAn, hb1, hb2, hq, hf, he, hz, hp⟩ := hrel
  have HB := Lib.hid (show b = A + 20 by omega)
  by_cases hlt : b ≤ n
  ·have HC := Lib.hid (HI.out e wr A b he.out hz.out (by omega) hlt)
   go_wp2_with (go_at_call 92; refine HC.out.mono ?_; rintro r w1 ⟨rfl, d1, hs1, hp1, hso1⟩; replace hs1 := Lib.hid hs1; replace hp1 := Lib.hid hp1; replace hso1 := Lib.hid hso1)
   go_roundw
   case rel =>
    have HF := firstL_step hq.out HB.out hf.out hp1.out hso1.out
    exact ⟨b, b + 20, d1, rfl, congrArg (Value.int .i64) (by omega), hlt, Nat.le_refl _, Nat.le_refl _, Lib.hid HF.2, Lib.hid HF.1, hs1, Lib.hid (hp1.out.1.trans hz.out), Lib.hid (permIn_trans _ _ _ 0 n hp.out (permIn_mono _ _ _ _ _ _ (Nat.zero_le _) hlt (by rw [hz.out]; exact Nat.le_refl _) hp1.out))⟩
   case measure => simp [intOf]; omega
  ·have HC := Lib.hid (HI.out e wr A n he.out hz.out hAn (Nat.le_refl _))
   go_wp2_with (go_at_call 92; refine HC.out.mono ?_; rintro r w1 ⟨rfl, d1, hs1, hp1, hso1⟩; replace hs1 := Lib.hid hs1; replace hp1 := Lib.hid hp1; replace hso1 := Lib.hid hso1)
   have hbl := Lib.hid (firstL_last hq.out hf.out (by omega) hp1.out hso1.out)
   have hz1 := Lib.hid (hp1.out.1.trans hz.out)
   have hp2 := Lib.hid (permIn_trans _ _ _ 0 n hp.out (permIn_mono _ _ _ _ _ _ (Nat.zero_le _) (Nat.le_refl _) (by rw [hz.out]; exact Nat.le_refl _) hp1.out))
   clear hp hf hq he HB HC
   go_loopw [6, 7, 8] (fun u v x W => ∃ (bs : Nat) (e : Array Sh) (p q : Int), u = .int .i64 bs ∧ v = .int .i64 p ∧ x = .int .i64 q ∧ 20 ≤ bs ∧ bs ≤ 16000000 ∧ Hid (Blocks (ltM cf) bs n e) ∧ Hid (SortM w0 B g cap 41 e W) ∧ Hid (e.size = n) ∧ Hid (PermIn 0 n d e)) (fun u _ _ _ => n - (intOf u).toNat)
   case atStart => exact ⟨20, d1, _, _, rfl, rfl, rfl, Nat.le_refl _, by omega, hbl, hs1, hz1, hp2⟩
   case round =>
    clear hbl hs1 hz1 hp2 hp1 hso1
    obtain ⟨bs, e, p, q, rfl, rfl, rfl, hbs, hbs2, hbl, he, hz, hp⟩ := hrel
    by_cases hlt2 : bs < n
    ·go_wp2_with fail
     go_loopw [7, 8] (fun u v W => ∃ (A b : Nat) (e : Array Sh), u = .int .i64 A ∧ v = .int .i64 b ∧ A ≤ n ∧ A + 2 * bs ≤ b ∧ b ≤ A + 2 * bs ∧ Hid (∃ q, A = q * (2 * bs)) ∧ Hid (Level (ltM cf) bs n A e) ∧ Hid (SortM w0 B g cap 41 e W) ∧ Hid (e.size = n) ∧ Hid (PermIn 0 n d e)) (fun _ v _ => n + 2 * bs - (intOf v).toNat)
     case atStart => exact ⟨0, 2 * bs, e, rfl, congrArg (Value.int .i64) (by omega), Nat.zero_le _, by omega, by omega, Lib.hid ⟨0, by omega⟩, Lib.hid (Level.start (by omega) hbl.out), he, hz, hp⟩
     case round =>
      clear hbl he hz hp
      obtain ⟨A, b, e, rfl, rfl, hAn2, hb3, hb4, hq, hf, he, hz, hp⟩ := hrel
      have HB := Lib.hid (show b = A + 2 * bs by omega)
      by_cases hlt3 : b ≤ n
      ·obtain ⟨M, hM⟩ : ∃ M, M = A + bs := ⟨_, rfl⟩
       have hM1 : A + bs ≤ M := by omega
       have hM2 : M ≤ A + bs := by omega
       have HM := Lib.hid hM
       clear hM
       have HR := Lib.hid (levelL_runs hq.out hf.out)
       have HC := Lib.hid (HY.out e wr A M b he.out hz.out (by omega) (by omega) hlt3 (srt_sub HR.out.1 (Nat.le_refl _) (by omega)) (by have := HR.out.2; rw [← HM.out] at this; exact srt_sub this (Nat.le_refl _) (by omega)))
       have qM : (A : Int) + (bs : Int) = (M : Int) := by omega
       go_wp2_with (go_at_call 93; refine HC.out.mono ?_; rintro r w1 ⟨rfl, d1, hs1, hp1, hso1⟩; replace hs1 := Lib.hid hs1; replace hp1 := Lib.hid hp1; replace hso1 := Lib.hid hso1)
       go_roundw
       case rel =>
        have HF := levelL_step (by omega) hq.out HB.out hf.out hlt3 hp1.out hso1.out
        exact ⟨b, b + 2 * bs, d1, rfl, congrArg (Value.int .i64) (by omega), hlt3, Nat.le_refl _, Nat.le_refl _, Lib.hid HF.2, Lib.hid HF.1, hs1, Lib.hid (hp1.out.1.trans hz.out), Lib.hid (permIn_trans _ _ _ 0 n hp.out (permIn_mono _ _ _ _ _ _ (Nat.zero_le _) hlt3 (by rw [hz.out]; exact Nat.le_refl _) hp1.out))⟩
       case measure => simp [intOf]; omega
      ·obtain ⟨M, hM⟩ : ∃ M, M = A + bs := ⟨_, rfl⟩
       have hM1 : A + bs ≤ M := by omega
       have hM2 : M ≤ A + bs := by omega
       have HM := Lib.hid hM
       clear hM
       have HR := Lib.hid (levelL_runs hq.out hf.out)
       have qM : (A : Int) + (bs : Int) = (M : Int) := by omega
       by_cases hlt4 : M < n
       ·have HC := Lib.hid (HY.out e wr A M n he.out hz.out (by omega) hlt4 (Nat.le_refl _) (srt_sub HR.out.1 (Nat.le_refl _) (by omega)) (by have := HR.out.2; rw [← HM.out] at this; exact srt_sub this (Nat.le_refl _) (by omega)))
        go_wp2_with (go_at_call 93; refine HC.out.mono ?_; rintro r w1 ⟨rfl, d1, hs1, hp1, hso1⟩; replace hs1 := Lib.hid hs1; replace hp1 := Lib.hid hp1; replace hso1 := Lib.hid hso1)
        go_roundw
        case rel =>
         exact ⟨bs * 2, d1, _, _, congrArg (Value.int .i64) (by omega), rfl, rfl, by omega, by omega, Lib.hid (levelL_last hq.out hf.out (by omega) hAn2 hp1.out hso1.out), hs1, Lib.hid (hp1.out.1.trans hz.out), Lib.hid (permIn_trans _ _ _ 0 n hp.out (permIn_mono _ _ _ _ _ _ (Nat.zero_le _) (Nat.le_refl _) (by rw [hz.out]; exact Nat.le_refl _) hp1.out))⟩
        case measure => simp [intOf]; omega
       ·go_wp2_with fail
        go_roundw
        case rel =>
         exact ⟨bs * 2, e, _, _, congrArg (Value.int .i64) (by omega), rfl, rfl, by omega, by omega, Lib.hid (levelL_last hq.out hf.out (by omega) hAn2 (permIn_refl _ _ _) (srt_sub HR.out.1 (Nat.le_refl _) (by omega))), he, hz, hp⟩
        case measure => simp [intOf]; omega
    ·go_wp2_with fail
     go_end0
     exact ⟨rfl, e, he.out, hp.out, hbl.out.done (by omega)⟩
set_option maxRecDepth 100000 in
theorem sm_sortStable (w0 : World) (B g cap : Nat) (cf : Sh → Sh → Int) (f : Nat) (cb : Array Value) (d : Array Sh) (w : World)
  (eg : ∀ args w, (callFunc f args).run Tryz.prog w = .ok (.enter f args) w) (hcmp : CmpOkM Tryz.prog f cb cf w0 g) (hS : SWO (ltM cf)) (hs : SortM w0 B g cap 41 d w) (hsz : d.size ≤ 8000000) :
  Calls Tryz.prog 51 #[.slice (some ⟨g, 0, none⟩) d.size cap, .func (.func f) #[] cb] w fun e w' => e = .returned (.tuple #[]) ∧ ∃ d', SortM w0 B g cap 41 d' w' ∧ PermIn 0 d.size d d' ∧ SortedIn (ltM cf) 0 d.size d' := by
 have HS := Lib.hid (sm_stable w0 B g cap cf f cb d w eg hcmp hS hs hsz)
 clear hs hcmp hS
 go_enter Tryz.func51, Tryz.ntmps51
 go_wp2_with (go_at_call 79; refine HS.out.mono ?_; rintro r w1 ⟨rfl, HE⟩; replace HE := Lib.hid HE)
 go_end0
 exact ⟨rfl, HE.out⟩
end Go.Proofs.YtnheioehadldmaaGreat

/- THE WALKS over the steps of a node. -/
namespace Go.Proofs.YtnheioehadldmaaGreat
open Go.RowKit Go.Sort
theorem permIn_wholeM {α : Type} [Inhabited α] {d d' : Array α} (h : PermIn 0 d.size d d') : d'.toList.Perm d.toList := by
 have h1 := h.2.2
 have h2 : d'.extract 0 d.size = d' := by rw [← h.1]; exact Array.extract_size
 rw [h2, Array.extract_size] at h1
 exact h1
theorem swo_ofM {k : Sh → Sh → Int} (ha : ∀ x y, k y x = - k x y) (ht : ∀ x y z, k x y ≤ 0 → k y z ≤ 0 → k x z ≤ 0) : SWO (ltM k) := by
 have hlt : ∀ {x y}, ltM k x y = true ↔ k x y < 0 := fun {x y} => by unfold ltM; exact decide_eq_true_iff
 have hle : ∀ {x y}, ltM k x y = false ↔ k y x ≤ 0 := fun {x y} => by
  unfold ltM; rw [decide_eq_false_iff_not]; have := ha x y; omega
 refine ⟨fun x => ?_, fun x y z h1 h2 => ?_, fun x y z h1 h2 => ?_⟩
 ·rw [hle]; have := ha x x; omega
 ·rw [hlt] at *
  have := ht x y z (by omega) (by omega)
  have h5 := ha x z
  by_cases h6 : k x z = 0
  ·have h7 := ht z x y (by omega) (by omega)
   have h8 := ha y z
   omega
  ·omega
 ·rw [hle] at *
  exact ht z y x h2 h1
set_option maxRecDepth 100000 in
set_option maxHeartbeats 800000 in
theorem sm_none (A : Option Addr) (c : Nat) (fv : Value) (w : World) : Calls Tryz.prog 92 #[.slice A 0 c, .int .i64 0, .int .i64 0, fv] w fun e w' => e = .returned (.tuple #[]) ∧ w = w' := by
 go_enter Tryz.func92, Tryz.ntmps92
 go_wp2
 go_loopw [8] (fun u W => u = .int .i64 1 ∧ W = w) (fun _ _ => 0)
 case atStart => exact ⟨rfl, rfl⟩
 case round =>
  obtain ⟨rfl, rfl⟩ := hrel
  go_wp2
  go_end0
  exact ⟨rfl, rfl⟩
set_option maxRecDepth 100000 in
set_option maxHeartbeats 800000 in
theorem sm_stable0 (A : Option Addr) (c : Nat) (fv : Value) (w : World) : Calls Tryz.prog 79 #[.slice A 0 c, .int .i64 0, fv] w fun e w' => e = .returned (.tuple #[]) ∧ w = w' := by
 go_enter Tryz.func79, Tryz.ntmps79
 go_wp2_with fail
 go_loopw [7, 8] (fun u v W => u = .int .i64 0 ∧ v = .int .i64 20 ∧ W = w) (fun _ _ _ => 0)
 case atStart => exact ⟨rfl, rfl, rfl⟩
 case round =>
  obtain ⟨rfl, rfl, rfl⟩ := hrel
  go_wp2_with (go_at_call 92; refine (sm_none _ _ _ _).mono ?_; rintro e w' ⟨rfl, rfl⟩)
  go_loopw [6] (fun u W => u = .int .i64 20 ∧ W = wr) (fun _ _ => 0)
  case atStart => exact ⟨rfl, rfl⟩
  case round =>
   obtain ⟨rfl, rfl⟩ := hrel
   go_wp2
   go_end0
   exact ⟨rfl, rfl⟩
set_option maxRecDepth 100000 in
theorem sm_sort0 (A : Option Addr) (c : Nat) (fv : Value) (w : World) : Calls Tryz.prog 51 #[.slice A 0 c, fv] w fun e w' => e = .returned (.tuple #[]) ∧ w = w' := by
 go_enter Tryz.func51, Tryz.ntmps51
 go_wp2_with (go_at_call 79; refine (sm_stable0 _ _ _ _).mono ?_; rintro e w' ⟨rfl, rfl⟩)
 go_end0
 exact ⟨rfl, rfl⟩
/- plain -/
def cmpHop (a b : Hop) : Int := thenC (Lib.compareInt a.2 b.2) (Lib.compareInt a.1 b.1)
theorem TotC.hop : TotC cmpHop := (TotC.lex TotC.int TotC.int).pull (fun h : Hop => (h.2, h.1)) (fun _ _ h => by obtain ⟨h1, h2⟩ := Prod.mk.inj h; exact Prod.ext h2 h1)
/-- the steps of a node, in order -/
def stepsL (g : GraphG) (types : List ByteArray) (dir n : Int) : List Hop := sortO cmpHop (hopsE g types dir n)
theorem stepsL_perm (g : GraphG) (types : List ByteArray) (dir n : Int) : (stepsL g types dir n).Perm (hopsE g types dir n) := sortO_perm TotC.hop _
theorem stepsL_len (g : GraphG) (types : List ByteArray) (dir n : Int) : (stepsL g types dir n).length ≤ g.edges.length := by
 rw [(stepsL_perm g types dir n).length_eq]; exact List.length_filterMap_le _ _
def adjOf (n : Int) (h : Hop) : Sh := ⟨n, h.2, h.1⟩
def stC (a b : Sh) : Int := thenC (Lib.compareInt a.n b.n) (Lib.compareInt a.d b.d)
theorem stC_anti (x y : Sh) : stC y x = - stC x y := TotC.hop.anti (x.d, x.n) (y.d, y.n)
theorem stC_trans (x y z : Sh) (h : stC x y ≤ 0) (k : stC y z ≤ 0) : stC x z ≤ 0 := TotC.hop.trans (x.d, x.n) (y.d, y.n) (z.d, z.n) h k
theorem stC_orL (a b : Sh) : orL [Lib.compareInt a.n b.n, Lib.compareInt a.d b.d] = stC a b := by
 show thenC _ (thenC _ 0) = thenC _ _
 unfold thenC; split <;> (try split) <;> omega
theorem adj_sorted {n : Int} {H : List Hop} {d' : Array Sh} (hp : d'.toList.Perm (H.map (adjOf n))) (hs : d'.toList.Pairwise (fun x y => stC x y ≤ 0)) : d'.toList = (sortO cmpHop H).map (adjOf n) := by
 have h1 : d'.toList = (d'.toList.map (fun s : Sh => ((s.d, s.n) : Hop))).map (adjOf n) := by
  rw [List.map_map]
  have : ∀ s ∈ d'.toList, s.id = n := fun s hs => by
   obtain ⟨h, -, rfl⟩ := List.mem_map.1 (hp.mem_iff.1 hs); rfl
  calc d'.toList = d'.toList.map id := (List.map_id _).symm
   _ = _ := List.map_congr_left (fun s hs => by
    have := this s hs
    cases s; subst this; rfl)
 rw [h1]
 congr 1
 refine sortO_eq TotC.hop ?_ (List.pairwise_map.2 hs)
 have h2 := hp.map (fun s : Sh => ((s.d, s.n) : Hop))
 rw [List.map_map] at h2
 exact h2.trans (by rw [show ((fun s : Sh => ((s.d, s.n) : Hop)) ∘ adjOf n) = id from rfl, List.map_id])
theorem sorted_riseA {d : Array Sh} (h : SortedIn (ltM stC) 0 d.size d) : d.toList.Pairwise (fun x y => stC x y ≤ 0) := by
 rw [List.pairwise_iff_getElem]
 intro i j hi hj hij
 rw [Array.length_toList] at hi hj
 have := h i j (Nat.zero_le _) hij hj
 rw [getElem!_pos d i hi, getElem!_pos d j hj] at this
 unfold ltM at this
 have h1 := of_decide_eq_false this
 rw [Array.getElem_toList, Array.getElem_toList]
 have h2 := stC_anti d[i] d[j]
 omega
set_option maxRecDepth 100000 in
set_option maxHeartbeats 800000 in
theorem gr_Steps1 (a b : Sh) (w : World) :
  Calls Tryz.prog 52 #[.agg #[.int .i64 a.id, .int .i64 a.n, .int .i64 a.d], .agg #[.int .i64 b.id, .int .i64 b.n, .int .i64 b.d]] w fun e w' => e = .returned (.int .i64 (stC a b)) ∧ Ext w w' := by
 obtain ⟨q, w2, hq, hw2, hc, hx⟩ : ∃ (q : Nat) (w2 : World), q = w.heap.size ∧ w2 = (w.alloc (.cells #[.int .i64 a.id, .int .i64 a.n, .int .i64 a.d] 41)).alloc (.cells #[.int .i64 b.id, .int .i64 b.n, .int .i64 b.d] 41) ∧ (w2.cell? ⟨q, 0, none⟩ = some (.int .i64 a.id) ∧ w2.cell? ⟨q, 1, none⟩ = some (.int .i64 a.n) ∧ w2.cell? ⟨q, 2, none⟩ = some (.int .i64 a.d) ∧ w2.cell? ⟨q + 1, 0, none⟩ = some (.int .i64 b.id) ∧ w2.cell? ⟨q + 1, 1, none⟩ = some (.int .i64 b.n) ∧ w2.cell? ⟨q + 1, 2, none⟩ = some (.int .i64 b.d)) ∧ Ext w w2 :=
  ⟨_, _, rfl, rfl, ⟨by go_simp, by go_simp, by go_simp, by go_simp, by go_simp, by go_simp⟩, (by solve_by_elim [X0, X1, X2, X3])⟩
 have HW := Lib.hid hw2
 have HG := Lib.hid hq
 have HT := Lib.hid (stC_orL a b)
 have MK := Lib.hid (fun V (e : Ext w2 V) => (⟨e.cell hc.1, e.cell hc.2.1, e.cell hc.2.2.1, e.cell hc.2.2.2.1, e.cell hc.2.2.2.2.1, e.cell hc.2.2.2.2.2⟩ : V.cell? ⟨q, 0, none⟩ = some (.int .i64 a.id) ∧ V.cell? ⟨q, 1, none⟩ = some (.int .i64 a.n) ∧ V.cell? ⟨q, 2, none⟩ = some (.int .i64 a.d) ∧ V.cell? ⟨q + 1, 0, none⟩ = some (.int .i64 b.id) ∧ V.cell? ⟨q + 1, 1, none⟩ = some (.int .i64 b.n) ∧ V.cell? ⟨q + 1, 2, none⟩ = some (.int .i64 b.d)))
 clear hw2 hq hc
 generalize stC a b = tc at *
 go_enter Tryz.func52, Tryz.ntmps52
 go_upto_region 1 with (fail)
 rw [← HW.out, ← HG.out]
 clear HW HG
 refine wp_region_held_drew (S := (fun V => V.cell? ⟨q, 0, none⟩ = some (.int .i64 a.id) ∧ V.cell? ⟨q, 1, none⟩ = some (.int .i64 a.n) ∧ V.cell? ⟨q, 2, none⟩ = some (.int .i64 a.d) ∧ V.cell? ⟨q + 1, 0, none⟩ = some (.int .i64 b.id) ∧ V.cell? ⟨q + 1, 1, none⟩ = some (.int .i64 b.n) ∧ V.cell? ⟨q + 1, 2, none⟩ = some (.int .i64 b.d))) (by kernel_rfl) ?hs1 (fun hHeld => ?go1)
 case hs1 => (exact MK.out _ (by solve_by_elim [X0, X1, X2, X3]))
 refine TK 0 (v := ?v2) hHeld ?hy2 ?_
 case hy2 => (intro w _; go_simp <;> rfl)
 (try simp only [PU])
 refine TK 1 (v := ?v3) hHeld ?hy3 ?_
 case hy3 => (intro w hSw; (try dsimp only at hSw); go_simp <;> first | with_reducible rfl | rw [if_neg (by omega)] | rw [if_pos (by omega)])
 (try simp only [PU])
 refine TK 2 (v := ?v4) hHeld ?hy4 ?_
 case hy4 => (intro w _; go_simp <;> rfl)
 (try simp only [PU])
 refine TK 3 (v := ?v5) hHeld ?hy5 ?_
 case hy5 => (intro w hSw; (try dsimp only at hSw); go_simp <;> first | with_reducible rfl | rw [if_neg (by omega)] | rw [if_pos (by omega)])
 (try simp only [PU])
 refine TK 5 (v := ?v6) hHeld ?hy6 ?_
 case hy6 => (intro w _; go_simp <;> rfl)
 (try simp only [PU])
 refine TK 6 (v := ?v7) hHeld ?hy7 ?_
 case hy7 => (intro w hSw; (try dsimp only at hSw); go_simp <;> first | with_reducible rfl | rw [if_neg (by omega)] | rw [if_pos (by omega)])
 (try simp only [PU])
 refine TK 7 (v := ?v8) hHeld ?hy8 ?_
 case hy8 => (intro w _; go_simp <;> rfl)
 (try simp only [PU])
 refine TK 8 (v := ?v9) hHeld ?hy9 ?_
 case hy9 => (intro w hSw; (try dsimp only at hSw); go_simp <;> first | with_reducible rfl | rw [if_neg (by omega)] | rw [if_pos (by omega)])
 (try simp only [PU])
 refine wpAnyH_ready (rs := [4]) (by kernel_rfl) (by simp) ?_
 refine AllReadyH.cons (o := ⟨_, _, _, _, _, _⟩) rfl (fun K hK => ?step10x0) ?more10x0
 case more10x0 => exact AllReadyH.nil
 go_simp
 (refine (c_cmp_int _ _ _).mono ?_; rintro e w3 ⟨rfl, rfl⟩)
 refine hK.out _ _ ?hS10x0 (fun H10 => ?_)
 case hS10x0 => first | (exact MK.out _ (by solve_by_elim [X0, X1, X2, X3])) | ((try dsimp only); (exact MK.out _ (by solve_by_elim [X0, X1, X2, X3])))
 clear hK K
 clear hHeld
 (try simp only [PU])
 refine wpAnyH_ready (rs := [9]) (by kernel_rfl) (by simp) ?_
 refine AllReadyH.cons (o := ⟨_, _, _, _, _, _⟩) rfl (fun K hK => ?step11x0) ?more11x0
 case more11x0 => exact AllReadyH.nil
 go_simp
 (refine (c_cmp_int _ _ _).mono ?_; rintro e w4 ⟨rfl, rfl⟩)
 refine hK.out _ _ ?hS11x0 (fun H11 => ?_)
 case hS11x0 => first | (exact MK.out _ (by solve_by_elim [X0, X1, X2, X3])) | ((try dsimp only); (exact MK.out _ (by solve_by_elim [X0, X1, X2, X3])))
 clear hK K
 clear H10
 (try simp only [PU])
 refine wpAnyH_ready (rs := [10]) (by kernel_rfl) (by simp) ?_
 refine AllReadyH.cons (o := ⟨_, _, _, _, _, _⟩) rfl (fun K hK => ?step12x0) ?more12x0
 case more12x0 => exact AllReadyH.nil
 go_simp
 refine hK.out _ _ ?hS12x0 (fun H12 => ?_)
 case hS12x0 => first | (exact MK.out _ (by solve_by_elim [X0, X1, X2, X3])) | ((try dsimp only); (exact MK.out _ (by solve_by_elim [X0, X1, X2, X3])))
 clear hK K
 clear H11
 (try simp only [PU])
 refine wpAnyH_ready (rs := [11]) (by kernel_rfl) (by simp) ?_
 refine AllReadyH.cons (o := ⟨_, _, _, _, _, _⟩) rfl (fun K hK => ?step13x0) ?more13x0
 case more13x0 => exact AllReadyH.nil
 go_simp
 (refine Calls.mono (c_or_int _ [Lib.compareInt a.n b.n, Lib.compareInt a.d b.d] _ (by simp) ?hcs) ?_; (case hcs => (intro j hj; have hj6 : j = 0 ∨ j = 1 := (by simp at hj; omega); rcases hj6 with rfl | rfl <;> (go_simp; done))); rintro e w5 ⟨rfl, rfl⟩)
 refine hK.out _ _ ?hS13x0 (fun H13 => ?_)
 case hS13x0 => first | (exact MK.out _ (by solve_by_elim [X0, X1, X2, X3])) | ((try dsimp only); (exact MK.out _ (by solve_by_elim [X0, X1, X2, X3])))
 clear hK K
 clear H12
 (try simp only [PU])
 refine TK 12 (v := ?v14) H13 ?hy14 ?_
 case hy14 => (intro w _; go_simp <;> first | with_reducible rfl | rw [if_neg (by omega)] | rw [if_pos (by omega)])
 (try simp only [PU])
 refine wpAnyH_done (by kernel_rfl) ?_ _
 clear H13
 go_wp2_with fail
 go_ret
 exact ⟨by first | rfl | (rw [← HT.out]; rfl) | rw [HT.out], hx.trans (by solve_by_elim [X0, X1, X2, X3])⟩
theorem eg_Steps1 (args : Array Value) (w : World) : (callFunc 52 args).run Tryz.prog w = .ok (.enter 52 args) w :=
 run_enter (c := Tryz.f52.body.get!) Tryz.func52 (by kernel_rfl) (by kernel_rfl) args w
theorem sort_adj (w : World) (B g cap n : Nat) (id : Int) (H : List Hop) (hn : n = H.length) (hsz : H.length ≤ 8000000) (hown : w.ownsRow B 41 3 (.slice (some ⟨g, 0, none⟩) n cap) n ((H.map (adjOf id)).flatMap Sh.cells)) :
  Calls Tryz.prog 51 #[.slice (some ⟨g, 0, none⟩) n cap, .func (.func 52) #[] #[]] w fun e w' => e = .returned (.tuple #[]) ∧ w.grownBy w' (some g) ∧ w'.ownsRow B 41 3 (.slice (some ⟨g, 0, none⟩) n cap) n (((sortO cmpHop H).map (adjOf id)).flatMap Sh.cells) := by
 have hsz2 : (H.map (adjOf id)).toArray.size = n := by rw [hn]; simp
 have h := sm_sortStable w B g cap stC 52 #[] (H.map (adjOf id)).toArray w eg_Steps1 (fun W _ x y => gr_Steps1 x y W) (swo_ofM stC_anti stC_trans) (SortM.start (by rw [hsz2]; exact hown)) (by rw [hsz2, hn]; exact hsz)
 rw [hsz2] at h
 refine h.mono ?_
 rintro e w' ⟨rfl, d', hs, hp, hso⟩
 have hz : d'.size = n := hp.1.trans hsz2
 rw [← hsz2] at hp
 have h3 := adj_sorted (n := id) (by have := permIn_wholeM hp; simpa using this) (sorted_riseA (by rw [hz]; exact hso))
 refine ⟨rfl, hs.gr, ?_⟩
 have := hs.own
 rw [hz, h3] at this
 exact this
/- the walk -/
theorem box_edgeX (w : World) (x : EdgeG) (B : Option Addr) (d : Nat) (t : TypeId) : ∃ (q : Nat) (w1 : World), q = w.heap.size ∧ w1 = w.alloc (.cells #[.int .i64 x.id, .int .i64 x.frm, .int .i64 x.to_, .string x.typ, .slice B x.props.length d] t) ∧ (w1.cell? ⟨q, 0, none⟩ = some (.int .i64 x.id) ∧ w1.cell? ⟨q, 1, none⟩ = some (.int .i64 x.frm) ∧ w1.cell? ⟨q, 2, none⟩ = some (.int .i64 x.to_) ∧ w1.cell? ⟨q, 3, none⟩ = some (.string x.typ) ∧ w1.cell? ⟨q, 4, none⟩ = some (.slice B x.props.length d)) ∧ Ext w w1 :=
 ⟨_, _, rfl, rfl, ⟨by go_simp, by go_simp, by go_simp, by go_simp, by go_simp⟩, (Ext.refl _).alloc _⟩
def stAcc (g : GraphG) (types : List ByteArray) (dir n : Int) (k : Nat) : List Hop := (g.edges.take k).filterMap (hopE types dir n)
theorem stAcc_snoc (g : GraphG) (types : List ByteArray) (dir n : Int) (k : Nat) (h : k < g.edges.length) : stAcc g types dir n (k + 1) = stAcc g types dir n k ++ (match toE types dir n g.edges[k]! with
 | some t => [(g.edges[k]!.id, t)]
 | none => []) := by
 unfold stAcc
 rw [List.take_succ_eq_append_getElem h, List.filterMap_append, getElem!_pos g.edges k h]
 congr 1
 show [g.edges[k]].filterMap (hopE types dir n) = _
 rw [List.filterMap_cons, List.filterMap_nil]
 unfold hopE
 cases toE types dir n g.edges[k] <;> rfl
theorem stAcc_cells (n : Int) (H : List Hop) (e t : Int) : ((H ++ [(e, t)]).map (adjOf n)).flatMap Sh.cells = (H.map (adjOf n)).flatMap Sh.cells ++ [.int .i64 n, .int .i64 t, .int .i64 e] := by
 rw [List.map_append, List.flatMap_append]; rfl
set_option maxRecDepth 100000 in
set_option maxHeartbeats 6400000 in
theorem gr_Steps (g : GraphG) (types : List ByteArray) (n dir : Int) (ok ok' : Nat → Prop) (A B T : Option Addr) (c d e : Nat) (w : World) (hg : Edges w ok B g.edges) (ht : Strs w ok' T types) (hl : g.edges.length ≤ 8000000) :
  Calls Tryz.prog 22 #[.agg #[.slice A g.nodes.length c, .slice B g.edges.length d, .int .i64 g.nn, .int .i64 g.ne], .int .i64 n, .slice T types.length e, .int .i64 dir] w fun e' w' => ∃ A' c', e' = .returned (.slice A' (stepsL g types dir n).length c') ∧ (stepsL g types dir n).length ≤ c' ∧ Shares w' (fun b => w.heap.size ≤ b) A' ((stepsL g types dir n).map (adjOf n)) ∧ Ext w w' := by
 obtain ⟨q, w1, hq, hw1, g0, g1, g2, g3, hx1⟩ := box_graph w A B c d g 25
 have HW1 := Lib.hid hw1
 have HG := Lib.hid hq
 have HE := Lib.hid (hg.ext hx1)
 have HS0 := Lib.hid (fun W => World.ownsRow_nil W w1.heap.size 41 3)
 have HSN := Lib.hid (stAcc_snoc g types dir n)
 have HT := Lib.hid (fun x W B' m' d' (h : Ext w1 W) => gr_HasType types x ok' T B' e m' d' W (ht.ext (hx1.trans h)))
 have HLA := Lib.hid (fun k => (Nat.le_trans (List.length_filterMap_le _ _) (List.length_take_le _ _) : (stAcc g types dir n k).length ≤ k))
 have HAL := Lib.hid (by unfold stAcc hopsE; rw [List.take_length] : stAcc g types dir n g.edges.length = hopsE g types dir n)
 have HLE := Lib.hid hx1.le
 obtain ⟨R, hR⟩ : ∃ R, R = stepsL g types dir n := ⟨_, rfl⟩
 rw [← hR]
 have HR := Lib.hid hR
 clear hw1 hq hg ht hR
 go_enter Tryz.func22, Tryz.ntmps22
 go_upto_region 1 with (fail)
 rw [← HW1.out, ← HG.out]
 clear HW1 HG
 go_wp2_with fail
 go_loopw [9, 15] (fun v u W => ∃ k : Nat, u = .int .i64 k ∧ k ≤ g.edges.length ∧ Hid (W.ownsRow w1.heap.size 41 3 v (stAcc g types dir n k).length (((stAcc g types dir n k).map (adjOf n)).flatMap Sh.cells)) ∧ Hid (Ext w1 W)) (fun _ u _ => g.edges.length - (intOf u).toNat)
 case atStart => exact ⟨0, rfl, Nat.zero_le _, Lib.hid (HS0.out _), Lib.hid (Ext.refl _)⟩
 case round =>
  clear HS0
  obtain ⟨k, rfl, hk, HO, HX⟩ := hrel
  by_cases hlt : k < g.edges.length
  ·obtain ⟨b, o, rfl, hc⟩ := HE.out.at_ hlt
   obtain ⟨-, d0, d1, d2, d3, B', d', d4, -, -⟩ := hc k hlt
   replace d0 := HX.out.cell d0
   replace d1 := HX.out.cell d1
   replace d2 := HX.out.cell d2
   replace d3 := HX.out.cell d3
   replace d4 := HX.out.cell d4
   have HS := Lib.hid (HSN.out k hlt)
   have HC := Lib.hid (HT.out g.edges[k]!)
   have hkb : (stAcc g types dir n k).length + 1 ≤ 8388608 := by have := HLA.out k; omega
   clear hc HSN HT HE HLA HAL HR
   obtain ⟨H0, hH0⟩ : ∃ H0, H0 = stAcc g types dir n k := ⟨_, rfl⟩
   obtain ⟨H1, hH1⟩ : ∃ H1, H1 = stAcc g types dir n (k + 1) := ⟨_, rfl⟩
   rw [← hH0] at HO hkb HS
   rw [← hH1] at HS
   have HQ1 := Lib.hid hH1
   clear hH0 hH1
   generalize g.edges[k]! = x at *
   obtain ⟨y, w2, hy, hw2, ⟨a0, a1, a2, a3, a4⟩, hx2⟩ := box_edgeX wr x B' d' 58
   have HW2 := Lib.hid hw2
   have HY := Lib.hid hy
   have HX2 := Lib.hid (HX.out.trans hx2)
   clear hw2 hy
   go_upto_region 5 with (fail)
   rw [← HW2.out, ← HY.out]
   clear HW2 HY d0 d1 d2 d3 d4
   obtain ⟨r, hr⟩ : ∃ r, r = toE types dir n x := ⟨_, rfl⟩
   rw [← hr] at HS
   cases htb : typB types x.typ
   ·rw [htb] at HC
    have hr0 : r = none := by rw [hr]; unfold toE; rw [htb, if_neg Bool.false_ne_true]
    subst hr0
    have HS' := Lib.hid (HS.out.trans (List.append_nil _))
    clear hr htb HS
    go_wp2_with (go_at_call 50; ((with_reducible refine (HC.out _ _ _ _ HX2.out).mono ?_); rintro e w3 ⟨rfl, hx3⟩))
    have HO3 := Lib.hid (own_ext HO.out (hx2.trans hx3))
    have HX3 := Lib.hid (HX2.out.trans hx3)
    clear HO HX
    go_roundw
    case rel => exact ⟨k + 1, by go_num, by omega, by rw [← HQ1.out, HS'.out]; exact HO3, HX3⟩
    case measure => simp [intOf]; omega
   ·rw [htb] at HC
    go_upto_region 6 with (go_at_call 50; ((with_reducible refine (HC.out _ _ _ _ HX2.out).mono ?_); rintro e w3 ⟨rfl, hx3⟩; replace a0 := hx3.cell a0; replace a1 := hx3.cell a1; replace a2 := hx3.cell a2))
    have HO3 := Lib.hid (own_ext HO.out (hx2.trans hx3))
    have HX3 := Lib.hid (HX2.out.trans hx3)
    clear a3 a4 HO HX HX2 hx2 hx3 HC
    have hdd : dir = 1 ∨ dir = 2 ∨ dir = 3 ∨ ((dir == 1) = false ∧ (dir == 2) = false ∧ (dir == 3) = false) := by simp only [beq_eq_false_iff_ne]; omega
    rcases hdd with rfl | rfl | rfl | ⟨h1, h2, h3⟩
    ·by_cases hf : x.frm = n
     ·have hr0 : r = some x.to_ := by rw [hr]; unfold toE; rw [htb]; simp [hf]
      have hf' : (x.frm == n) = true := by simpa using hf
      have HS' := Lib.hid (HS.out.trans (by rw [hr0] : _ = H0 ++ [(x.id, x.to_)]))
      clear hr htb HS hr0
      go_wp2_with (at_builtin; refine own_push El_adj rfl (.tmp 36) (.tmp 43) rfl w1 w3 _ _ _ [.int .i64 n, .int .i64 x.to_, .int .i64 x.id] rfl HO3.out HX3.out rfl rfl rfl (by simp [Value.oneCell']) hkb (by decide) ?_; intro v2 w9 hown2 hE9)
      have HO9 := Lib.hid (show w9.ownsRow w1.heap.size 41 3 v2 H1.length ((H1.map (adjOf n)).flatMap Sh.cells) by rw [HS'.out, stAcc_cells, List.length_append]; exact hown2)
      have HE9 := Lib.hid hE9
      clear hown2 hE9 HO3 HX3 HS'
      go_roundw
      case rel => exact ⟨k + 1, by go_num, by omega, by rw [← HQ1.out]; exact HO9, HE9⟩
      case measure => simp [intOf]; omega
     ·have hr0 : r = none := by rw [hr]; unfold toE; rw [htb]; simp [hf]
      have hf' : (x.frm == n) = false := by simpa using hf
      have HS' := Lib.hid (HS.out.trans (by rw [hr0]; exact List.append_nil _ : _ = H0))
      clear hr htb HS hr0
      go_wp2_with fail
      go_roundw
      case rel => exact ⟨k + 1, by go_num, by omega, by rw [← HQ1.out, HS'.out]; exact HO3, HX3⟩
      case measure => simp [intOf]; omega
    ·by_cases hf : x.to_ = n
     ·have hr0 : r = some x.frm := by rw [hr]; unfold toE; rw [htb]; simp [hf]
      have hf' : (x.to_ == n) = true := by simpa using hf
      have HS' := Lib.hid (HS.out.trans (by rw [hr0] : _ = H0 ++ [(x.id, x.frm)]))
      clear hr htb HS hr0
      go_wp2_with (at_builtin; refine own_push El_adj rfl (.tmp 58) (.tmp 65) rfl w1 w3 _ _ _ [.int .i64 n, .int .i64 x.frm, .int .i64 x.id] rfl HO3.out HX3.out rfl rfl rfl (by simp [Value.oneCell']) hkb (by decide) ?_; intro v2 w9 hown2 hE9)
      have HO9 := Lib.hid (show w9.ownsRow w1.heap.size 41 3 v2 H1.length ((H1.map (adjOf n)).flatMap Sh.cells) by rw [HS'.out, stAcc_cells, List.length_append]; exact hown2)
      have HE9 := Lib.hid hE9
      clear hown2 hE9 HO3 HX3 HS'
      go_roundw
      case rel => exact ⟨k + 1, by go_num, by omega, by rw [← HQ1.out]; exact HO9, HE9⟩
      case measure => simp [intOf]; omega
     ·have hr0 : r = none := by rw [hr]; unfold toE; rw [htb]; simp [hf]
      have hf' : (x.to_ == n) = false := by simpa using hf
      have HS' := Lib.hid (HS.out.trans (by rw [hr0]; exact List.append_nil _ : _ = H0))
      clear hr htb HS hr0
      go_wp2_with fail
      go_roundw
      case rel => exact ⟨k + 1, by go_num, by omega, by rw [← HQ1.out, HS'.out]; exact HO3, HX3⟩
      case measure => simp [intOf]; omega
    ·by_cases hf : x.frm = n
     ·have hr0 : r = some x.to_ := by rw [hr]; unfold toE; rw [htb]; simp [hf]
      have hf' : (x.frm == n) = true := by simpa using hf
      have HS' := Lib.hid (HS.out.trans (by rw [hr0] : _ = H0 ++ [(x.id, x.to_)]))
      clear hr htb HS hr0
      go_wp2_with (at_builtin; refine own_push El_adj rfl (.tmp 36) (.tmp 43) rfl w1 w3 _ _ _ [.int .i64 n, .int .i64 x.to_, .int .i64 x.id] rfl HO3.out HX3.out rfl rfl rfl (by simp [Value.oneCell']) hkb (by decide) ?_; intro v2 w9 hown2 hE9)
      have HO9 := Lib.hid (show w9.ownsRow w1.heap.size 41 3 v2 H1.length ((H1.map (adjOf n)).flatMap Sh.cells) by rw [HS'.out, stAcc_cells, List.length_append]; exact hown2)
      have HE9 := Lib.hid hE9
      clear hown2 hE9 HO3 HX3 HS'
      go_roundw
      case rel => exact ⟨k + 1, by go_num, by omega, by rw [← HQ1.out]; exact HO9, HE9⟩
      case measure => simp [intOf]; omega
     ·have hf' : (x.frm == n) = false := by simpa using hf
      by_cases ht : x.to_ = n
      ·have hr0 : r = some x.frm := by rw [hr]; unfold toE; rw [htb]; simp [hf, ht]
       have ht' : (x.to_ == n) = true := by simpa using ht
       have HS' := Lib.hid (HS.out.trans (by rw [hr0] : _ = H0 ++ [(x.id, x.frm)]))
       clear hr htb HS hr0
       go_wp2_with (at_builtin; refine own_push El_adj rfl (.tmp 58) (.tmp 65) rfl w1 w3 _ _ _ [.int .i64 n, .int .i64 x.frm, .int .i64 x.id] rfl HO3.out HX3.out rfl rfl rfl (by simp [Value.oneCell']) hkb (by decide) ?_; intro v2 w9 hown2 hE9)
       have HO9 := Lib.hid (show w9.ownsRow w1.heap.size 41 3 v2 H1.length ((H1.map (adjOf n)).flatMap Sh.cells) by rw [HS'.out, stAcc_cells, List.length_append]; exact hown2)
       have HE9 := Lib.hid hE9
       clear hown2 hE9 HO3 HX3 HS'
       go_roundw
       case rel => exact ⟨k + 1, by go_num, by omega, by rw [← HQ1.out]; exact HO9, HE9⟩
       case measure => simp [intOf]; omega
      ·have hr0 : r = none := by rw [hr]; unfold toE; rw [htb]; simp [hf, ht]
       have ht' : (x.to_ == n) = false := by simpa using ht
       have HS' := Lib.hid (HS.out.trans (by rw [hr0]; exact List.append_nil _ : _ = H0))
       clear hr htb HS hr0
       go_wp2_with fail
       go_roundw
       case rel => exact ⟨k + 1, by go_num, by omega, by rw [← HQ1.out, HS'.out]; exact HO3, HX3⟩
       case measure => simp [intOf]; omega
    ·have hr0 : r = none := by
      rw [beq_eq_false_iff_ne] at h1 h2 h3
      rw [hr]; unfold toE; rw [htb]; simp [h1, h2, h3]
     have HS' := Lib.hid (HS.out.trans (by rw [hr0]; exact List.append_nil _ : _ = H0))
     clear hr htb HS hr0
     go_wp2_with fail
     go_roundw
     case rel => exact ⟨k + 1, by go_num, by omega, by rw [← HQ1.out, HS'.out]; exact HO3, HX3⟩
     case measure => simp [intOf]; omega
  ·have hkk : k = g.edges.length := by omega
   have HO1 := Lib.hid (by have := HO.out; rwa [hkk, HAL.out] at this : wr.ownsRow w1.heap.size 41 3 u9 (hopsE g types dir n).length (((hopsE g types dir n).map (adjOf n)).flatMap Sh.cells))
   have HHL := Lib.hid (by rw [← HAL.out]; exact HLA.out _ : (hopsE g types dir n).length ≤ g.edges.length)
   have HRR := Lib.hid (HR.out.trans (show stepsL g types dir n = sortO cmpHop (hopsE g types dir n) from rfl))
   clear hkk HO HLA HAL HR HSN HT HE
   generalize hopsE g types dir n = H at *
   rcases HO1.out.2 with ⟨rfl, h0⟩ | ⟨g', cap, cur, rfl, hb, hh, -⟩
   ·have hH : H = [] := List.eq_nil_of_length_eq_zero h0
    have hR0 : R = [] := by rw [HRR.out, hH]; rfl
    subst hR0
    clear hH h0 HO1 HRR HHL
    go_wp2_with (go_at_call 51; ((with_reducible refine (sm_sort0 _ _ _ _).mono ?_); rintro e w5 ⟨rfl, rfl⟩))
    go_ret
    exact ⟨none, 0, rfl, Nat.le_refl _, SliceR.nil _ _ _, hx1.trans HX.out⟩
   ·have HSO := Lib.hid (sort_adj wr w1.heap.size g' cap H.length n H rfl (by have := HHL.out; omega) HO1.out)
    have HB := Lib.hid hb
    clear HO1 hb hh
    go_wp2_with (go_at_call 51; ((with_reducible refine (HSO.out).mono ?_); rintro e w5 ⟨rfl, hg5, hO5⟩))
    have hlR : R.length = H.length := by rw [HRR.out]; exact sortO_len TotC.hop _
    obtain ⟨A9, c9, e9, h9, hV9⟩ := shares_of_own (l := R.map (adjOf n)) (by rw [HRR.out]; exact hO5) (by rw [List.length_map, hlR]) (by rw [List.length_map, hlR]; have := HHL.out; omega)
    injection e9 with e1 e2 e3
    subst e1 e3
    rw [List.length_map, hlR] at h9
    go_ret
    exact ⟨_, _, by rw [hlR]; rfl, by rw [hlR]; exact h9, SliceR.mono hV9 (fun b o x _ h => ⟨Nat.le_trans HLE.out h.1, h.2⟩), hx1.trans (HX.out.grown hg5 (fun b hb => by injection hb with hb; have := HB.out; omega))⟩
end Go.Proofs.YtnheioehadldmaaGreat

/- PLAIN: the column of some entries, the column of a graph. -/
namespace Go.Proofs.YtnheioehadldmaaGreat
open Go.RowKit
def noCol : Col := ⟨[], [], [], []⟩
def okS (a : Sh) : Bool := (decide (1 ≤ a.id) && decide (a.id ≤ 1000000)) && (decide (1 ≤ a.n) && decide (a.n ≤ 1000000)) && (decide (1 ≤ a.d) && decide (a.d ≤ 1000000))
theorem okS_iff {a : Sh} : okS a = true ↔ idOk a.id ∧ idOk a.n ∧ idOk a.d := by
 unfold okS idOk; simp [and_assoc]
/-- the column of some entries -/
def ofR (l : List Sh) : Int × Col := if l.all okS = true then (if (l.map Sh.d).Nodup then (0, packC (sortO adjOrd l)) else (7, noCol)) else (1, noCol)
theorem sort_good {l : List Sh} (h : ∀ a ∈ l, idOk a.id ∧ idOk a.n ∧ idOk a.d) (hn : (l.map Sh.d).Nodup) : GoodL (sortO adjOrd l) := by
 have hp := sortO_perm TotC.adj l
 have hN : ((sortO adjOrd l).map Sh.d).Nodup := (hp.map Sh.d).nodup_iff.2 hn
 refine ⟨fun a ha => h a (hp.mem_iff.1 ha), ?_, hN⟩
 have hr := sortO_rise TotC.adj l
 rw [List.pairwise_iff_getElem] at hr ⊢
 intro i j hi hj hij
 have h1 := hr i j hi hj hij
 rcases Int.lt_or_eq_of_le h1 with h2 | h2
 ·exact h2
 ·exfalso
  have h3 := (TotC.adj.zero _ _).1 h2
  have h4 := List.pairwise_iff_getElem.1 hN i j (by simpa using hi) (by simpa using hj) hij
  rw [List.getElem_map, List.getElem_map, h3] at h4
  exact h4 rfl
theorem ofR_valid (l : List Sh) : validP (ofR l).2 := by
 unfold ofR
 split
 ·rename_i h1
  split
  ·rename_i h2
   exact pack_valid (sort_good (fun a ha => okS_iff.1 (List.all_eq_true.1 h1 a ha)) h2)
  ·exact .inl ⟨rfl, rfl, rfl, rfl⟩
 ·exact .inl ⟨rfl, rfl, rfl, rfl⟩
/-- the types that are asked for -/
def typsOf (typ : ByteArray) : List ByteArray := if typ = ByteArray.empty then [] else [typ]
def dirE (dir : Int) (e : EdgeG) : Sh := if dir = 2 then ⟨e.to_, e.frm, e.id⟩ else ⟨e.frm, e.to_, e.id⟩
def entsG (g : GraphG) (types : List ByteArray) (dir : Int) : List Sh := (g.edges.filter (fun e => typB types e.typ)).map (dirE dir)
def rowsG (g : GraphG) (types : List ByteArray) (dir : Int) : List Sh := g.nodes.flatMap (fun n => (stepsL g types dir n.id).map (adjOf n.id))
theorem one_node {γ : Type} {l : List NodeG} (hp : l.Pairwise (fun a b => a.id < b.id)) {x : Int} (hx : ∃ n ∈ l, n.id = x) (c : γ) : l.flatMap (fun n => if n.id = x then [c] else []) = [c] := by
 induction l with
 | nil => obtain ⟨n, hn, -⟩ := hx; cases hn
 | cons m l ih =>
  rw [List.flatMap_cons]
  rw [List.pairwise_cons] at hp
  by_cases e : m.id = x
  ·rw [if_pos e]
   have : l.flatMap (fun n => if n.id = x then [c] else []) = [] := List.flatMap_eq_nil_iff.2 (fun n hn => if_neg (by have := hp.1 n hn; omega))
   rw [this]; rfl
  ·rw [if_neg e, List.nil_append]
   obtain ⟨n, hn, h1⟩ := hx
   rcases List.mem_cons.1 hn with h2 | h2
   ·exact absurd (h2 ▸ h1) e
   ·exact ih hp.2 ⟨n, h2, h1⟩
theorem fm_one {α β : Type} (p : α → Bool) (f : α → β) : ∀ l : List α, l.flatMap (fun e => if p e = true then [f e] else []) = (l.filter p).map f
 | [] => rfl
 | x :: l => by
  rw [List.flatMap_cons, fm_one p f l, List.filter_cons]
  split <;> rfl
theorem fm_filterMap {α β γ : Type} (f : α → Option β) (g : β → γ) : ∀ l : List α, (l.filterMap f).map g = l.flatMap (fun e => match f e with | some b => [g b] | none => [])
 | [] => rfl
 | x :: l => by
  rw [List.flatMap_cons, List.filterMap_cons]
  cases f x with
  | none => exact fm_filterMap f g l
  | some b => rw [List.map_cons, fm_filterMap f g l]; rfl
theorem fm_congr {α β : Type} {f g : α → List β} : ∀ {l : List α}, (∀ x ∈ l, f x = g x) → l.flatMap f = l.flatMap g
 | [], _ => rfl
 | x :: l, h => by rw [List.flatMap_cons, List.flatMap_cons, h x (by simp), fm_congr (fun y hy => h y (by simp [hy]))]
theorem rows_perm {g : GraphG} (hg : GoodG g) (types : List ByteArray) {dir : Int} (hd : dir = 1 ∨ dir = 2) : (rowsG g types dir).Perm (entsG g types dir) := by
 have h1 : (rowsG g types dir).Perm (g.nodes.flatMap (fun n => g.edges.flatMap (fun e => match toE types dir n.id e with | some t => [(⟨n.id, t, e.id⟩ : Sh)] | none => []))) := by
  refine fm_cong (fun n _ => ((stepsL_perm g types dir n.id).map (adjOf n.id)).trans (List.Perm.of_eq ?_))
  unfold hopsE
  rw [fm_filterMap]
  refine fm_congr (fun e _ => ?_)
  unfold hopE
  cases toE types dir n.id e <;> rfl
 refine h1.trans ((fm_swap _ _ _).trans (List.Perm.of_eq ?_))
 unfold entsG
 rw [← fm_one]
 refine fm_congr (fun e he => ?_)
 obtain ⟨n1, n2⟩ := hg.ends e he
 by_cases ht : typB types e.typ = true
 ·rw [if_pos ht]
  rcases hd with hd | hd
  ·subst hd
   have := one_node hg.npw n1 (dirE 1 e)
   rw [← this]
   refine fm_congr (fun n _ => ?_)
   unfold toE
   rw [if_pos ht]
   by_cases e1 : e.frm = n.id
   ·rw [if_pos ⟨.inl rfl, e1⟩, if_pos e1.symm]; show [(⟨n.id, e.to_, e.id⟩ : Sh)] = [dirE 1 e]; rw [← e1]; rfl
   ·rw [if_neg (fun h => e1 h.2), if_neg (fun h => by rcases h.1 with h | h <;> exact absurd h (by decide)), if_neg (fun h => e1 h.symm)]
  ·subst hd
   have := one_node hg.npw n2 (dirE 2 e)
   rw [← this]
   refine fm_congr (fun n _ => ?_)
   unfold toE
   rw [if_pos ht, if_neg (fun h => by rcases h.1 with h | h <;> exact absurd h (by decide))]
   by_cases e1 : e.to_ = n.id
   ·rw [if_pos ⟨.inl rfl, e1⟩, if_pos e1.symm]; show [(⟨n.id, e.frm, e.id⟩ : Sh)] = [dirE 2 e]; rw [← e1]; rfl
   ·rw [if_neg (fun h => e1 h.2), if_neg (fun h => e1 h.symm)]
 ·rw [if_neg ht]
  refine List.flatMap_eq_nil_iff.2 (fun n _ => ?_)
  unfold toE
  rw [if_neg ht]
theorem ord_adj (n : Int) (a b : Hop) : adjOrd (adjOf n a) (adjOf n b) = cmpHop a b := by
 unfold adjOrd cmpHop adjOf
 rw [show Lib.compareInt n n = 0 from TotC.int.refl n, thenC_zero]
theorem ord_less {a b : Sh} (h : a.id < b.id) : adjOrd a b = -1 := by
 unfold adjOrd
 rw [show Lib.compareInt a.id b.id = -1 by unfold Lib.compareInt; split <;> (try split) <;> omega]; rfl
theorem rows_rise {g : GraphG} (hg : GoodG g) (types : List ByteArray) (dir : Int) : (rowsG g types dir).Pairwise (fun a b => adjOrd a b ≤ 0) := by
 unfold rowsG
 rw [List.pairwise_flatMap]
 refine ⟨fun n _ => ?_, hg.npw.imp (fun {m n} h a ha b hb => ?_)⟩
 ·rw [List.pairwise_map]
  exact (sortO_rise TotC.hop _).imp (fun {a b} h => by rw [ord_adj]; exact h)
 ·obtain ⟨x, -, rfl⟩ := List.mem_map.1 ha
  obtain ⟨y, -, rfl⟩ := List.mem_map.1 hb
  rw [ord_less (show (adjOf m.id x).id < (adjOf n.id y).id from h)]; decide
theorem rows_sort {g : GraphG} (hg : GoodG g) (types : List ByteArray) {dir : Int} (hd : dir = 1 ∨ dir = 2) : rowsG g types dir = sortO adjOrd (entsG g types dir) := sortO_eq TotC.adj (rows_perm hg types hd) (rows_rise hg types dir)
end Go.Proofs.YtnheioehadldmaaGreat

/- MAPS THAT A CALL OWNS, element by element, elements of any type: what lies at each key. -/
namespace Go.Proofs.YtnheioehadldmaaGreat
open Go.RowKit Go.ChangeMaps
open Go.Maps (Keyed has IsMap)
/-- block b is a map of at most n entries; g: what lies at each key -/
def MapOf (P : Program) (k : TypeId) (w : World) (b n : Nat) (g : Lit → Option Value) : Prop :=
 ∃ D : DataW Value, w.ownsMap P k (fun v => some (.held v, [])) b n D ∧ IsMap D ∧ ∀ kl, match g kl with
  | none => has D kl = false
  | some v => has D kl = true ∧ ∀ z, D.atKey kl z = .held v
section
variable {P : Program} {k e t : TypeId} {w w' : World} {b n : Nat} {g : Lit → Option Value}
theorem MapOf.made (P : Program) (k : TypeId) (w : World) : MapOf P k (w.alloc (.map #[] 0)) w.heap.size 0 (fun _ => none) :=
 ⟨.map [], World.ownsMap_made w P k _, Maps.isMap_empty, fun _ => rfl⟩
theorem MapOf.lt (h : MapOf P k w b n g) : b < w.heap.size := let ⟨_, h1, _⟩ := h; h1.lt
theorem MapOf.grown {row : Option Nat} (h : MapOf P k w b n g) (hg : w.grownBy w' row) (hne : some b ≠ row) : MapOf P k w' b n g :=
 let ⟨D, h1, h2, h3⟩ := h
 ⟨D, h1.kept hg hne, h2, h3⟩
theorem MapOf.ext (h : MapOf P k w b n g) (x : Ext w w') : MapOf P k w' b n g :=
 h.grown (row := none) ⟨x.os, x.tape, x.output, x.size, fun i hi _ => x.block i hi⟩ (by simp)
theorem MapOf.mono {n' : Nat} (h : MapOf P k w b n g) (hn : n ≤ n') : MapOf P k w b n' g :=
 let ⟨D, h1, h2, h3⟩ := h
 ⟨D, h1.mono hn, h2, h3⟩
theorem MapOf.look (h : MapOf P k w b n g) (K : Keyed P k) (ht : P.underlying t = some (.map k e)) {z : Value} (hz : (zeroValue e).run P w = .ok z w) {key : Value} {kl : Lit} (hkey : keyOf P k key = some kl) :
  (Instr.lookup t (.map (some b)) key false).run P w = .ok ((g kl).getD z) w := by
 obtain ⟨D, h1, h2, h3⟩ := h
 obtain ⟨v, ps, hrun, hR⟩ := h1.lookup K ht hz (zd := .held z) (zp := []) rfl hkey
 rw [hrun]
 have h4 := h3 kl
 injection hR with hR
 rw [Prod.mk.injEq] at hR
 cases hg : g kl with
 | none =>
  rw [hg] at h4
  rw [Maps.atKey_of_not_has h4] at hR
  injection hR.1 with e1
  rw [e1]; rfl
 | some u =>
  rw [hg] at h4
  rw [h4.2] at hR
  injection hR.1 with e1
  rw [e1]; rfl
open Classical in
noncomputable def putM (g : Lit → Option Value) (kl : Lit) (v : Value) : Lit → Option Value := fun x => if x = kl then some v else g x
theorem putM_same (g : Lit → Option Value) (kl : Lit) (v : Value) : putM g kl v kl = some v := by unfold putM; rw [if_pos rfl]
theorem putM_other (g : Lit → Option Value) {kl x : Lit} (v : Value) (h : x ≠ kl) : putM g kl v x = g x := by unfold putM; rw [if_neg h]
theorem MapOf.put (h : MapOf P k w b n g) (K : Keyed P k) (ht : P.underlying t = some (.map k e)) (hn : n < maxLen) {key : Value} {kl : Lit} (hkey : keyOf P k key = some kl) (val : Value) :
  ∃ w', (Instr.mapUpdate t (.map (some b)) key val).run P w = .ok () w' ∧ MapOf P k w' b (n + 1) (putM g kl val) ∧ w.grownBy w' (some b) := by
 obtain ⟨D, h1, h2, h3⟩ := h
 obtain ⟨w', r0, r1, r2⟩ := h1.update K ht hn hkey (val := val) (d := .held val) (ps := []) rfl
 refine ⟨w', r0, ⟨_, r1, h2.put _ _, fun x => ?_⟩, r2⟩
 by_cases hx : x = kl
 ·subst hx
  rw [putM_same]
  exact ⟨Maps.has_put_same h2 (K.key hkey) _, fun z => Maps.atKey_put_same h2 (K.key hkey) _ z⟩
 ·rw [putM_other _ _ hx]
  have h4 := h3 x
  cases hg : g x with
  | none => rw [hg] at h4; exact (Maps.has_put_other hx _).trans h4
  | some u => rw [hg] at h4; exact ⟨(Maps.has_put_other hx _).trans h4.1, fun z => (Maps.atKey_put_other hx _ z).trans (h4.2 z)⟩
end
theorem wpList_put {P : Program} {w : World} {ops : Array Oper} {rest : List Oper} {o : Oper} {a : Act} {Q : Exit → Act → World → Prop} (hg : o.guard = none) (m x v : Operand) (t : TypeId) (hop : o.op = Op.mapUpdate t m x v)
  {k e : TypeId} (K : Keyed P k) (ht : P.underlying t = some (.map k e)) (b n : Nat) (g : Lit → Option Value) (hm : a.eval m = .map (some b)) (hown : MapOf P k w b n g) (hn : n < maxLen) (key val : Value) (kl : Lit) (hx : a.eval x = key) (hv : a.eval v = val) (hkey : keyOf P k key = some kl)
  (hK : ∀ w', MapOf P k w' b (n + 1) (putM g kl val) → w.grownBy w' (some b) → wpList P ops Q rest (a.put o.dst undef) w') : wpList P ops Q (o :: rest) a w := by
 refine wpList_plain hg fun K' hK' => ?_
 obtain ⟨w', hrun, r1, r2⟩ := hown.put K ht hn hkey val
 unfold Oper.wp
 simp [execOp, hop, hm, hx, hv, hrun, Result.andThen]
 exact hK' _ _ (hK w' r1 r2)
end Go.Proofs.YtnheioehadldmaaGreat

/- COLUMNS IN MEMORY; the leaf functions: ids, the order of entries, lists compared. -/
namespace Go.Proofs.YtnheioehadldmaaGreat
open Go.RowKit
def idB (n : Int) : Bool := decide (1 ≤ n) && decide (n ≤ 1000000)
theorem idB_iff {n : Int} : idB n = true ↔ idOk n := by unfold idB idOk; simp
theorem okS_idB (a : Sh) : okS a = (idB a.id && idB a.n && idB a.d) := rfl
/-- a byte in memory -/
def ByteC (w : World) (ok : Nat → Prop) (b o : Nat) (n : Nat) : Prop := ok b ∧ w.cell? ⟨b, o, none⟩ = some (.int .u8 (n : Int))
def Byts (w : World) (ok : Nat → Prop) (A : Option Addr) (l : List Nat) : Prop := SliceR (ByteC w ok) 1 A l
theorem Byts.ext {a w : World} {ok : Nat → Prop} {A : Option Addr} {l : List Nat} (h : Byts a ok A l) (e : Ext a w) : Byts w ok A l := SliceR.mono h (fun _ _ _ _ hx => ⟨hx.1, e.cell hx.2⟩)
/-- a column in memory -/
structure ColAt (w : World) (ok : Nat → Prop) (A B C D : Option Addr) (c : Col) : Prop where
 n : Nums w ok A c.nodes
 f : Nums w ok B c.first
 t : Nums w ok C c.tos
 e : Nums w ok D c.edges
theorem ColAt.ext {a w : World} {ok : Nat → Prop} {A B C D : Option Addr} {c : Col} (h : ColAt a ok A B C D c) (x : Ext a w) : ColAt w ok A B C D c := ⟨h.n.ext x, h.f.ext x, h.t.ext x, h.e.ext x⟩
abbrev agC (c : Col) (A B C D : Option Addr) (k0 k1 k2 k3 : Nat) : Value := .agg #[.slice A c.nodes.length k0, .slice B c.first.length k1, .slice C c.tos.length k2, .slice D c.edges.length k3]
theorem box_col (w : World) (c : Col) (A B C D : Option Addr) (k0 k1 k2 k3 : Nat) (t : TypeId) : ∃ (q : Nat) (w1 : World), q = w.heap.size ∧ w1 = w.alloc (.cells #[.slice A c.nodes.length k0, .slice B c.first.length k1, .slice C c.tos.length k2, .slice D c.edges.length k3] t) ∧ (w1.cell? ⟨q, 0, none⟩ = some (.slice A c.nodes.length k0) ∧ w1.cell? ⟨q, 1, none⟩ = some (.slice B c.first.length k1) ∧ w1.cell? ⟨q, 2, none⟩ = some (.slice C c.tos.length k2) ∧ w1.cell? ⟨q, 3, none⟩ = some (.slice D c.edges.length k3)) ∧ Ext w w1 :=
 ⟨_, _, rfl, rfl, ⟨by go_simp, by go_simp, by go_simp, by go_simp⟩, (Ext.refl _).alloc _⟩
theorem box_adj (w : World) (a : Sh) (t : TypeId) : ∃ (q : Nat) (w1 : World), q = w.heap.size ∧ w1 = w.alloc (.cells #[.int .i64 a.id, .int .i64 a.n, .int .i64 a.d] t) ∧ (w1.cell? ⟨q, 0, none⟩ = some (.int .i64 a.id) ∧ w1.cell? ⟨q, 1, none⟩ = some (.int .i64 a.n) ∧ w1.cell? ⟨q, 2, none⟩ = some (.int .i64 a.d)) ∧ Ext w w1 :=
 ⟨_, _, rfl, rfl, ⟨by go_simp, by go_simp, by go_simp⟩, (Ext.refl _).alloc _⟩
theorem co_id (n : Int) (w : World) : Calls Tryz.prog 39 #[.int .i64 n] w fun e w' => e = .returned (.bool (idB n)) ∧ Ext w w' := by
 unfold idB
 go_enter Tryz.func39, Tryz.ntmps39
 by_cases h : 1 ≤ n
 ·go_wp2_with fail
  go_ret
  exact ⟨by simp [h], (by solve_by_elim [X0, X1, X2, X3])⟩
 ·go_wp2_with fail
  go_ret
  exact ⟨by rw [decide_eq_false (show ¬ 1 ≤ n by omega)]; rfl, (by solve_by_elim [X0, X1, X2, X3])⟩
theorem less_ord (a b : Sh) : decide (adjOrd a b < 0) = if a.id ≠ b.id then decide (a.id < b.id) else if a.n ≠ b.n then decide (a.n < b.n) else decide (a.d < b.d) := by
 have lt : ∀ {x y : Int}, x < y → Lib.compareInt x y = -1 := fun h => by unfold Lib.compareInt; rw [if_pos h]
 have gt : ∀ {x y : Int}, y < x → Lib.compareInt x y = 1 := fun h => by unfold Lib.compareInt; rw [if_neg (by omega), if_pos h]
 have eq : ∀ {x y : Int}, x = y → Lib.compareInt x y = 0 := fun h => by rw [h]; exact TotC.int.refl _
 unfold adjOrd
 rcases Int.lt_trichotomy a.id b.id with h | h | h
 ·rw [if_pos (by omega), lt h, decide_eq_true h]; rfl
 ·rw [if_neg (by omega), eq h]
  rcases Int.lt_trichotomy a.n b.n with k | k | k
  ·rw [if_pos (by omega), lt k, decide_eq_true k]; rfl
  ·rw [if_neg (by omega), eq k]
   rcases Int.lt_trichotomy a.d b.d with j | j | j
   ·rw [lt j, decide_eq_true j]; rfl
   ·rw [eq j, decide_eq_false (show ¬ a.d < b.d by omega)]; rfl
   ·rw [gt j, decide_eq_false (show ¬ a.d < b.d by omega)]; rfl
  ·rw [if_pos (by omega), gt k, decide_eq_false (show ¬ a.n < b.n by omega)]; rfl
 ·rw [if_pos (by omega), gt h, decide_eq_false (show ¬ a.id < b.id by omega)]; rfl
theorem r12_Less (a b : Sh) (w : World) : Calls Tryz.prog 65 #[.agg #[.int .i64 a.id, .int .i64 a.n, .int .i64 a.d], .agg #[.int .i64 b.id, .int .i64 b.n, .int .i64 b.d]] w fun e w' => e = .returned (.bool (decide (adjOrd a b < 0))) ∧ Ext w w' := by
 rw [less_ord]
 go_enter Tryz.func65, Tryz.ntmps65
 by_cases h : a.id = b.id
 ·have h' : (a.id != b.id) = false := by simp [h]
  by_cases k : a.n = b.n
  ·have k' : (a.n != b.n) = false := by simp [k]
   rw [if_neg (by simp [h]), if_neg (by simp [k])]
   clear h k
   go_wp2_with fail
   go_ret
   exact ⟨rfl, (by solve_by_elim [X0, X1, X2, X3])⟩
  ·have k' : (a.n != b.n) = true := by simp [k]
   rw [if_neg (by simp [h]), if_pos k]
   clear h k
   go_wp2_with fail
   go_ret
   exact ⟨rfl, (by solve_by_elim [X0, X1, X2, X3])⟩
 ·have h' : (a.id != b.id) = true := by simp [h]
  rw [if_pos h]
  clear h
  go_wp2_with fail
  go_ret
  exact ⟨rfl, (by solve_by_elim [X0, X1, X2, X3])⟩
end Go.Proofs.YtnheioehadldmaaGreat
