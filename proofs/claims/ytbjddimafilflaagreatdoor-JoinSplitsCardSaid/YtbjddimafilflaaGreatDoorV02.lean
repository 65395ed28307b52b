/- PARTS OF THE WALKS, joined: SortD, SortE, Row, PlainA. -/
import Derived.Test.YtbjddimafilflaaGreatDoorV01
import Derived.Laws.CopyRow
import Derived.Lib.AppendZerosOnto
import Derived.Lib.SlFresh
import Derived.Test.YtbjddimafilflaaGreatDoorV00
import Derived.Lib.ItoaNum
import Derived.Lib.AtoiAll
/- THE WALK over slices.symMergeCmpFunc, at rows of values: the general case; the recursion. -/
namespace Go.Proofs.YtbjddimafilflaaGreatDoor
open Go.RowKit Go.Sort
variable {α : Type} [Inhabited α]
theorem perm_size {a b n : Nat} {d e : Array α} (h : PermIn a b d e) (hz : d.size = n) : e.size = n := h.1.trans hz
theorem permR {a b : Nat} {d : Array α} : PermIn a b d d := permIn_refl d a b
/-- SymCut, in letters -/
structure SymL (lt : α → α → Bool) (a mid E b s : Nat) (e : Array α) : Prop where
  r1 : SortedIn lt a s e
  r2 : SortedIn lt s mid e
  r3 : SortedIn lt mid E e
  r4 : SortedIn lt E b e
  cross : Cross lt a mid b e
theorem sym_cutL {lt : α → α → Bool} (hS : SWO lt) {a m b s mid E : Nat} {d e : Array α} (h1 : a < m) (h2 : m < b) (hl : SortedIn lt a m d) (hr : SortedIn lt m b d) (hmid : mid = (a + b) / 2) (hE : E = mid + m - s)
    (hlo : symLo a m b ≤ s) (hhi : s ≤ symHi a m b) (hup : symLo a m b < s → lt d[mid + m - s]! d[s - 1]! = false) (hdn : s < symHi a m b → lt d[mid + m - s - 1]! d[s]! = true) (he : ∀ x, e[x]! = d[rotS s m E x]!) : SymL lt a mid E b s e := by
  subst hE
  subst hmid
  have h := sym_cut hS h1 h2 hl hr ⟨hlo, hhi, hup, hdn⟩ he
  exact ⟨h.r1, h.r2, h.r3, h.r4, h.cross⟩
theorem sym_doneL {lt : α → α → Bool} {a mid E b s : Nat} {e e1 e2 : Array α} (ham : a ≤ mid) (hmb : mid ≤ b) (hb : b ≤ e.size) (h : SymL lt a mid E b s e) (hp1 : PermIn a mid e e1) (hs1 : SortedIn lt a mid e1) (hp2 : PermIn mid b e1 e2) (hs2 : SortedIn lt mid b e2) :
    PermIn a b e e2 ∧ SortedIn lt a b e2 := by
  have z1 := hp1.1
  refine ⟨permIn_trans _ _ _ a b (permIn_mono _ _ _ _ _ _ (Nat.le_refl _) (by omega) hb hp1) (permIn_mono _ _ _ _ _ _ (by omega) (Nat.le_refl _) (by omega) hp2), ?_⟩
  exact srt_glue (srt_kept hs1 hp2 (.inl (Nat.le_refl _))) hs2 ((h.cross.left (by omega) hp1).right (by omega) hp2)
set_option maxRecDepth 100000 in
set_option maxHeartbeats 12800000 in
theorem sw_symC (w0 : World) (B g cap : Nat) (hd : α → HeadS) (cf : α → α → Int) (f : Nat) (cb : Array Value) (d : Array α) (a m b : Nat) (w : World)
    (eg : ∀ args w, (callFunc f args).run Tryz.prog w = .ok (.enter f args) w) (hcmp : CmpOk Tryz.prog f cb (encS hd) cf w0 g) (hS : SWO (ltC cf)) (hs : SortW w0 B g cap 37 (encS hd) d w) (h0 : a + 1 < m) (h2 : m + 1 < b) (hb : b ≤ d.size) (hsz : d.size ≤ 8000000) (hl : SortedIn (ltC cf) a m d) (hr : SortedIn (ltC cf) m b d)
    (ih : ∀ (a' m' b' : Nat) (e : Array α) (W : World), b' - a' < b - a → SortW w0 B g cap 37 (encS hd) e W → e.size = d.size → a' < m' → m' < b' → b' ≤ d.size → SortedIn (ltC cf) a' m' e → SortedIn (ltC cf) m' b' e → Calls Tryz.prog 96 #[.slice (some ⟨g, 0, none⟩) d.size cap, .int .i64 a', .int .i64 m', .int .i64 b', .func (.func f) #[] cb] W fun e' w' => e' = .returned (.tuple #[]) ∧ ∃ d', SortW w0 B g cap 37 (encS hd) d' w' ∧ PermIn a' b' e d' ∧ SortedIn (ltC cf) a' b' d') :
    Calls Tryz.prog 96 #[.slice (some ⟨g, 0, none⟩) d.size cap, .int .i64 a, .int .i64 m, .int .i64 b, .func (.func f) #[] cb] w fun e w' => e = .returned (.tuple #[]) ∧ ∃ d', SortW w0 B g cap 37 (encS hd) d' w' ∧ PermIn a b d d' ∧ SortedIn (ltC cf) a b d' := by
  have HS := Lib.hid hs
  have HC := Lib.hid hcmp
  have HW := Lib.hid hS
  have H1 := Lib.hid hl
  have H2 := Lib.hid hr
  have IH := Lib.hid ih
  clear hs hcmp hS hl hr ih
  have hma : (((m : Int) - (a : Int)) == 1) = false := by rw [beq_eq_false_iff_ne]; omega
  have hmb' : (((b : Int) - (m : Int)) == 1) = false := by rw [beq_eq_false_iff_ne]; omega
  obtain ⟨mid, hmid⟩ : ∃ mid, mid = (a + b) / 2 := ⟨_, rfl⟩
  have HMID := Lib.hid hmid
  have qm : ((a : Int) + (b : Int)) / 2 = (mid : Int) := by omega
  have m1 : 2 * mid ≤ a + b := by omega
  have m2 : a + b ≤ 2 * mid + 1 := by omega
  have hrng := sym_rng (show a < m by omega) (show m < b by omega)
  rw [← hmid] at hrng
  clear hmid
  obtain ⟨lo, HLO⟩ : ∃ lo, Hid (lo = symLo a m b) := ⟨_, rfl⟩
  obtain ⟨hi, HHI⟩ : ∃ hi, Hid (hi = symHi a m b) := ⟨_, rfl⟩
  rw [← HLO.out, ← HHI.out] at hrng
  obtain ⟨r1, r2, r3, r4, r5, -⟩ := hrng
  by_cases hm : m > mid
  · go_enter Tryz.func96, Tryz.ntmps96
    have ql : (mid : Int) + (m : Int) - (b : Int) = (lo : Int) := by have := HLO.out; unfold symLo at this; rw [← HMID.out, if_pos hm] at this; omega
    have qh : hi ≤ mid ∧ mid ≤ hi := by have := HHI.out; unfold symHi at this; rw [← HMID.out, if_pos hm] at this; omega
    go_wp2_with fail
    clear hma hmb' qm
    go_loopw [20, 21] (fun u v W => ∃ (s r : Nat), u = .int .i64 s ∧ v = .int .i64 r ∧ lo ≤ s ∧ s ≤ r ∧ r ≤ hi ∧ Hid (SortW w0 B g cap 37 (encS hd) d W) ∧ Hid (lo < s → ltC cf d[mid + m - s]! d[s - 1]! = false) ∧ Hid (r < hi → ltC cf d[mid + m - r - 1]! d[r]! = true)) (fun u v _ => (intOf v - intOf u).toNat)
    case atStart => exact ⟨lo, hi, by first | rfl | exact congrArg (Value.int .i64) ql, by first | rfl | exact congrArg (Value.int .i64) (by omega), Nat.le_refl _, by omega, Nat.le_refl _, HS, Lib.hid (fun h => absurd h (by omega)), Lib.hid (fun h => absurd h (by omega))⟩
    case round =>
      obtain ⟨s, r, rfl, rfl, hls, hsr, hrh, he, hup, hdn⟩ := hrel
      by_cases hlt : s < r
      · obtain ⟨C, hC⟩ : ∃ C, C = (s + r) / 2 := ⟨_, rfl⟩
        obtain ⟨I, hI⟩ : ∃ I, I = mid + m - 1 - C := ⟨_, rfl⟩
        have qC : ((s : Int) + (r : Int)) / 2 = (C : Int) := by omega
        have qI : (mid : Int) + (m : Int) - 1 - (C : Int) = (I : Int) := by omega
        have wI : IntKind.i64.wrap (I : Int) = (I : Int) := by rw [IntKind.wrap_i64]; omega
        have b1 : (I : Int) < (d.size : Int) := by omega
        have b2 : (C : Int) < (d.size : Int) := by omega
        have c3 : s ≤ C := by omega
        have c4 : C < r := by omega
        have c5 : C < d.size := by omega
        have c6 : I < d.size := by omega
        have HG := Lib.hid (fun (h : cf d[I]! d[C]! < 0) => fun (_ : C < hi) => (by rw [show mid + m - C - 1 = I by omega]; exact ltC_t h : ltC cf d[mid + m - C - 1]! d[C]! = true))
        have HE := Lib.hid (fun (h : ¬ cf d[I]! d[C]! < 0) => fun (_ : lo < C + 1) => (by rw [show mid + m - (C + 1) = I by omega, Nat.add_sub_cancel]; exact ltC_f h : ltC cf d[mid + m - (C + 1)]! d[C + 1 - 1]! = false))
        have hC2 : 2 * C ≤ s + r := by omega
        clear hC hI
        have c1 := he.out.cell (show I < d.size by omega)
        have c2 := he.out.cell (show C < d.size by omega)
        have HX := Lib.hid (fun V (h : Ext wr V) => he.out.ext h)
        have HQ := Lib.hid (fun V (h : Ext wr V) => HC.out V (he.out.ext h).gr d[I]! d[C]!)
        unfold encS at c1 c2 HQ
        generalize hd d[I]! = x1 at *
        generalize hd d[C]! = x2 at *
        generalize cf d[I]! d[C]! = z at *
        have MK := Lib.hid (fun V (e : Ext wr V) => (⟨e.cell c1, e.cell c2, e⟩ : V.cell? ⟨g, I, none⟩ = some (Value.slice x1.A x1.n x1.c) ∧ V.cell? ⟨g, C, none⟩ = some (Value.slice x2.A x2.n x2.c) ∧ Ext wr V))
        by_cases hz : z < 0
        · have hg := Lib.hid (HG.out hz)
          clear HG HE
          clear c1 c2
          go_wp2_with fail
          go_region_held3 (fun V => V.cell? ⟨g, I, none⟩ = some (Value.slice x1.A x1.n x1.c) ∧ V.cell? ⟨g, C, none⟩ = some (Value.slice x2.A x2.n x2.c) ∧ Ext wr V) ((exact MK.out _ (by repeat (first | with_reducible exact Ext.refl _ | with_reducible assumption | with_reducible refine Ext.drew ?_ | with_reducible refine Ext.drewN ?_ _ | with_reducible refine Ext.alloc ?_ _)))) ((refine (HQ.out _ (by repeat (first | with_reducible exact Ext.refl _ | with_reducible assumption | with_reducible refine Ext.drew ?_ | with_reducible refine Ext.drewN ?_ _ | with_reducible refine Ext.alloc ?_ _))).mono ?_; rintro e w' ⟨rfl, hb⟩; replace hb : Ext wr w' := Ext.trans (by repeat (first | with_reducible exact Ext.refl _ | with_reducible assumption | with_reducible refine Ext.drew ?_ | with_reducible refine Ext.drewN ?_ _ | with_reducible refine Ext.alloc ?_ _)) hb))
          have hN := Lib.hid (HX.out w' hb)
          clear HX HQ MK
          go_wp2_with fail
          go_roundw
          case rel => exact ⟨s, C, rfl, rfl, hls, c3, by omega, hN, hup, hg⟩
          case measure => simp [intOf]; omega
        · have hg := Lib.hid (HE.out hz)
          have hz' : decide (z < 0) = false := decide_eq_false hz
          clear HG HE hz
          clear c1 c2
          go_wp2_with fail
          go_region_held3 (fun V => V.cell? ⟨g, I, none⟩ = some (Value.slice x1.A x1.n x1.c) ∧ V.cell? ⟨g, C, none⟩ = some (Value.slice x2.A x2.n x2.c) ∧ Ext wr V) ((exact MK.out _ (by repeat (first | with_reducible exact Ext.refl _ | with_reducible assumption | with_reducible refine Ext.drew ?_ | with_reducible refine Ext.drewN ?_ _ | with_reducible refine Ext.alloc ?_ _)))) ((refine (HQ.out _ (by repeat (first | with_reducible exact Ext.refl _ | with_reducible assumption | with_reducible refine Ext.drew ?_ | with_reducible refine Ext.drewN ?_ _ | with_reducible refine Ext.alloc ?_ _))).mono ?_; rintro e w' ⟨rfl, hb⟩; replace hb : Ext wr w' := Ext.trans (by repeat (first | with_reducible exact Ext.refl _ | with_reducible assumption | with_reducible refine Ext.drew ?_ | with_reducible refine Ext.drewN ?_ _ | with_reducible refine Ext.alloc ?_ _)) hb))
          have hN := Lib.hid (HX.out w' hb)
          clear HX HQ MK
          go_wp2_with fail
          go_roundw
          case rel => exact ⟨C + 1, r, congrArg (Value.int .i64) (by omega), rfl, by omega, by omega, hrh, hN, hg, hdn⟩
          case measure => simp [intOf]; omega
      · obtain rfl : s = r := by omega
        obtain ⟨E, hE⟩ : ∃ E, E = mid + m - s := ⟨_, rfl⟩
        have HEQ := Lib.hid hE
        have qE : (mid : Int) + (m : Int) - (s : Int) = (E : Int) := by omega
        have e1 : E + s ≤ mid + m := by omega
        have e2 : mid + m ≤ E + s := by omega
        have HCUT := Lib.hid (fun (e : Array α) (hx : ∀ x, e[x]! = d[rotS s m E x]!) => sym_cutL (lt := ltC cf) HW.out (Nat.lt_of_succ_lt h0) (Nat.lt_of_succ_lt h2) H1.out H2.out HMID.out hE (HLO.out ▸ hls) (HHI.out ▸ hrh) (by rw [← HLO.out]; exact hup.out) (by rw [← HHI.out]; exact hdn.out) hx)
        have IL := Lib.hid (fun (W : World) (e : Array α) (h : SortW w0 B g cap 37 (encS hd) e W) (hz : e.size = d.size) (hc : SymL (ltC cf) a mid E b s e) => fun (h1 : a < s) (h2 : s < mid) => IH.out a s mid e W (by omega) h hz h1 h2 (by omega) hc.r1 hc.r2)
        have IR := Lib.hid (fun (W : World) (e' : Array α) (h : SortW w0 B g cap 37 (encS hd) e' W) (hz' : e'.size = d.size) (e : Array α) (_ : e.size = d.size) (hc : SymL (ltC cf) a mid E b s e) (hp : PermIn a mid e e') => fun (h1 : mid < E) (h2 : E < b) => IH.out mid E b e' W (by omega) h hz' h1 h2 hb (srt_kept hc.r3 hp (.inr (Nat.le_refl _))) (srt_kept hc.r4 hp (.inr (by omega))))
        have HDONE := Lib.hid (fun (e e1 e2 : Array α) (hz : e.size = d.size) (hc : SymL (ltC cf) a mid E b s e) (hp1 : PermIn a mid e e1) (hs1 : SortedIn (ltC cf) a mid e1) (hp2 : PermIn mid b e1 e2) (hs2 : SortedIn (ltC cf) mid b e2) => sym_doneL (by omega) (by omega) (by omega) hc hp1 hs1 hp2 hs2)
        clear hE hup hdn
        have h4 : s < m := by omega
        have h8 : mid < E := by omega
        have h3 : a < mid := by omega
        by_cases h7 : s < mid
        · have h5 : m < E := by omega
          have HR := Lib.hid (sw_rotate w0 B g cap hd d s m E (.func (.func f) #[] cb) wr he.out h4 h5 (by omega) hsz)
          have HPM := Lib.hid (fun (e : Array α) (hp : PermIn s E d e) => permIn_mono _ _ _ _ a b (by omega) (by omega) hb hp)
          by_cases h6 : a < s
          · replace IL := Lib.hid (fun W e h hz hc => IL.out W e h hz hc h6 h7)
            by_cases h9 : E < b
            · replace IR := Lib.hid (fun W e1 h hz e hz2 hc hp => IR.out W e1 h hz e hz2 hc hp h8 h9)
              go_wp2_with (first | (go_at_call 110; with_reducible refine (HR.out).mono ?_; rintro e' w1 ⟨rfl, d1, hs1, hz1, hx1, hp1⟩; replace hs1 := Lib.hid hs1; replace hx1 := Lib.hid (HCUT.out d1 hx1); replace hp1 := Lib.hid (HPM.out d1 hp1)) | (go_at_call 96; with_reducible refine (IL.out w1 d1 hs1.out hz1 hx1.out).mono ?_; rintro e' w2 ⟨rfl, d2, hs2, hp2, hso2⟩; have hz2 := perm_size hp2 hz1; replace hs2 := Lib.hid hs2; replace hp2 := Lib.hid hp2; replace hso2 := Lib.hid hso2) | (go_at_call 96; with_reducible refine (IR.out w2 d2 hs2.out hz2 d1 hz1 hx1.out hp2.out).mono ?_; rintro e' w3 ⟨rfl, d3, hs3, hp3, hso3⟩; replace hs3 := Lib.hid hs3; replace hp3 := Lib.hid hp3; replace hso3 := Lib.hid hso3))
              go_end0
              have HF := HDONE.out d1 d2 d3 hz1 hx1.out hp2.out hso2.out hp3.out hso3.out
              exact ⟨rfl, d3, hs3.out, permIn_trans _ _ _ a b hp1.out HF.1, HF.2⟩
            · have IRN := Lib.hid (fun (e e1 : Array α) (hc : SymL (ltC cf) a mid E b s e) (hp : PermIn a mid e e1) => (by have := srt_kept hc.r3 hp (.inr (Nat.le_refl _)); rwa [show E = b by omega] at this : SortedIn (ltC cf) mid b e1))
              go_wp2_with (first | (go_at_call 110; with_reducible refine (HR.out).mono ?_; rintro e' w1 ⟨rfl, d1, hs1, hz1, hx1, hp1⟩; replace hs1 := Lib.hid hs1; replace hx1 := Lib.hid (HCUT.out d1 hx1); replace hp1 := Lib.hid (HPM.out d1 hp1)) | (go_at_call 96; with_reducible refine (IL.out w1 d1 hs1.out hz1 hx1.out).mono ?_; rintro e' w2 ⟨rfl, d2, hs2, hp2, hso2⟩; have hz2 := perm_size hp2 hz1; replace hs2 := Lib.hid hs2; replace hp2 := Lib.hid hp2; replace hso2 := Lib.hid hso2))
              go_end0
              have HF := HDONE.out d1 d2 d2 hz1 hx1.out hp2.out hso2.out permR (IRN.out _ _ hx1.out hp2.out)
              exact ⟨rfl, d2, hs2.out, permIn_trans _ _ _ a b hp1.out HF.1, HF.2⟩
          · have ILN := Lib.hid (fun (e : Array α) (hc : SymL (ltC cf) a mid E b s e) => (by have := hc.r2; rwa [show s = a by omega] at this : SortedIn (ltC cf) a mid e))
            by_cases h9 : E < b
            · replace IR := Lib.hid (fun W e1 h hz e hz2 hc hp => IR.out W e1 h hz e hz2 hc hp h8 h9)
              go_wp2_with (first | (go_at_call 110; with_reducible refine (HR.out).mono ?_; rintro e' w1 ⟨rfl, d1, hs1, hz1, hx1, hp1⟩; replace hs1 := Lib.hid hs1; replace hx1 := Lib.hid (HCUT.out d1 hx1); replace hp1 := Lib.hid (HPM.out d1 hp1)) | (go_at_call 96; with_reducible refine (IR.out w1 d1 hs1.out hz1 d1 hz1 hx1.out permR).mono ?_; rintro e' w3 ⟨rfl, d3, hs3, hp3, hso3⟩; replace hs3 := Lib.hid hs3; replace hp3 := Lib.hid hp3; replace hso3 := Lib.hid hso3))
              go_end0
              have HF := HDONE.out d1 d1 d3 hz1 hx1.out permR (ILN.out _ hx1.out) hp3.out hso3.out
              exact ⟨rfl, d3, hs3.out, permIn_trans _ _ _ a b hp1.out HF.1, HF.2⟩
            · have IRN := Lib.hid (fun (e e1 : Array α) (hc : SymL (ltC cf) a mid E b s e) (hp : PermIn a mid e e1) => (by have := srt_kept hc.r3 hp (.inr (Nat.le_refl _)); rwa [show E = b by omega] at this : SortedIn (ltC cf) mid b e1))
              go_wp2_with (go_at_call 110; with_reducible refine (HR.out).mono ?_; rintro e' w1 ⟨rfl, d1, hs1, hz1, hx1, hp1⟩; replace hs1 := Lib.hid hs1; replace hx1 := Lib.hid (HCUT.out d1 hx1); replace hp1 := Lib.hid (HPM.out d1 hp1))
              go_end0
              have HF := HDONE.out d1 d1 d1 hz1 hx1.out permR (ILN.out _ hx1.out) permR (IRN.out _ _ hx1.out permR)
              exact ⟨rfl, d1, hs1.out, permIn_trans _ _ _ a b hp1.out HF.1, HF.2⟩
        · have h5 : ¬ m < E := by omega
          have h6 : a < s := by omega
          have h9 : E < b := by omega
          have HID := Lib.hid (fun x => (by rw [show E = m by omega, rotS_idr] : d[rotS s m E x]! = d[x]!))
          have ILN := Lib.hid (fun (e : Array α) (hc : SymL (ltC cf) a mid E b s e) => (by have := hc.r1; rwa [show s = mid by omega] at this : SortedIn (ltC cf) a mid e))
          replace IR := Lib.hid (fun W e1 h hz e hz2 hc hp => IR.out W e1 h hz e hz2 hc hp h8 h9)
          have hx1 := Lib.hid (HCUT.out d (fun x => (HID.out x).symm ▸ rfl))
          have hp1 := Lib.hid (permIn_refl d a b)
          go_wp2_with (go_at_call 96; with_reducible refine (IR.out wr d he.out rfl d rfl hx1.out permR).mono ?_; rintro e' w3 ⟨rfl, d3, hs3, hp3, hso3⟩; replace hs3 := Lib.hid hs3; replace hp3 := Lib.hid hp3; replace hso3 := Lib.hid hso3)
          go_end0
          have HF := HDONE.out d d d3 rfl hx1.out permR (ILN.out _ hx1.out) hp3.out hso3.out
          exact ⟨rfl, d3, hs3.out, permIn_trans _ _ _ a b hp1.out HF.1, HF.2⟩
  · go_enter Tryz.func96, Tryz.ntmps96
    have ql : lo ≤ a ∧ a ≤ lo := by have := HLO.out; unfold symLo at this; rw [← HMID.out, if_neg hm] at this; omega
    have qh : hi ≤ m ∧ m ≤ hi := by have := HHI.out; unfold symHi at this; rw [← HMID.out, if_neg hm] at this; omega
    go_wp2_with fail
    clear hma hmb' qm
    go_loopw [20, 21] (fun u v W => ∃ (s r : Nat), u = .int .i64 s ∧ v = .int .i64 r ∧ lo ≤ s ∧ s ≤ r ∧ r ≤ hi ∧ Hid (SortW w0 B g cap 37 (encS hd) d W) ∧ Hid (lo < s → ltC cf d[mid + m - s]! d[s - 1]! = false) ∧ Hid (r < hi → ltC cf d[mid + m - r - 1]! d[r]! = true)) (fun u v _ => (intOf v - intOf u).toNat)
    case atStart => exact ⟨lo, hi, by first | rfl | exact congrArg (Value.int .i64) (by omega), by first | rfl | exact congrArg (Value.int .i64) (by omega), Nat.le_refl _, by omega, Nat.le_refl _, HS, Lib.hid (fun h => absurd h (by omega)), Lib.hid (fun h => absurd h (by omega))⟩
    case round =>
      obtain ⟨s, r, rfl, rfl, hls, hsr, hrh, he, hup, hdn⟩ := hrel
      by_cases hlt : s < r
      · obtain ⟨C, hC⟩ : ∃ C, C = (s + r) / 2 := ⟨_, rfl⟩
        obtain ⟨I, hI⟩ : ∃ I, I = mid + m - 1 - C := ⟨_, rfl⟩
        have qC : ((s : Int) + (r : Int)) / 2 = (C : Int) := by omega
        have qI : (mid : Int) + (m : Int) - 1 - (C : Int) = (I : Int) := by omega
        have wI : IntKind.i64.wrap (I : Int) = (I : Int) := by rw [IntKind.wrap_i64]; omega
        have b1 : (I : Int) < (d.size : Int) := by omega
        have b2 : (C : Int) < (d.size : Int) := by omega
        have c3 : s ≤ C := by omega
        have c4 : C < r := by omega
        have c5 : C < d.size := by omega
        have c6 : I < d.size := by omega
        have HG := Lib.hid (fun (h : cf d[I]! d[C]! < 0) => fun (_ : C < hi) => (by rw [show mid + m - C - 1 = I by omega]; exact ltC_t h : ltC cf d[mid + m - C - 1]! d[C]! = true))
        have HE := Lib.hid (fun (h : ¬ cf d[I]! d[C]! < 0) => fun (_ : lo < C + 1) => (by rw [show mid + m - (C + 1) = I by omega, Nat.add_sub_cancel]; exact ltC_f h : ltC cf d[mid + m - (C + 1)]! d[C + 1 - 1]! = false))
        have hC2 : 2 * C ≤ s + r := by omega
        clear hC hI
        have c1 := he.out.cell (show I < d.size by omega)
        have c2 := he.out.cell (show C < d.size by omega)
        have HX := Lib.hid (fun V (h : Ext wr V) => he.out.ext h)
        have HQ := Lib.hid (fun V (h : Ext wr V) => HC.out V (he.out.ext h).gr d[I]! d[C]!)
        unfold encS at c1 c2 HQ
        generalize hd d[I]! = x1 at *
        generalize hd d[C]! = x2 at *
        generalize cf d[I]! d[C]! = z at *
        have MK := Lib.hid (fun V (e : Ext wr V) => (⟨e.cell c1, e.cell c2, e⟩ : V.cell? ⟨g, I, none⟩ = some (Value.slice x1.A x1.n x1.c) ∧ V.cell? ⟨g, C, none⟩ = some (Value.slice x2.A x2.n x2.c) ∧ Ext wr V))
        by_cases hz : z < 0
        · have hg := Lib.hid (HG.out hz)
          clear HG HE
          clear c1 c2
          go_wp2_with fail
          go_region_held3 (fun V => V.cell? ⟨g, I, none⟩ = some (Value.slice x1.A x1.n x1.c) ∧ V.cell? ⟨g, C, none⟩ = some (Value.slice x2.A x2.n x2.c) ∧ Ext wr V) ((exact MK.out _ (by repeat (first | with_reducible exact Ext.refl _ | with_reducible assumption | with_reducible refine Ext.drew ?_ | with_reducible refine Ext.drewN ?_ _ | with_reducible refine Ext.alloc ?_ _)))) ((refine (HQ.out _ (by repeat (first | with_reducible exact Ext.refl _ | with_reducible assumption | with_reducible refine Ext.drew ?_ | with_reducible refine Ext.drewN ?_ _ | with_reducible refine Ext.alloc ?_ _))).mono ?_; rintro e w' ⟨rfl, hb⟩; replace hb : Ext wr w' := Ext.trans (by repeat (first | with_reducible exact Ext.refl _ | with_reducible assumption | with_reducible refine Ext.drew ?_ | with_reducible refine Ext.drewN ?_ _ | with_reducible refine Ext.alloc ?_ _)) hb))
          have hN := Lib.hid (HX.out w' hb)
          clear HX HQ MK
          go_wp2_with fail
          go_roundw
          case rel => exact ⟨s, C, rfl, rfl, hls, c3, by omega, hN, hup, hg⟩
          case measure => simp [intOf]; omega
        · have hg := Lib.hid (HE.out hz)
          have hz' : decide (z < 0) = false := decide_eq_false hz
          clear HG HE hz
          clear c1 c2
          go_wp2_with fail
          go_region_held3 (fun V => V.cell? ⟨g, I, none⟩ = some (Value.slice x1.A x1.n x1.c) ∧ V.cell? ⟨g, C, none⟩ = some (Value.slice x2.A x2.n x2.c) ∧ Ext wr V) ((exact MK.out _ (by repeat (first | with_reducible exact Ext.refl _ | with_reducible assumption | with_reducible refine Ext.drew ?_ | with_reducible refine Ext.drewN ?_ _ | with_reducible refine Ext.alloc ?_ _)))) ((refine (HQ.out _ (by repeat (first | with_reducible exact Ext.refl _ | with_reducible assumption | with_reducible refine Ext.drew ?_ | with_reducible refine Ext.drewN ?_ _ | with_reducible refine Ext.alloc ?_ _))).mono ?_; rintro e w' ⟨rfl, hb⟩; replace hb : Ext wr w' := Ext.trans (by repeat (first | with_reducible exact Ext.refl _ | with_reducible assumption | with_reducible refine Ext.drew ?_ | with_reducible refine Ext.drewN ?_ _ | with_reducible refine Ext.alloc ?_ _)) hb))
          have hN := Lib.hid (HX.out w' hb)
          clear HX HQ MK
          go_wp2_with fail
          go_roundw
          case rel => exact ⟨C + 1, r, congrArg (Value.int .i64) (by omega), rfl, by omega, by omega, hrh, hN, hg, hdn⟩
          case measure => simp [intOf]; omega
      · obtain rfl : s = r := by omega
        obtain ⟨E, hE⟩ : ∃ E, E = mid + m - s := ⟨_, rfl⟩
        have HEQ := Lib.hid hE
        have qE : (mid : Int) + (m : Int) - (s : Int) = (E : Int) := by omega
        have e1 : E + s ≤ mid + m := by omega
        have e2 : mid + m ≤ E + s := by omega
        have HCUT := Lib.hid (fun (e : Array α) (hx : ∀ x, e[x]! = d[rotS s m E x]!) => sym_cutL (lt := ltC cf) HW.out (Nat.lt_of_succ_lt h0) (Nat.lt_of_succ_lt h2) H1.out H2.out HMID.out hE (HLO.out ▸ hls) (HHI.out ▸ hrh) (by rw [← HLO.out]; exact hup.out) (by rw [← HHI.out]; exact hdn.out) hx)
        have IL := Lib.hid (fun (W : World) (e : Array α) (h : SortW w0 B g cap 37 (encS hd) e W) (hz : e.size = d.size) (hc : SymL (ltC cf) a mid E b s e) => fun (h1 : a < s) (h2 : s < mid) => IH.out a s mid e W (by omega) h hz h1 h2 (by omega) hc.r1 hc.r2)
        have IR := Lib.hid (fun (W : World) (e' : Array α) (h : SortW w0 B g cap 37 (encS hd) e' W) (hz' : e'.size = d.size) (e : Array α) (_ : e.size = d.size) (hc : SymL (ltC cf) a mid E b s e) (hp : PermIn a mid e e') => fun (h1 : mid < E) (h2 : E < b) => IH.out mid E b e' W (by omega) h hz' h1 h2 hb (srt_kept hc.r3 hp (.inr (Nat.le_refl _))) (srt_kept hc.r4 hp (.inr (by omega))))
        have HDONE := Lib.hid (fun (e e1 e2 : Array α) (hz : e.size = d.size) (hc : SymL (ltC cf) a mid E b s e) (hp1 : PermIn a mid e e1) (hs1 : SortedIn (ltC cf) a mid e1) (hp2 : PermIn mid b e1 e2) (hs2 : SortedIn (ltC cf) mid b e2) => sym_doneL (by omega) (by omega) (by omega) hc hp1 hs1 hp2 hs2)
        clear hE hup hdn
        by_cases h4 : s < m
        · have h5 : m < E := by omega
          have h7 : s < mid := by omega
          have h8 : mid < E := by omega
          have HR := Lib.hid (sw_rotate w0 B g cap hd d s m E (.func (.func f) #[] cb) wr he.out h4 h5 (by omega) hsz)
          have HPM := Lib.hid (fun (e : Array α) (hp : PermIn s E d e) => permIn_mono _ _ _ _ a b (by omega) (by omega) hb hp)
          by_cases h6 : a < s
          · replace IL := Lib.hid (fun W e h hz hc => IL.out W e h hz hc h6 h7)
            by_cases h9 : E < b
            · replace IR := Lib.hid (fun W e1 h hz e hz2 hc hp => IR.out W e1 h hz e hz2 hc hp h8 h9)
              go_wp2_with (first | (go_at_call 110; with_reducible refine (HR.out).mono ?_; rintro e' w1 ⟨rfl, d1, hs1, hz1, hx1, hp1⟩; replace hs1 := Lib.hid hs1; replace hx1 := Lib.hid (HCUT.out d1 hx1); replace hp1 := Lib.hid (HPM.out d1 hp1)) | (go_at_call 96; with_reducible refine (IL.out w1 d1 hs1.out hz1 hx1.out).mono ?_; rintro e' w2 ⟨rfl, d2, hs2, hp2, hso2⟩; have hz2 := perm_size hp2 hz1; replace hs2 := Lib.hid hs2; replace hp2 := Lib.hid hp2; replace hso2 := Lib.hid hso2) | (go_at_call 96; with_reducible refine (IR.out w2 d2 hs2.out hz2 d1 hz1 hx1.out hp2.out).mono ?_; rintro e' w3 ⟨rfl, d3, hs3, hp3, hso3⟩; replace hs3 := Lib.hid hs3; replace hp3 := Lib.hid hp3; replace hso3 := Lib.hid hso3))
              go_end0
              have HF := HDONE.out d1 d2 d3 hz1 hx1.out hp2.out hso2.out hp3.out hso3.out
              exact ⟨rfl, d3, hs3.out, permIn_trans _ _ _ a b hp1.out HF.1, HF.2⟩
            · have IRN := Lib.hid (fun (e e1 : Array α) (hc : SymL (ltC cf) a mid E b s e) (hp : PermIn a mid e e1) => (by have := srt_kept hc.r3 hp (.inr (Nat.le_refl _)); rwa [show E = b by omega] at this : SortedIn (ltC cf) mid b e1))
              go_wp2_with (first | (go_at_call 110; with_reducible refine (HR.out).mono ?_; rintro e' w1 ⟨rfl, d1, hs1, hz1, hx1, hp1⟩; replace hs1 := Lib.hid hs1; replace hx1 := Lib.hid (HCUT.out d1 hx1); replace hp1 := Lib.hid (HPM.out d1 hp1)) | (go_at_call 96; with_reducible refine (IL.out w1 d1 hs1.out hz1 hx1.out).mono ?_; rintro e' w2 ⟨rfl, d2, hs2, hp2, hso2⟩; have hz2 := perm_size hp2 hz1; replace hs2 := Lib.hid hs2; replace hp2 := Lib.hid hp2; replace hso2 := Lib.hid hso2))
              go_end0
              have HF := HDONE.out d1 d2 d2 hz1 hx1.out hp2.out hso2.out permR (IRN.out _ _ hx1.out hp2.out)
              exact ⟨rfl, d2, hs2.out, permIn_trans _ _ _ a b hp1.out HF.1, HF.2⟩
          · have ILN := Lib.hid (fun (e : Array α) (hc : SymL (ltC cf) a mid E b s e) => (by have := hc.r2; rwa [show s = a by omega] at this : SortedIn (ltC cf) a mid e))
            by_cases h9 : E < b
            · replace IR := Lib.hid (fun W e1 h hz e hz2 hc hp => IR.out W e1 h hz e hz2 hc hp h8 h9)
              go_wp2_with (first | (go_at_call 110; with_reducible refine (HR.out).mono ?_; rintro e' w1 ⟨rfl, d1, hs1, hz1, hx1, hp1⟩; replace hs1 := Lib.hid hs1; replace hx1 := Lib.hid (HCUT.out d1 hx1); replace hp1 := Lib.hid (HPM.out d1 hp1)) | (go_at_call 96; with_reducible refine (IR.out w1 d1 hs1.out hz1 d1 hz1 hx1.out permR).mono ?_; rintro e' w3 ⟨rfl, d3, hs3, hp3, hso3⟩; replace hs3 := Lib.hid hs3; replace hp3 := Lib.hid hp3; replace hso3 := Lib.hid hso3))
              go_end0
              have HF := HDONE.out d1 d1 d3 hz1 hx1.out permR (ILN.out _ hx1.out) hp3.out hso3.out
              exact ⟨rfl, d3, hs3.out, permIn_trans _ _ _ a b hp1.out HF.1, HF.2⟩
            · have IRN := Lib.hid (fun (e e1 : Array α) (hc : SymL (ltC cf) a mid E b s e) (hp : PermIn a mid e e1) => (by have := srt_kept hc.r3 hp (.inr (Nat.le_refl _)); rwa [show E = b by omega] at this : SortedIn (ltC cf) mid b e1))
              go_wp2_with (go_at_call 110; with_reducible refine (HR.out).mono ?_; rintro e' w1 ⟨rfl, d1, hs1, hz1, hx1, hp1⟩; replace hs1 := Lib.hid hs1; replace hx1 := Lib.hid (HCUT.out d1 hx1); replace hp1 := Lib.hid (HPM.out d1 hp1))
              go_end0
              have HF := HDONE.out d1 d1 d1 hz1 hx1.out permR (ILN.out _ hx1.out) permR (IRN.out _ _ hx1.out permR)
              exact ⟨rfl, d1, hs1.out, permIn_trans _ _ _ a b hp1.out HF.1, HF.2⟩
        · have h6 : a < s := by omega
          have h8 : ¬ mid < E := by omega
          have HID := Lib.hid (fun x => (by rw [show s = m by omega, rotS_idl] : d[rotS s m E x]! = d[x]!))
          have IRN := Lib.hid (fun (e e1 : Array α) (hc : SymL (ltC cf) a mid E b s e) (hp : PermIn a mid e e1) => (by have := srt_kept hc.r4 hp (.inr (by omega)); rwa [show E = mid by omega] at this : SortedIn (ltC cf) mid b e1))
          by_cases h7 : s < mid
          · replace IL := Lib.hid (fun W e h hz hc => IL.out W e h hz hc h6 h7)
            have hx1 := Lib.hid (HCUT.out d (fun x => (HID.out x).symm ▸ rfl))
            have hp1 := Lib.hid (permIn_refl d a b)
            go_wp2_with (go_at_call 96; with_reducible refine (IL.out wr d he.out rfl hx1.out).mono ?_; rintro e' w2 ⟨rfl, d2, hs2, hp2, hso2⟩; have hz2 := perm_size hp2 rfl; replace hs2 := Lib.hid hs2; replace hp2 := Lib.hid hp2; replace hso2 := Lib.hid hso2)
            go_end0
            have HF := HDONE.out d d2 d2 rfl hx1.out hp2.out hso2.out permR (IRN.out _ _ hx1.out hp2.out)
            exact ⟨rfl, d2, hs2.out, permIn_trans _ _ _ a b hp1.out HF.1, HF.2⟩
          · have ILN := Lib.hid (fun (e : Array α) (hc : SymL (ltC cf) a mid E b s e) => (by have := hc.r1; rwa [show s = mid by omega] at this : SortedIn (ltC cf) a mid e))
            have hx1 := Lib.hid (HCUT.out d (fun x => (HID.out x).symm ▸ rfl))
            have hp1 := Lib.hid (permIn_refl d a b)
            go_wp2_with fail
            go_end0
            have HF := HDONE.out d d d rfl hx1.out permR (ILN.out _ hx1.out) permR (IRN.out _ _ hx1.out permR)
            exact ⟨rfl, d, he.out, permIn_trans _ _ _ a b hp1.out HF.1, HF.2⟩
set_option maxRecDepth 100000 in
theorem sw_symN : ∀ (N : Nat) (w0 : World) (B g cap : Nat) (hd : α → HeadS) (cf : α → α → Int) (f : Nat) (cb : Array Value) (d : Array α) (a m b : Nat) (w : World)
    (_ : ∀ args w, (callFunc f args).run Tryz.prog w = .ok (.enter f args) w) (_ : CmpOk Tryz.prog f cb (encS hd) cf w0 g) (_ : SWO (ltC cf)) (_ : SortW w0 B g cap 37 (encS hd) d w) (_ : b - a ≤ N) (_ : a < m) (_ : m < b) (_ : b ≤ d.size) (_ : d.size ≤ 8000000) (_ : SortedIn (ltC cf) a m d) (_ : SortedIn (ltC cf) m b d),
    Calls Tryz.prog 96 #[.slice (some ⟨g, 0, none⟩) d.size cap, .int .i64 a, .int .i64 m, .int .i64 b, .func (.func f) #[] cb] w fun e w' => e = .returned (.tuple #[]) ∧ ∃ d', SortW w0 B g cap 37 (encS hd) d' w' ∧ PermIn a b d d' ∧ SortedIn (ltC cf) a b d'
  | 0, w0, B, g, cap, hd, cf, f, cb, d, a, m, b, w, eg, hcmp, hS, hs, hN, h1, h2, hb, hsz, hl, hr => by omega
  | N + 1, w0, B, g, cap, hd, cf, f, cb, d, a, m, b, w, eg, hcmp, hS, hs, hN, h1, h2, hb, hsz, hl, hr => by
    by_cases e1 : m = a + 1
    · exact sw_symA w0 B g cap hd cf f cb d a m b w eg hcmp hS hs e1 h2 hb hsz hr
    · by_cases e2 : b = m + 1
      · exact sw_symB w0 B g cap hd cf f cb d a m b w eg hcmp hS hs e1 h1 e2 hb hsz hl
      · refine sw_symC w0 B g cap hd cf f cb d a m b w eg hcmp hS hs (by omega) (by omega) hb hsz hl hr (fun a' m' b' e W hlt hs' hz g1 g2 g3 g4 g5 => ?_)
        rw [← hz]
        exact sw_symN N w0 B g cap hd cf f cb e a' m' b' W eg hcmp hS hs' (by omega) g1 g2 (by omega) (by omega) g4 g5
theorem sw_sym (w0 : World) (B g cap : Nat) (hd : α → HeadS) (cf : α → α → Int) (f : Nat) (cb : Array Value) (d : Array α) (a m b : Nat) (w : World)
    (eg : ∀ args w, (callFunc f args).run Tryz.prog w = .ok (.enter f args) w) (hcmp : CmpOk Tryz.prog f cb (encS hd) cf w0 g) (hS : SWO (ltC cf)) (hs : SortW w0 B g cap 37 (encS hd) d w) (h1 : a < m) (h2 : m < b) (hb : b ≤ d.size) (hsz : d.size ≤ 8000000) (hl : SortedIn (ltC cf) a m d) (hr : SortedIn (ltC cf) m b d) :
    Calls Tryz.prog 96 #[.slice (some ⟨g, 0, none⟩) d.size cap, .int .i64 a, .int .i64 m, .int .i64 b, .func (.func f) #[] cb] w fun e w' => e = .returned (.tuple #[]) ∧ ∃ d', SortW w0 B g cap 37 (encS hd) d' w' ∧ PermIn a b d d' ∧ SortedIn (ltC cf) a b d' :=
  sw_symN (b - a) w0 B g cap hd cf f cb d a m b w eg hcmp hS hs (Nat.le_refl _) h1 h2 hb hsz hl hr
end Go.Proofs.YtbjddimafilflaaGreatDoor

/- THE WALK over slices.stableCmpFunc and slices.SortStableFunc, at rows of values. -/
namespace Go.Proofs.YtbjddimafilflaaGreatDoor
open Go.RowKit Go.Sort
variable {α : Type} [Inhabited α]
theorem firstL_step {lt : α → α → Bool} {bs A b : Nat} {d e : Array α} (hq : ∃ q, A = q * bs) (hb : b = A + bs) (h : First lt bs A d) (hp : PermIn A b d e) (hs : SortedIn lt A b e) : First lt bs b e ∧ ∃ q, b = q * bs := by
  obtain ⟨q, rfl⟩ := hq
  subst hb
  have e1 : (q + 1) * bs = q * bs + bs := by rw [Nat.add_mul, Nat.one_mul]
  have := h.step hp hs
  rw [e1] at this
  exact ⟨this, q + 1, e1.symm⟩
theorem firstL_last {lt : α → α → Bool} {bs n A : Nat} {d e : Array α} (hq : ∃ q, A = q * bs) (h : First lt bs A d) (hn : n < A + bs) (hp : PermIn A n d e) (hs : SortedIn lt A n e) : Blocks lt bs n e := by
  obtain ⟨q, rfl⟩ := hq
  exact h.last hn hp hs
theorem levelL_step {lt : α → α → Bool} {bs n A b : Nat} {d e : Array α} (hb : 0 < bs) (hq : ∃ q, A = q * (2 * bs)) (hB : b = A + 2 * bs) (h : Level lt bs n A d) (hn : b ≤ n) (hp : PermIn A b d e) (hs : SortedIn lt A b e) : Level lt bs n b e ∧ ∃ q, b = q * (2 * bs) := by
  obtain ⟨q, rfl⟩ := hq
  subst hB
  have e1 : (q + 1) * (2 * bs) = q * (2 * bs) + 2 * bs := by rw [Nat.add_mul, Nat.one_mul]
  have := h.step hb hn hp hs
  rw [e1] at this
  exact ⟨this, q + 1, e1.symm⟩
theorem levelL_last {lt : α → α → Bool} {bs n A : Nat} {d e : Array α} (hq : ∃ q, A = q * (2 * bs)) (h : Level lt bs n A d) (hn : n < A + 2 * bs) (ha : A ≤ n) (hp : PermIn A n d e) (hs : SortedIn lt A n e) : Blocks lt (bs * 2) n e := by
  obtain ⟨q, rfl⟩ := hq
  exact h.last hn ha hp hs
theorem levelL_runs {lt : α → α → Bool} {bs n A : Nat} {d : Array α} (hq : ∃ q, A = q * (2 * bs)) (h : Level lt bs n A d) : SortedIn lt A (min (A + bs) n) d ∧ SortedIn lt (A + bs) (min (A + bs + bs) n) d := by
  obtain ⟨q, rfl⟩ := hq
  exact h.runs
set_option maxRecDepth 100000 in
set_option maxHeartbeats 6400000 in
theorem sw_stable (w0 : World) (B g cap : Nat) (hd : α → HeadS) (cf : α → α → Int) (f : Nat) (cb : Array Value) (d : Array α) (w : World)
    (eg : ∀ args w, (callFunc f args).run Tryz.prog w = .ok (.enter f args) w) (hcmp : CmpOk Tryz.prog f cb (encS hd) cf w0 g) (hS : SWO (ltC cf)) (hs : SortW w0 B g cap 37 (encS hd) d w) (hsz : d.size ≤ 8000000) :
    Calls Tryz.prog 77 #[.slice (some ⟨g, 0, none⟩) d.size cap, .int .i64 d.size, .func (.func f) #[] cb] w fun e w' => e = .returned (.tuple #[]) ∧ ∃ d', SortW w0 B g cap 37 (encS hd) d' w' ∧ PermIn 0 d.size d d' ∧ SortedIn (ltC cf) 0 d.size d' := by
  have HI := Lib.hid (fun (e : Array α) (W : World) (a b : Nat) (h : SortW w0 B g cap 37 (encS hd) e W) (hz : e.size = d.size) (hab : a ≤ b) (hb : b ≤ d.size) => (by
    rw [← hz]; exact sw_insert w0 B g cap hd cf f cb e a b W eg hcmp hS h hab (hz ▸ hb) (hz ▸ hsz) : Calls Tryz.prog 95 #[.slice (some ⟨g, 0, none⟩) d.size cap, .int .i64 a, .int .i64 b, .func (.func f) #[] cb] W fun r w' => r = .returned (.tuple #[]) ∧ ∃ d', SortW w0 B g cap 37 (encS hd) d' w' ∧ PermIn a b e d' ∧ SortedIn (ltC cf) a b d'))
  have HY := Lib.hid (fun (e : Array α) (W : World) (a m b : Nat) (h : SortW w0 B g cap 37 (encS hd) e W) (hz : e.size = d.size) (h1 : a < m) (h2 : m < b) (hb : b ≤ d.size) (hl : SortedIn (ltC cf) a m e) (hr : SortedIn (ltC cf) m b e) => (by
    rw [← hz]; exact sw_sym w0 B g cap hd cf f cb e a m b W eg hcmp hS h h1 h2 (hz ▸ hb) (hz ▸ hsz) hl hr : Calls Tryz.prog 96 #[.slice (some ⟨g, 0, none⟩) d.size cap, .int .i64 a, .int .i64 m, .int .i64 b, .func (.func f) #[] cb] W fun r w' => r = .returned (.tuple #[]) ∧ ∃ d', SortW w0 B g cap 37 (encS hd) d' w' ∧ PermIn a b e d' ∧ SortedIn (ltC cf) a b d'))
  have HS := Lib.hid hs
  clear hs hcmp hS
  obtain ⟨n, hn⟩ : ∃ n, n = d.size := ⟨_, rfl⟩
  have HN := Lib.hid hn
  have hn1 : n ≤ d.size := by omega
  have hn2 : d.size ≤ n := by omega
  rw [← hn] at HI HY ⊢
  rw [← hn] at hsz
  clear hn hn1 hn2
  go_enter Tryz.func77, Tryz.ntmps77
  go_wp2_with fail
  go_loopw [7, 8] (fun u v W => ∃ (A b : Nat) (e : Array α), u = .int .i64 A ∧ v = .int .i64 b ∧ A ≤ n ∧ A + 20 ≤ b ∧ b ≤ A + 20 ∧ Hid (∃ q, A = q * 20) ∧ Hid (First (ltC cf) 20 A e) ∧ Hid (SortW w0 B g cap 37 (encS hd) e W) ∧ Hid (e.size = n) ∧ Hid (PermIn 0 n d e)) (fun _ v _ => n + 20 - (intOf v).toNat)
  case atStart => exact ⟨0, 20, d, rfl, rfl, Nat.zero_le _, Nat.le_refl _, Nat.le_refl _, Lib.hid ⟨0, by omega⟩, Lib.hid (fun q hq => by omega), HS, Lib.hid HN.out.symm, Lib.hid (permIn_refl _ _ _)⟩
  case round =>
    obtain ⟨A, b, e, rfl, rfl, hAn, hb1, hb2, hq, hf, he, hz, hp⟩ := hrel
    have HB := Lib.hid (show b = A + 20 by omega)
    by_cases hlt : b ≤ n
    · have HC := Lib.hid (HI.out e wr A b he.out hz.out (by omega) hlt)
      go_wp2_with (go_at_call 95; refine HC.out.mono ?_; rintro r w1 ⟨rfl, d1, hs1, hp1, hso1⟩; replace hs1 := Lib.hid hs1; replace hp1 := Lib.hid hp1; replace hso1 := Lib.hid hso1)
      go_roundw
      case rel =>
        have HF := firstL_step hq.out HB.out hf.out hp1.out hso1.out
        exact ⟨b, b + 20, d1, rfl, congrArg (Value.int .i64) (by omega), hlt, Nat.le_refl _, Nat.le_refl _, Lib.hid HF.2, Lib.hid HF.1, hs1, Lib.hid (hp1.out.1.trans hz.out), Lib.hid (permIn_trans _ _ _ 0 n hp.out (permIn_mono _ _ _ _ _ _ (Nat.zero_le _) hlt (by rw [hz.out]; exact Nat.le_refl _) hp1.out))⟩
      case measure => simp [intOf]; omega
    · have HC := Lib.hid (HI.out e wr A n he.out hz.out hAn (Nat.le_refl _))
      go_wp2_with (go_at_call 95; refine HC.out.mono ?_; rintro r w1 ⟨rfl, d1, hs1, hp1, hso1⟩; replace hs1 := Lib.hid hs1; replace hp1 := Lib.hid hp1; replace hso1 := Lib.hid hso1)
      have hbl := Lib.hid (firstL_last hq.out hf.out (by omega) hp1.out hso1.out)
      have hz1 := Lib.hid (hp1.out.1.trans hz.out)
      have hp2 := Lib.hid (permIn_trans _ _ _ 0 n hp.out (permIn_mono _ _ _ _ _ _ (Nat.zero_le _) (Nat.le_refl _) (by rw [hz.out]; exact Nat.le_refl _) hp1.out))
      clear hp hf hq he HB HC
      go_loopw [6, 7, 8] (fun u v x W => ∃ (bs : Nat) (e : Array α) (p q : Int), u = .int .i64 bs ∧ v = .int .i64 p ∧ x = .int .i64 q ∧ 20 ≤ bs ∧ bs ≤ 16000000 ∧ Hid (Blocks (ltC cf) bs n e) ∧ Hid (SortW w0 B g cap 37 (encS hd) e W) ∧ Hid (e.size = n) ∧ Hid (PermIn 0 n d e)) (fun u _ _ _ => n - (intOf u).toNat)
      case atStart => exact ⟨20, d1, _, _, rfl, rfl, rfl, Nat.le_refl _, by omega, hbl, hs1, hz1, hp2⟩
      case round =>
        clear hbl hs1 hz1 hp2 hp1 hso1
        obtain ⟨bs, e, p, q, rfl, rfl, rfl, hbs, hbs2, hbl, he, hz, hp⟩ := hrel
        by_cases hlt2 : bs < n
        · go_wp2_with fail
          go_loopw [7, 8] (fun u v W => ∃ (A b : Nat) (e : Array α), u = .int .i64 A ∧ v = .int .i64 b ∧ A ≤ n ∧ A + 2 * bs ≤ b ∧ b ≤ A + 2 * bs ∧ Hid (∃ q, A = q * (2 * bs)) ∧ Hid (Level (ltC cf) bs n A e) ∧ Hid (SortW w0 B g cap 37 (encS hd) e W) ∧ Hid (e.size = n) ∧ Hid (PermIn 0 n d e)) (fun _ v _ => n + 2 * bs - (intOf v).toNat)
          case atStart => exact ⟨0, 2 * bs, e, rfl, congrArg (Value.int .i64) (by omega), Nat.zero_le _, by omega, by omega, Lib.hid ⟨0, by omega⟩, Lib.hid (Level.start (by omega) hbl.out), he, hz, hp⟩
          case round =>
            clear hbl he hz hp
            obtain ⟨A, b, e, rfl, rfl, hAn2, hb3, hb4, hq, hf, he, hz, hp⟩ := hrel
            have HB := Lib.hid (show b = A + 2 * bs by omega)
            by_cases hlt3 : b ≤ n
            · obtain ⟨M, hM⟩ : ∃ M, M = A + bs := ⟨_, rfl⟩
              have hM1 : A + bs ≤ M := by omega
              have hM2 : M ≤ A + bs := by omega
              have HM := Lib.hid hM
              clear hM
              have HR := Lib.hid (levelL_runs hq.out hf.out)
              have HC := Lib.hid (HY.out e wr A M b he.out hz.out (by omega) (by omega) hlt3 (srt_sub HR.out.1 (Nat.le_refl _) (by omega)) (by have := HR.out.2; rw [← HM.out] at this; exact srt_sub this (Nat.le_refl _) (by omega)))
              have qM : (A : Int) + (bs : Int) = (M : Int) := by omega
              go_wp2_with (go_at_call 96; refine HC.out.mono ?_; rintro r w1 ⟨rfl, d1, hs1, hp1, hso1⟩; replace hs1 := Lib.hid hs1; replace hp1 := Lib.hid hp1; replace hso1 := Lib.hid hso1)
              go_roundw
              case rel =>
                have HF := levelL_step (by omega) hq.out HB.out hf.out hlt3 hp1.out hso1.out
                exact ⟨b, b + 2 * bs, d1, rfl, congrArg (Value.int .i64) (by omega), hlt3, Nat.le_refl _, Nat.le_refl _, Lib.hid HF.2, Lib.hid HF.1, hs1, Lib.hid (hp1.out.1.trans hz.out), Lib.hid (permIn_trans _ _ _ 0 n hp.out (permIn_mono _ _ _ _ _ _ (Nat.zero_le _) hlt3 (by rw [hz.out]; exact Nat.le_refl _) hp1.out))⟩
              case measure => simp [intOf]; omega
            · obtain ⟨M, hM⟩ : ∃ M, M = A + bs := ⟨_, rfl⟩
              have hM1 : A + bs ≤ M := by omega
              have hM2 : M ≤ A + bs := by omega
              have HM := Lib.hid hM
              clear hM
              have HR := Lib.hid (levelL_runs hq.out hf.out)
              have qM : (A : Int) + (bs : Int) = (M : Int) := by omega
              by_cases hlt4 : M < n
              · have HC := Lib.hid (HY.out e wr A M n he.out hz.out (by omega) hlt4 (Nat.le_refl _) (srt_sub HR.out.1 (Nat.le_refl _) (by omega)) (by have := HR.out.2; rw [← HM.out] at this; exact srt_sub this (Nat.le_refl _) (by omega)))
                go_wp2_with (go_at_call 96; refine HC.out.mono ?_; rintro r w1 ⟨rfl, d1, hs1, hp1, hso1⟩; replace hs1 := Lib.hid hs1; replace hp1 := Lib.hid hp1; replace hso1 := Lib.hid hso1)
                go_roundw
                case rel =>
                  exact ⟨bs * 2, d1, _, _, congrArg (Value.int .i64) (by omega), rfl, rfl, by omega, by omega, Lib.hid (levelL_last hq.out hf.out (by omega) hAn2 hp1.out hso1.out), hs1, Lib.hid (hp1.out.1.trans hz.out), Lib.hid (permIn_trans _ _ _ 0 n hp.out (permIn_mono _ _ _ _ _ _ (Nat.zero_le _) (Nat.le_refl _) (by rw [hz.out]; exact Nat.le_refl _) hp1.out))⟩
                case measure => simp [intOf]; omega
              · go_wp2_with fail
                go_roundw
                case rel =>
                  exact ⟨bs * 2, e, _, _, congrArg (Value.int .i64) (by omega), rfl, rfl, by omega, by omega, Lib.hid (levelL_last hq.out hf.out (by omega) hAn2 (permIn_refl _ _ _) (srt_sub HR.out.1 (Nat.le_refl _) (by omega))), he, hz, hp⟩
                case measure => simp [intOf]; omega
        · go_wp2_with fail
          go_end0
          exact ⟨rfl, e, he.out, hp.out, hbl.out.done (by omega)⟩
set_option maxRecDepth 100000 in
theorem sw_sortStable (w0 : World) (B g cap : Nat) (hd : α → HeadS) (cf : α → α → Int) (f : Nat) (cb : Array Value) (d : Array α) (w : World)
    (eg : ∀ args w, (callFunc f args).run Tryz.prog w = .ok (.enter f args) w) (hcmp : CmpOk Tryz.prog f cb (encS hd) cf w0 g) (hS : SWO (ltC cf)) (hs : SortW w0 B g cap 37 (encS hd) d w) (hsz : d.size ≤ 8000000) :
    Calls Tryz.prog 65 #[.slice (some ⟨g, 0, none⟩) d.size cap, .func (.func f) #[] cb] w fun e w' => e = .returned (.tuple #[]) ∧ ∃ d', SortW w0 B g cap 37 (encS hd) d' w' ∧ PermIn 0 d.size d d' ∧ SortedIn (ltC cf) 0 d.size d' := by
  have HS := Lib.hid (sw_stable w0 B g cap hd cf f cb d w eg hcmp hS hs hsz)
  clear hs hcmp hS
  go_enter Tryz.func65, Tryz.ntmps65
  go_wp2_with (go_at_call 77; refine HS.out.mono ?_; rintro r w1 ⟨rfl, HE⟩; replace HE := Lib.hid HE)
  go_end0
  exact ⟨rfl, HE.out⟩
end Go.Proofs.YtbjddimafilflaaGreatDoor

/- A ROW WHOSE ELEMENTS HAVE SEVERAL CELLS: what copy, append and clear make of it. -/
namespace Go.Proofs.YtbjddimafilflaaGreatDoor
open Go.RowKit
/-- a block that is known whole -/
def Blk (w : World) (g : Nat) (t : TypeId) (cs : List Value) : Prop := w.heap[g]? = some (.cells cs.toArray t (0, 0))
theorem Blk.ext {w w' : World} {g : Nat} {t : TypeId} {cs : List Value} (h : Blk w g t cs) (e : Ext w w') : Blk w' g t cs := e.heap h
theorem Blk.cell {w : World} {g : Nat} {t : TypeId} {cs : List Value} (h : Blk w g t cs) (i : Nat) : w.cell? ⟨g, i, none⟩ = cs[i]? := by
  rw [cell_of_row w g i _ t (0, 0) h]; simp
theorem Blk.lt {w : World} {g : Nat} {t : TypeId} {cs : List Value} (h : Blk w g t cs) : g < w.heap.size := by
  unfold Blk at h
  rcases Nat.lt_or_ge g w.heap.size with hlt | hge
  · exact hlt
  · rw [Array.getElem?_eq_none hge] at h; cases h
theorem Blk.own {w : World} {g base : Nat} {t size n cap : Nat} {cs xs : List Value} (h : Blk w g t cs) (hb : base ≤ g) (hn : n ≤ cap) (hc : cap ≤ maxLen) (hl : cs.length = cap * size) (hx : xs = cs.take (n * size)) :
    w.ownsRow base t size (.slice (some ⟨g, 0, none⟩) n cap) n xs := by
  subst hx
  refine ⟨?_, .inr ⟨g, cap, cs.toArray, rfl, hb, h, hn, hc, by simpa using hl, by simp⟩⟩
  rw [List.length_take, hl, Nat.min_eq_left (Nat.mul_le_mul_right _ hn)]
/-- the row behind a store of several cells -/
def laidAt (cur : List Value) (o : Nat) (cs : List Value) : List Value := cur.take o ++ cs ++ cur.drop (o + cs.length)
theorem laidAt_len {cur cs : List Value} {o : Nat} (h : o + cs.length ≤ cur.length) : (laidAt cur o cs).length = cur.length := by
  unfold laidAt; simp; omega
theorem take_laid_lt {cur cs : List Value} {o p : Nat} (h : o ≤ cur.length) (hp : p ≤ o) : (laidAt cur o cs).take p = cur.take p := by
  unfold laidAt
  rw [List.append_assoc, List.take_append_of_le_length (by simp; omega), List.take_take, Nat.min_eq_left hp]
theorem Blk.set {w : World} {g : Nat} {t : TypeId} {cs : List Value} (h : Blk w g t cs) (cs' : List Value) : Blk (w.setRow g cs'.toArray) g t cs' := setRow_heap w g cs.toArray _ t _ h
theorem Ext.setRow {wb w : World} {g : Nat} (h : Ext wb w) (hg : wb.heap.size ≤ g) (cs : Array Value) : Ext wb (w.setRow g cs) :=
  Below.trans h ⟨rfl, rfl, rfl, by simp [World.setRow], fun k hk => setRow_other w g k cs (by omega)⟩
theorem step_append_run' {P : Program} {ops : Array Oper} {o : Oper} {a : Act} {w : World} {K : Act → World → Prop} {Q : Exit → Act → World → Prop} {E : Prop} (hg : o.guard = none) (s x : Operand) (t t' : TypeId)
    (ho : o.op = .call { callee := .builtin .append, args := #[s, x], argTypes := #[t, t'] }) (v u : Value) (hs : a.eval s = v) (hx : a.eval x = u) {v' : Value} {w' : World}
    (hr : (Builtin.append_ #[t, t'] o.type #[v, u]).run P w = .ok v' w') (hK : K (a.put o.dst v') w') : if Region.wanted o (yielded ops a.tmps) = true then Oper.wp P o a w K Q else E := by
  have hw : Region.wanted o (yielded ops a.tmps) = true := by simp [Region.wanted, hg]
  rw [if_pos hw]
  unfold Oper.wp execOp
  simp only [ho, resolve, invoke, builtin, Sem.run_bind, Sem.run_pure, Result.andThen_ok, List.map_toArray, List.map_cons, List.map_nil, hs, hx, hr]
  exact hK
section
variable {P : Program}
theorem run_clearK (w : World) (t ty elem g o n c : Nat) (z : Value) (cur : List Value) (tt : TypeId)
    (hu : P.underlying t = some (.slice elem)) (hz : ∀ w, (zeroValue elem).run P w = .ok z w) (hn : 0 < n)
    (hg : Blk w g tt cur) (hfit : o + (Builtin.zeroCells z.cells n).size ≤ cur.length) (h1 : ∀ v ∈ (Builtin.zeroCells z.cells n).toList, v.oneCell' = true) :
    (Builtin.clear_ #[t] ty #[.slice (some ⟨g, o, none⟩) n c]).run P w = .ok (.tuple #[]) (w.setRow g (laidAt cur o (Builtin.zeroCells z.cells n).toList).toArray) := by
  have hst := run_storeCells_at P g o tt (Builtin.zeroCells z.cells n).toList 0 cur.toArray w hg (by simpa using hfit) h1
  unfold laidAt
  obtain ⟨m, rfl⟩ : ∃ m, n = m + 1 := ⟨n - 1, by omega⟩
  simp [Builtin.clear_, run_underlying hu, hz, hst]
end
end Go.Proofs.YtbjddimafilflaaGreatDoor

/- PLAIN: decimal numerals and back. No program. -/
namespace Go.Proofs.YtbjddimafilflaaGreatDoor
/-- in the range of num -/
def inB (n : Int) : Bool := decide (-1000000000000000 ≤ n) && decide (n ≤ 1000000000000000)
theorem inB_true {n : Int} : inB n = true ↔ -1000000000000000 ≤ n ∧ n ≤ 1000000000000000 := by
  unfold inB; rw [Bool.and_eq_true, decide_eq_true_iff, decide_eq_true_iff]
theorem inB_false {n : Int} : inB n = false ↔ n < -1000000000000000 ∨ 1000000000000000 < n := by
  rw [← Bool.not_eq_true, inB_true]; omega
theorem inB_cases (n : Int) : (inB n = true ∧ -1000000000000000 ≤ n ∧ n ≤ 1000000000000000) ∨ (inB n = false ∧ (n < -1000000000000000 ∨ 1000000000000000 < n)) := by
  cases h : inB n
  · right; exact ⟨rfl, inB_false.1 h⟩
  · left; exact ⟨rfl, inB_true.1 h⟩
end Go.Proofs.YtbjddimafilflaaGreatDoor
