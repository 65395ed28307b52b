/- PARTS OF THE WALKS, joined: SaE, PtG, CoE, MapOf, CoF, CoG. -/
import Derived.Test.YtnheioehadldmaaGreatR07
import Derived.Test.YtnheioehadldmaaGreatR05
import Derived.Test.YtnheioehadldmaaGreatR02
import Derived.Test.YtnheioehadldmaaGreatR06
import Derived.Maps.OwnSet
import Derived.Maps.OwnOps
import Derived.Test.YtnheioehadldmaaGreatR00
/- THE WALK over slices.stableCmpFunc and slices.SortStableFunc, at entries. -/
namespace Go.Proofs.YtnheioehadldmaaGreat
open Go.RowKit Go.Sort
theorem firstL_step {lt : Sh → Sh → Bool} {bs A b : Nat} {d e : Array Sh} (hq : ∃ q, A = q * bs) (hb : b = A + bs) (h : First lt bs A d) (hp : PermIn A b d e) (hs : SortedIn lt A b e) : First lt bs b e ∧ ∃ q, b = q * bs := by
 obtain ⟨q, rfl⟩ := hq
 subst hb
 have e1 : (q + 1) * bs = q * bs + bs := by rw [Nat.add_mul, Nat.one_mul]
 have := h.step hp hs
 rw [e1] at this
 exact ⟨this, q + 1, e1.symm⟩
theorem firstL_last {lt : Sh → Sh → Bool} {bs n A : Nat} {d e : Array Sh} (hq : ∃ q, A = q * bs) (h : First lt bs A d) (hn : n < A + bs) (hp : PermIn A n d e) (hs : SortedIn lt A n e) : Blocks lt bs n e := by
 obtain ⟨q, rfl⟩ := hq
 exact h.last hn hp hs
theorem levelL_step {lt : Sh → Sh → Bool} {bs n A b : Nat} {d e : Array Sh} (hb : 0 < bs) (hq : ∃ q, A = q * (2 * bs)) (hB : b = A + 2 * bs) (h : Level lt bs n A d) (hn : b ≤ n) (hp : PermIn A b d e) (hs : SortedIn lt A b e) : Level lt bs n b e ∧ ∃ q, b = q * (2 * bs) := by
 obtain ⟨q, rfl⟩ := hq
 subst hB
 have e1 : (q + 1) * (2 * bs) = q * (2 * bs) + 2 * bs := by rw [Nat.add_mul, Nat.one_mul]
 have := h.step hb hn hp hs
 rw [e1] at this
 exact ⟨this, q + 1, e1.symm⟩
theorem levelL_last {lt : Sh → Sh → Bool} {bs n A : Nat} {d e : Array Sh} (hq : ∃ q, A = q * (2 * bs)) (h : Level lt bs n A d) (hn : n < A + 2 * bs) (ha : A ≤ n) (hp : PermIn A n d e) (hs : SortedIn lt A n e) : Blocks lt (bs * 2) n e := by
 obtain ⟨q, rfl⟩ := hq
 exact h.last hn ha hp hs
theorem levelL_runs {lt : Sh → Sh → Bool} {bs n A : Nat} {d : Array Sh} (hq : ∃ q, A = q * (2 * bs)) (h : Level lt bs n A d) : SortedIn lt A (min (A + bs) n) d ∧ SortedIn lt (A + bs) (min (A + bs + bs) n) d := by
 obtain ⟨q, rfl⟩ := hq
 exact h.runs
set_option maxRecDepth 100000 in
set_option maxHeartbeats 6400000 in
theorem sm_stable (w0 : World) (B g cap : Nat) (cf : Sh → Sh → Int) (f : Nat) (cb : Array Value) (d : Array Sh) (w : World)
  (eg : ∀ args w, (callFunc f args).run Tryz.prog w = .ok (.enter f args) w) (hcmp : CmpOkM Tryz.prog f cb cf w0 g) (hS : SWO (ltM cf)) (hs : SortM w0 B g cap 41 d w) (hsz : d.size ≤ 8000000) :
  Calls Tryz.prog 79 #[.slice (some ⟨g, 0, none⟩) d.size cap, .int .i64 d.size, .func (.func f) #[] cb] w fun e w' => e = .returned (.tuple #[]) ∧ ∃ d', SortM w0 B g cap 41 d' w' ∧ PermIn 0 d.size d d' ∧ SortedIn (ltM cf) 0 d.size d' := by
 have HI := Lib.hid (fun (e : Array Sh) (W : World) (a b : Nat) (h : SortM w0 B g cap 41 e W) (hz : e.size = d.size) (hab : a ≤ b) (hb : b ≤ d.size) => (by
  rw [← hz]; exact sm_insert w0 B g cap cf f cb e a b W eg hcmp hS h hab (hz ▸ hb) (hz ▸ hsz) : Calls Tryz.prog 92 #[.slice (some ⟨g, 0, none⟩) d.size cap, .int .i64 a, .int .i64 b, .func (.func f) #[] cb] W fun r w' => r = .returned (.tuple #[]) ∧ ∃ d', SortM w0 B g cap 41 d' w' ∧ PermIn a b e d' ∧ SortedIn (ltM cf) a b d'))
 have HY := Lib.hid (fun (e : Array Sh) (W : World) (a m b : Nat) (h : SortM w0 B g cap 41 e W) (hz : e.size = d.size) (h1 : a < m) (h2 : m < b) (hb : b ≤ d.size) (hl : SortedIn (ltM cf) a m e) (hr : SortedIn (ltM cf) m b e) => (by
  rw [← hz]; exact sm_sym w0 B g cap cf f cb e a m b W eg hcmp hS h h1 h2 (hz ▸ hb) (hz ▸ hsz) hl hr : Calls Tryz.prog 93 #[.slice (some ⟨g, 0, none⟩) d.size cap, .int .i64 a, .int .i64 m, .int .i64 b, .func (.func f) #[] cb] W fun r w' => r = .returned (.tuple #[]) ∧ ∃ d', SortM w0 B g cap 41 d' w' ∧ PermIn a b e d' ∧ SortedIn (ltM cf) a b d'))
 have HS := Lib.hid hs
 clear hs hcmp hS
 obtain ⟨n, hn⟩ : ∃ n, n = d.size := ⟨_, rfl⟩
 have HN := Lib.hid hn
 have hn1 : n ≤ d.size := by omega
 have hn2 : d.size ≤ n := by omega
 rw [← hn] at HI HY ⊢
 rw [← hn] at hsz
 clear hn hn1 hn2
 go_enter Tryz.func79, Tryz.ntmps79
 go_wp2_with fail
 go_loopw [7, 8] (fun u v W => ∃ (A b : Nat) (e : Array Sh), u = .int .i64 A ∧ v = .int .i64 b ∧ A ≤ n ∧ A + 20 ≤ b ∧ b ≤ A + 20 ∧ Hid (∃ q, A = q * 20) ∧ Hid (First (ltM cf) 20 A e) ∧ Hid (SortM w0 B g cap 41 e W) ∧ Hid (e.size = n) ∧ Hid (PermIn 0 n d e)) (fun _ v _ => n + 20 - (intOf v).toNat)
 case atStart => exact ⟨0, 20, d, rfl, rfl, Nat.zero_le _, Nat.le_refl _, Nat.le_refl _, Lib.hid ⟨0, by omega⟩, Lib.hid (fun q hq => by omega), HS, Lib.hid HN.out.symm, Lib.hid (permIn_refl _ _ _)⟩
 case round =>
  obtain ⟨A, b, e, rfl, rfl, hAn, hb1, hb2, hq, hf, he, hz, hp⟩ := hrel
  have HB := Lib.hid (show b = A + 20 by omega)
  by_cases hlt : b ≤ n
  ·have HC := Lib.hid (HI.out e wr A b he.out hz.out (by omega) hlt)
   go_wp2_with (go_at_call 92; refine HC.out.mono ?_; rintro r w1 ⟨rfl, d1, hs1, hp1, hso1⟩; replace hs1 := Lib.hid hs1; replace hp1 := Lib.hid hp1; replace hso1 := Lib.hid hso1)
   go_roundw
   case rel =>
    have HF := firstL_step hq.out HB.out hf.out hp1.out hso1.out
    exact ⟨b, b + 20, d1, rfl, congrArg (Value.int .i64) (by omega), hlt, Nat.le_refl _, Nat.le_refl _, Lib.hid HF.2, Lib.hid HF.1, hs1, Lib.hid (hp1.out.1.trans hz.out), Lib.hid (permIn_trans _ _ _ 0 n hp.out (permIn_mono _ _ _ _ _ _ (Nat.zero_le _) hlt (by rw [hz.out]; exact Nat.le_refl _) hp1.out))⟩
   case measure => simp [intOf]; omega
  ·have HC := Lib.hid (HI.out e wr A n he.out hz.out hAn (Nat.le_refl _))
   go_wp2_with (go_at_call 92; refine HC.out.mono ?_; rintro r w1 ⟨rfl, d1, hs1, hp1, hso1⟩; replace hs1 := Lib.hid hs1; replace hp1 := Lib.hid hp1; replace hso1 := Lib.hid hso1)
   have hbl := Lib.hid (firstL_last hq.out hf.out (by omega) hp1.out hso1.out)
   have hz1 := Lib.hid (hp1.out.1.trans hz.out)
   have hp2 := Lib.hid (permIn_trans _ _ _ 0 n hp.out (permIn_mono _ _ _ _ _ _ (Nat.zero_le _) (Nat.le_refl _) (by rw [hz.out]; exact Nat.le_refl _) hp1.out))
   clear hp hf hq he HB HC
   go_loopw [6, 7, 8] (fun u v x W => ∃ (bs : Nat) (e : Array Sh) (p q : Int), u = .int .i64 bs ∧ v = .int .i64 p ∧ x = .int .i64 q ∧ 20 ≤ bs ∧ bs ≤ 16000000 ∧ Hid (Blocks (ltM cf) bs n e) ∧ Hid (SortM w0 B g cap 41 e W) ∧ Hid (e.size = n) ∧ Hid (PermIn 0 n d e)) (fun u _ _ _ => n - (intOf u).toNat)
   case atStart => exact ⟨20, d1, _, _, rfl, rfl, rfl, Nat.le_refl _, by omega, hbl, hs1, hz1, hp2⟩
   case round =>
    clear hbl hs1 hz1 hp2 hp1 hso1
    obtain ⟨bs, e, p, q, rfl, rfl, rfl, hbs, hbs2, hbl, he, hz, hp⟩ := hrel
    by_cases hlt2 : bs < n
    ·go_wp2_with fail
     go_loopw [7, 8] (fun u v W => ∃ (A b : Nat) (e : Array Sh), u = .int .i64 A ∧ v = .int .i64 b ∧ A ≤ n ∧ A + 2 * bs ≤ b ∧ b ≤ A + 2 * bs ∧ Hid (∃ q, A = q * (2 * bs)) ∧ Hid (Level (ltM cf) bs n A e) ∧ Hid (SortM w0 B g cap 41 e W) ∧ Hid (e.size = n) ∧ Hid (PermIn 0 n d e)) (fun _ v _ => n + 2 * bs - (intOf v).toNat)
     case atStart => exact ⟨0, 2 * bs, e, rfl, congrArg (Value.int .i64) (by omega), Nat.zero_le _, by omega, by omega, Lib.hid ⟨0, by omega⟩, Lib.hid (Level.start (by omega) hbl.out), he, hz, hp⟩
     case round =>
      clear hbl he hz hp
      obtain ⟨A, b, e, rfl, rfl, hAn2, hb3, hb4, hq, hf, he, hz, hp⟩ := hrel
      have HB := Lib.hid (show b = A + 2 * bs by omega)
      by_cases hlt3 : b ≤ n
      ·obtain ⟨M, hM⟩ : ∃ M, M = A + bs := ⟨_, rfl⟩
       have hM1 : A + bs ≤ M := by omega
       have hM2 : M ≤ A + bs := by omega
       have HM := Lib.hid hM
       clear hM
       have HR := Lib.hid (levelL_runs hq.out hf.out)
       have HC := Lib.hid (HY.out e wr A M b he.out hz.out (by omega) (by omega) hlt3 (srt_sub HR.out.1 (Nat.le_refl _) (by omega)) (by have := HR.out.2; rw [← HM.out] at this; exact srt_sub this (Nat.le_refl _) (by omega)))
       have qM : (A : Int) + (bs : Int) = (M : Int) := by omega
       go_wp2_with (go_at_call 93; refine HC.out.mono ?_; rintro r w1 ⟨rfl, d1, hs1, hp1, hso1⟩; replace hs1 := Lib.hid hs1; replace hp1 := Lib.hid hp1; replace hso1 := Lib.hid hso1)
       go_roundw
       case rel =>
        have HF := levelL_step (by omega) hq.out HB.out hf.out hlt3 hp1.out hso1.out
        exact ⟨b, b + 2 * bs, d1, rfl, congrArg (Value.int .i64) (by omega), hlt3, Nat.le_refl _, Nat.le_refl _, Lib.hid HF.2, Lib.hid HF.1, hs1, Lib.hid (hp1.out.1.trans hz.out), Lib.hid (permIn_trans _ _ _ 0 n hp.out (permIn_mono _ _ _ _ _ _ (Nat.zero_le _) hlt3 (by rw [hz.out]; exact Nat.le_refl _) hp1.out))⟩
       case measure => simp [intOf]; omega
      ·obtain ⟨M, hM⟩ : ∃ M, M = A + bs := ⟨_, rfl⟩
       have hM1 : A + bs ≤ M := by omega
       have hM2 : M ≤ A + bs := by omega
       have HM := Lib.hid hM
       clear hM
       have HR := Lib.hid (levelL_runs hq.out hf.out)
       have qM : (A : Int) + (bs : Int) = (M : Int) := by omega
       by_cases hlt4 : M < n
       ·have HC := Lib.hid (HY.out e wr A M n he.out hz.out (by omega) hlt4 (Nat.le_refl _) (srt_sub HR.out.1 (Nat.le_refl _) (by omega)) (by have := HR.out.2; rw [← HM.out] at this; exact srt_sub this (Nat.le_refl _) (by omega)))
        go_wp2_with (go_at_call 93; refine HC.out.mono ?_; rintro r w1 ⟨rfl, d1, hs1, hp1, hso1⟩; replace hs1 := Lib.hid hs1; replace hp1 := Lib.hid hp1; replace hso1 := Lib.hid hso1)
        go_roundw
        case rel =>
         exact ⟨bs * 2, d1, _, _, congrArg (Value.int .i64) (by omega), rfl, rfl, by omega, by omega, Lib.hid (levelL_last hq.out hf.out (by omega) hAn2 hp1.out hso1.out), hs1, Lib.hid (hp1.out.1.trans hz.out), Lib.hid (permIn_trans _ _ _ 0 n hp.out (permIn_mono _ _ _ _ _ _ (Nat.zero_le _) (Nat.le_refl _) (by rw [hz.out]; exact Nat.le_refl _) hp1.out))⟩
        case measure => simp [intOf]; omega
       ·go_wp2_with fail
        go_roundw
        case rel =>
         exact ⟨bs * 2, e, _, _, congrArg (Value.int .i64) (by omega), rfl, rfl, by omega, by omega, Lib.hid (levelL_last hq.out hf.out (by omega) hAn2 (permIn_refl _ _ _) (srt_sub HR.out.1 (Nat.le_refl _) (by omega))), he, hz, hp⟩
        case measure => simp [intOf]; omega
    ·go_wp2_with fail
     go_end0
     exact ⟨rfl, e, he.out, hp.out, hbl.out.done (by omega)⟩
set_option maxRecDepth 100000 in
theorem sm_sortStable (w0 : World) (B g cap : Nat) (cf : Sh → Sh → Int) (f : Nat) (cb : Array Value) (d : Array Sh) (w : World)
  (eg : ∀ args w, (callFunc f args).run Tryz.prog w = .ok (.enter f args) w) (hcmp : CmpOkM Tryz.prog f cb cf w0 g) (hS : SWO (ltM cf)) (hs : SortM w0 B g cap 41 d w) (hsz : d.size ≤ 8000000) :
  Calls Tryz.prog 51 #[.slice (some ⟨g, 0, none⟩) d.size cap, .func (.func f) #[] cb] w fun e w' => e = .returned (.tuple #[]) ∧ ∃ d', SortM w0 B g cap 41 d' w' ∧ PermIn 0 d.size d d' ∧ SortedIn (ltM cf) 0 d.size d' := by
 have HS := Lib.hid (sm_stable w0 B g cap cf f cb d w eg hcmp hS hs hsz)
 clear hs hcmp hS
 go_enter Tryz.func51, Tryz.ntmps51
 go_wp2_with (go_at_call 79; refine HS.out.mono ?_; rintro r w1 ⟨rfl, HE⟩; replace HE := Lib.hid HE)
 go_end0
 exact ⟨rfl, HE.out⟩
end Go.Proofs.YtnheioehadldmaaGreat

/- THE WALKS over the steps of a node. -/
namespace Go.Proofs.YtnheioehadldmaaGreat
open Go.RowKit Go.Sort
theorem permIn_wholeM {α : Type} [Inhabited α] {d d' : Array α} (h : PermIn 0 d.size d d') : d'.toList.Perm d.toList := by
 have h1 := h.2.2
 have h2 : d'.extract 0 d.size = d' := by rw [← h.1]; exact Array.extract_size
 rw [h2, Array.extract_size] at h1
 exact h1
theorem swo_ofM {k : Sh → Sh → Int} (ha : ∀ x y, k y x = - k x y) (ht : ∀ x y z, k x y ≤ 0 → k y z ≤ 0 → k x z ≤ 0) : SWO (ltM k) := by
 have hlt : ∀ {x y}, ltM k x y = true ↔ k x y < 0 := fun {x y} => by unfold ltM; exact decide_eq_true_iff
 have hle : ∀ {x y}, ltM k x y = false ↔ k y x ≤ 0 := fun {x y} => by
  unfold ltM; rw [decide_eq_false_iff_not]; have := ha x y; omega
 refine ⟨fun x => ?_, fun x y z h1 h2 => ?_, fun x y z h1 h2 => ?_⟩
 ·rw [hle]; have := ha x x; omega
 ·rw [hlt] at *
  have := ht x y z (by omega) (by omega)
  have h5 := ha x z
  by_cases h6 : k x z = 0
  ·have h7 := ht z x y (by omega) (by omega)
   have h8 := ha y z
   omega
  ·omega
 ·rw [hle] at *
  exact ht z y x h2 h1
set_option maxRecDepth 100000 in
set_option maxHeartbeats 800000 in
theorem sm_none (A : Option Addr) (c : Nat) (fv : Value) (w : World) : Calls Tryz.prog 92 #[.slice A 0 c, .int .i64 0, .int .i64 0, fv] w fun e w' => e = .returned (.tuple #[]) ∧ w = w' := by
 go_enter Tryz.func92, Tryz.ntmps92
 go_wp2
 go_loopw [8] (fun u W => u = .int .i64 1 ∧ W = w) (fun _ _ => 0)
 case atStart => exact ⟨rfl, rfl⟩
 case round =>
  obtain ⟨rfl, rfl⟩ := hrel
  go_wp2
  go_end0
  exact ⟨rfl, rfl⟩
set_option maxRecDepth 100000 in
set_option maxHeartbeats 800000 in
theorem sm_stable0 (A : Option Addr) (c : Nat) (fv : Value) (w : World) : Calls Tryz.prog 79 #[.slice A 0 c, .int .i64 0, fv] w fun e w' => e = .returned (.tuple #[]) ∧ w = w' := by
 go_enter Tryz.func79, Tryz.ntmps79
 go_wp2_with fail
 go_loopw [7, 8] (fun u v W => u = .int .i64 0 ∧ v = .int .i64 20 ∧ W = w) (fun _ _ _ => 0)
 case atStart => exact ⟨rfl, rfl, rfl⟩
 case round =>
  obtain ⟨rfl, rfl, rfl⟩ := hrel
  go_wp2_with (go_at_call 92; refine (sm_none _ _ _ _).mono ?_; rintro e w' ⟨rfl, rfl⟩)
  go_loopw [6] (fun u W => u = .int .i64 20 ∧ W = wr) (fun _ _ => 0)
  case atStart => exact ⟨rfl, rfl⟩
  case round =>
   obtain ⟨rfl, rfl⟩ := hrel
   go_wp2
   go_end0
   exact ⟨rfl, rfl⟩
set_option maxRecDepth 100000 in
theorem sm_sort0 (A : Option Addr) (c : Nat) (fv : Value) (w : World) : Calls Tryz.prog 51 #[.slice A 0 c, fv] w fun e w' => e = .returned (.tuple #[]) ∧ w = w' := by
 go_enter Tryz.func51, Tryz.ntmps51
 go_wp2_with (go_at_call 79; refine (sm_stable0 _ _ _ _).mono ?_; rintro e w' ⟨rfl, rfl⟩)
 go_end0
 exact ⟨rfl, rfl⟩
/- plain -/
def cmpHop (a b : Hop) : Int := thenC (Lib.compareInt a.2 b.2) (Lib.compareInt a.1 b.1)
theorem TotC.hop : TotC cmpHop := (TotC.lex TotC.int TotC.int).pull (fun h : Hop => (h.2, h.1)) (fun _ _ h => by obtain ⟨h1, h2⟩ := Prod.mk.inj h; exact Prod.ext h2 h1)
/-- the steps of a node, in order -/
def stepsL (g : GraphG) (types : List ByteArray) (dir n : Int) : List Hop := sortO cmpHop (hopsE g types dir n)
theorem stepsL_perm (g : GraphG) (types : List ByteArray) (dir n : Int) : (stepsL g types dir n).Perm (hopsE g types dir n) := sortO_perm TotC.hop _
theorem stepsL_len (g : GraphG) (types : List ByteArray) (dir n : Int) : (stepsL g types dir n).length ≤ g.edges.length := by
 rw [(stepsL_perm g types dir n).length_eq]; exact List.length_filterMap_le _ _
def adjOf (n : Int) (h : Hop) : Sh := ⟨n, h.2, h.1⟩
def stC (a b : Sh) : Int := thenC (Lib.compareInt a.n b.n) (Lib.compareInt a.d b.d)
theorem stC_anti (x y : Sh) : stC y x = - stC x y := TotC.hop.anti (x.d, x.n) (y.d, y.n)
theorem stC_trans (x y z : Sh) (h : stC x y ≤ 0) (k : stC y z ≤ 0) : stC x z ≤ 0 := TotC.hop.trans (x.d, x.n) (y.d, y.n) (z.d, z.n) h k
theorem stC_orL (a b : Sh) : orL [Lib.compareInt a.n b.n, Lib.compareInt a.d b.d] = stC a b := by
 show thenC _ (thenC _ 0) = thenC _ _
 unfold thenC; split <;> (try split) <;> omega
theorem adj_sorted {n : Int} {H : List Hop} {d' : Array Sh} (hp : d'.toList.Perm (H.map (adjOf n))) (hs : d'.toList.Pairwise (fun x y => stC x y ≤ 0)) : d'.toList = (sortO cmpHop H).map (adjOf n) := by
 have h1 : d'.toList = (d'.toList.map (fun s : Sh => ((s.d, s.n) : Hop))).map (adjOf n) := by
  rw [List.map_map]
  have : ∀ s ∈ d'.toList, s.id = n := fun s hs => by
   obtain ⟨h, -, rfl⟩ := List.mem_map.1 (hp.mem_iff.1 hs); rfl
  calc d'.toList = d'.toList.map id := (List.map_id _).symm
   _ = _ := List.map_congr_left (fun s hs => by
    have := this s hs
    cases s; subst this; rfl)
 rw [h1]
 congr 1
 refine sortO_eq TotC.hop ?_ (List.pairwise_map.2 hs)
 have h2 := hp.map (fun s : Sh => ((s.d, s.n) : Hop))
 rw [List.map_map] at h2
 exact h2.trans (by rw [show ((fun s : Sh => ((s.d, s.n) : Hop)) ∘ adjOf n) = id from rfl, List.map_id])
theorem sorted_riseA {d : Array Sh} (h : SortedIn (ltM stC) 0 d.size d) : d.toList.Pairwise (fun x y => stC x y ≤ 0) := by
 rw [List.pairwise_iff_getElem]
 intro i j hi hj hij
 rw [Array.length_toList] at hi hj
 have := h i j (Nat.zero_le _) hij hj
 rw [getElem!_pos d i hi, getElem!_pos d j hj] at this
 unfold ltM at this
 have h1 := of_decide_eq_false this
 rw [Array.getElem_toList, Array.getElem_toList]
 have h2 := stC_anti d[i] d[j]
 omega
set_option maxRecDepth 100000 in
set_option maxHeartbeats 800000 in
theorem gr_Steps1 (a b : Sh) (w : World) :
  Calls Tryz.prog 52 #[.agg #[.int .i64 a.id, .int .i64 a.n, .int .i64 a.d], .agg #[.int .i64 b.id, .int .i64 b.n, .int .i64 b.d]] w fun e w' => e = .returned (.int .i64 (stC a b)) ∧ Ext w w' := by
 obtain ⟨q, w2, hq, hw2, hc, hx⟩ : ∃ (q : Nat) (w2 : World), q = w.heap.size ∧ w2 = (w.alloc (.cells #[.int .i64 a.id, .int .i64 a.n, .int .i64 a.d] 41)).alloc (.cells #[.int .i64 b.id, .int .i64 b.n, .int .i64 b.d] 41) ∧ (w2.cell? ⟨q, 0, none⟩ = some (.int .i64 a.id) ∧ w2.cell? ⟨q, 1, none⟩ = some (.int .i64 a.n) ∧ w2.cell? ⟨q, 2, none⟩ = some (.int .i64 a.d) ∧ w2.cell? ⟨q + 1, 0, none⟩ = some (.int .i64 b.id) ∧ w2.cell? ⟨q + 1, 1, none⟩ = some (.int .i64 b.n) ∧ w2.cell? ⟨q + 1, 2, none⟩ = some (.int .i64 b.d)) ∧ Ext w w2 :=
  ⟨_, _, rfl, rfl, ⟨by go_simp, by go_simp, by go_simp, by go_simp, by go_simp, by go_simp⟩, (by solve_by_elim [X0, X1, X2, X3])⟩
 have HW := Lib.hid hw2
 have HG := Lib.hid hq
 have HT := Lib.hid (stC_orL a b)
 have MK := Lib.hid (fun V (e : Ext w2 V) => (⟨e.cell hc.1, e.cell hc.2.1, e.cell hc.2.2.1, e.cell hc.2.2.2.1, e.cell hc.2.2.2.2.1, e.cell hc.2.2.2.2.2⟩ : V.cell? ⟨q, 0, none⟩ = some (.int .i64 a.id) ∧ V.cell? ⟨q, 1, none⟩ = some (.int .i64 a.n) ∧ V.cell? ⟨q, 2, none⟩ = some (.int .i64 a.d) ∧ V.cell? ⟨q + 1, 0, none⟩ = some (.int .i64 b.id) ∧ V.cell? ⟨q + 1, 1, none⟩ = some (.int .i64 b.n) ∧ V.cell? ⟨q + 1, 2, none⟩ = some (.int .i64 b.d)))
 clear hw2 hq hc
 generalize stC a b = tc at *
 go_enter Tryz.func52, Tryz.ntmps52
 go_upto_region 1 with (fail)
 rw [← HW.out, ← HG.out]
 clear HW HG
 refine wp_region_held_drew (S := (fun V => V.cell? ⟨q, 0, none⟩ = some (.int .i64 a.id) ∧ V.cell? ⟨q, 1, none⟩ = some (.int .i64 a.n) ∧ V.cell? ⟨q, 2, none⟩ = some (.int .i64 a.d) ∧ V.cell? ⟨q + 1, 0, none⟩ = some (.int .i64 b.id) ∧ V.cell? ⟨q + 1, 1, none⟩ = some (.int .i64 b.n) ∧ V.cell? ⟨q + 1, 2, none⟩ = some (.int .i64 b.d))) (by kernel_rfl) ?hs1 (fun hHeld => ?go1)
 case hs1 => (exact MK.out _ (by solve_by_elim [X0, X1, X2, X3]))
 refine TK 0 (v := ?v2) hHeld ?hy2 ?_
 case hy2 => (intro w _; go_simp <;> rfl)
 (try simp only [PU])
 refine TK 1 (v := ?v3) hHeld ?hy3 ?_
 case hy3 => (intro w hSw; (try dsimp only at hSw); go_simp <;> first | with_reducible rfl | rw [if_neg (by omega)] | rw [if_pos (by omega)])
 (try simp only [PU])
 refine TK 2 (v := ?v4) hHeld ?hy4 ?_
 case hy4 => (intro w _; go_simp <;> rfl)
 (try simp only [PU])
 refine TK 3 (v := ?v5) hHeld ?hy5 ?_
 case hy5 => (intro w hSw; (try dsimp only at hSw); go_simp <;> first | with_reducible rfl | rw [if_neg (by omega)] | rw [if_pos (by omega)])
 (try simp only [PU])
 refine TK 5 (v := ?v6) hHeld ?hy6 ?_
 case hy6 => (intro w _; go_simp <;> rfl)
 (try simp only [PU])
 refine TK 6 (v := ?v7) hHeld ?hy7 ?_
 case hy7 => (intro w hSw; (try dsimp only at hSw); go_simp <;> first | with_reducible rfl | rw [if_neg (by omega)] | rw [if_pos (by omega)])
 (try simp only [PU])
 refine TK 7 (v := ?v8) hHeld ?hy8 ?_
 case hy8 => (intro w _; go_simp <;> rfl)
 (try simp only [PU])
 refine TK 8 (v := ?v9) hHeld ?hy9 ?_
 case hy9 => (intro w hSw; (try dsimp only at hSw); go_simp <;> first | with_reducible rfl | rw [if_neg (by omega)] | rw [if_pos (by omega)])
 (try simp only [PU])
 refine wpAnyH_ready (rs := [4]) (by kernel_rfl) (by simp) ?_
 refine AllReadyH.cons (o := ⟨_, _, _, _, _, _⟩) rfl (fun K hK => ?step10x0) ?more10x0
 case more10x0 => exact AllReadyH.nil
 go_simp
 (refine (c_cmp_int _ _ _).mono ?_; rintro e w3 ⟨rfl, rfl⟩)
 refine hK.out _ _ ?hS10x0 (fun H10 => ?_)
 case hS10x0 => first | (exact MK.out _ (by solve_by_elim [X0, X1, X2, X3])) | ((try dsimp only); (exact MK.out _ (by solve_by_elim [X0, X1, X2, X3])))
 clear hK K
 clear hHeld
 (try simp only [PU])
 refine wpAnyH_ready (rs := [9]) (by kernel_rfl) (by simp) ?_
 refine AllReadyH.cons (o := ⟨_, _, _, _, _, _⟩) rfl (fun K hK => ?step11x0) ?more11x0
 case more11x0 => exact AllReadyH.nil
 go_simp
 (refine (c_cmp_int _ _ _).mono ?_; rintro e w4 ⟨rfl, rfl⟩)
 refine hK.out _ _ ?hS11x0 (fun H11 => ?_)
 case hS11x0 => first | (exact MK.out _ (by solve_by_elim [X0, X1, X2, X3])) | ((try dsimp only); (exact MK.out _ (by solve_by_elim [X0, X1, X2, X3])))
 clear hK K
 clear H10
 (try simp only [PU])
 refine wpAnyH_ready (rs := [10]) (by kernel_rfl) (by simp) ?_
 refine AllReadyH.cons (o := ⟨_, _, _, _, _, _⟩) rfl (fun K hK => ?step12x0) ?more12x0
 case more12x0 => exact AllReadyH.nil
 go_simp
 refine hK.out _ _ ?hS12x0 (fun H12 => ?_)
 case hS12x0 => first | (exact MK.out _ (by solve_by_elim [X0, X1, X2, X3])) | ((try dsimp only); (exact MK.out _ (by solve_by_elim [X0, X1, X2, X3])))
 clear hK K
 clear H11
 (try simp only [PU])
 refine wpAnyH_ready (rs := [11]) (by kernel_rfl) (by simp) ?_
 refine AllReadyH.cons (o := ⟨_, _, _, _, _, _⟩) rfl (fun K hK => ?step13x0) ?more13x0
 case more13x0 => exact AllReadyH.nil
 go_simp
 (refine Calls.mono (c_or_int _ [Lib.compareInt a.n b.n, Lib.compareInt a.d b.d] _ (by simp) ?hcs) ?_; (case hcs => (intro j hj; have hj6 : j = 0 ∨ j = 1 := (by simp at hj; omega); rcases hj6 with rfl | rfl <;> (go_simp; done))); rintro e w5 ⟨rfl, rfl⟩)
 refine hK.out _ _ ?hS13x0 (fun H13 => ?_)
 case hS13x0 => first | (exact MK.out _ (by solve_by_elim [X0, X1, X2, X3])) | ((try dsimp only); (exact MK.out _ (by solve_by_elim [X0, X1, X2, X3])))
 clear hK K
 clear H12
 (try simp only [PU])
 refine TK 12 (v := ?v14) H13 ?hy14 ?_
 case hy14 => (intro w _; go_simp <;> first | with_reducible rfl | rw [if_neg (by omega)] | rw [if_pos (by omega)])
 (try simp only [PU])
 refine wpAnyH_done (by kernel_rfl) ?_ _
 clear H13
 go_wp2_with fail
 go_ret
 exact ⟨by first | rfl | (rw [← HT.out]; rfl) | rw [HT.out], hx.trans (by solve_by_elim [X0, X1, X2, X3])⟩
theorem eg_Steps1 (args : Array Value) (w : World) : (callFunc 52 args).run Tryz.prog w = .ok (.enter 52 args) w :=
 run_enter (c := Tryz.f52.body.get!) Tryz.func52 (by kernel_rfl) (by kernel_rfl) args w
theorem sort_adj (w : World) (B g cap n : Nat) (id : Int) (H : List Hop) (hn : n = H.length) (hsz : H.length ≤ 8000000) (hown : w.ownsRow B 41 3 (.slice (some ⟨g, 0, none⟩) n cap) n ((H.map (adjOf id)).flatMap Sh.cells)) :
  Calls Tryz.prog 51 #[.slice (some ⟨g, 0, none⟩) n cap, .func (.func 52) #[] #[]] w fun e w' => e = .returned (.tuple #[]) ∧ w.grownBy w' (some g) ∧ w'.ownsRow B 41 3 (.slice (some ⟨g, 0, none⟩) n cap) n (((sortO cmpHop H).map (adjOf id)).flatMap Sh.cells) := by
 have hsz2 : (H.map (adjOf id)).toArray.size = n := by rw [hn]; simp
 have h := sm_sortStable w B g cap stC 52 #[] (H.map (adjOf id)).toArray w eg_Steps1 (fun W _ x y => gr_Steps1 x y W) (swo_ofM stC_anti stC_trans) (SortM.start (by rw [hsz2]; exact hown)) (by rw [hsz2, hn]; exact hsz)
 rw [hsz2] at h
 refine h.mono ?_
 rintro e w' ⟨rfl, d', hs, hp, hso⟩
 have hz : d'.size = n := hp.1.trans hsz2
 rw [← hsz2] at hp
 have h3 := adj_sorted (n := id) (by have := permIn_wholeM hp; simpa using this) (sorted_riseA (by rw [hz]; exact hso))
 refine ⟨rfl, hs.gr, ?_⟩
 have := hs.own
 rw [hz, h3] at this
 exact this
/- the walk -/
theorem box_edgeX (w : World) (x : EdgeG) (B : Option Addr) (d : Nat) (t : TypeId) : ∃ (q : Nat) (w1 : World), q = w.heap.size ∧ w1 = w.alloc (.cells #[.int .i64 x.id, .int .i64 x.frm, .int .i64 x.to_, .string x.typ, .slice B x.props.length d] t) ∧ (w1.cell? ⟨q, 0, none⟩ = some (.int .i64 x.id) ∧ w1.cell? ⟨q, 1, none⟩ = some (.int .i64 x.frm) ∧ w1.cell? ⟨q, 2, none⟩ = some (.int .i64 x.to_) ∧ w1.cell? ⟨q, 3, none⟩ = some (.string x.typ) ∧ w1.cell? ⟨q, 4, none⟩ = some (.slice B x.props.length d)) ∧ Ext w w1 :=
 ⟨_, _, rfl, rfl, ⟨by go_simp, by go_simp, by go_simp, by go_simp, by go_simp⟩, (Ext.refl _).alloc _⟩
def stAcc (g : GraphG) (types : List ByteArray) (dir n : Int) (k : Nat) : List Hop := (g.edges.take k).filterMap (hopE types dir n)
theorem stAcc_snoc (g : GraphG) (types : List ByteArray) (dir n : Int) (k : Nat) (h : k < g.edges.length) : stAcc g types dir n (k + 1) = stAcc g types dir n k ++ (match toE types dir n g.edges[k]! with
 | some t => [(g.edges[k]!.id, t)]
 | none => []) := by
 unfold stAcc
 rw [List.take_succ_eq_append_getElem h, List.filterMap_append, getElem!_pos g.edges k h]
 congr 1
 show [g.edges[k]].filterMap (hopE types dir n) = _
 rw [List.filterMap_cons, List.filterMap_nil]
 unfold hopE
 cases toE types dir n g.edges[k] <;> rfl
theorem stAcc_cells (n : Int) (H : List Hop) (e t : Int) : ((H ++ [(e, t)]).map (adjOf n)).flatMap Sh.cells = (H.map (adjOf n)).flatMap Sh.cells ++ [.int .i64 n, .int .i64 t, .int .i64 e] := by
 rw [List.map_append, List.flatMap_append]; rfl
set_option maxRecDepth 100000 in
set_option maxHeartbeats 6400000 in
theorem gr_Steps (g : GraphG) (types : List ByteArray) (n dir : Int) (ok ok' : Nat → Prop) (A B T : Option Addr) (c d e : Nat) (w : World) (hg : Edges w ok B g.edges) (ht : Strs w ok' T types) (hl : g.edges.length ≤ 8000000) :
  Calls Tryz.prog 22 #[.agg #[.slice A g.nodes.length c, .slice B g.edges.length d, .int .i64 g.nn, .int .i64 g.ne], .int .i64 n, .slice T types.length e, .int .i64 dir] w fun e' w' => ∃ A' c', e' = .returned (.slice A' (stepsL g types dir n).length c') ∧ (stepsL g types dir n).length ≤ c' ∧ Shares w' (fun b => w.heap.size ≤ b) A' ((stepsL g types dir n).map (adjOf n)) ∧ Ext w w' := by
 obtain ⟨q, w1, hq, hw1, g0, g1, g2, g3, hx1⟩ := box_graph w A B c d g 25
 have HW1 := Lib.hid hw1
 have HG := Lib.hid hq
 have HE := Lib.hid (hg.ext hx1)
 have HS0 := Lib.hid (fun W => World.ownsRow_nil W w1.heap.size 41 3)
 have HSN := Lib.hid (stAcc_snoc g types dir n)
 have HT := Lib.hid (fun x W B' m' d' (h : Ext w1 W) => gr_HasType types x ok' T B' e m' d' W (ht.ext (hx1.trans h)))
 have HLA := Lib.hid (fun k => (Nat.le_trans (List.length_filterMap_le _ _) (List.length_take_le _ _) : (stAcc g types dir n k).length ≤ k))
 have HAL := Lib.hid (by unfold stAcc hopsE; rw [List.take_length] : stAcc g types dir n g.edges.length = hopsE g types dir n)
 have HLE := Lib.hid hx1.le
 obtain ⟨R, hR⟩ : ∃ R, R = stepsL g types dir n := ⟨_, rfl⟩
 rw [← hR]
 have HR := Lib.hid hR
 clear hw1 hq hg ht hR
 go_enter Tryz.func22, Tryz.ntmps22
 go_upto_region 1 with (fail)
 rw [← HW1.out, ← HG.out]
 clear HW1 HG
 go_wp2_with fail
 go_loopw [9, 15] (fun v u W => ∃ k : Nat, u = .int .i64 k ∧ k ≤ g.edges.length ∧ Hid (W.ownsRow w1.heap.size 41 3 v (stAcc g types dir n k).length (((stAcc g types dir n k).map (adjOf n)).flatMap Sh.cells)) ∧ Hid (Ext w1 W)) (fun _ u _ => g.edges.length - (intOf u).toNat)
 case atStart => exact ⟨0, rfl, Nat.zero_le _, Lib.hid (HS0.out _), Lib.hid (Ext.refl _)⟩
 case round =>
  clear HS0
  obtain ⟨k, rfl, hk, HO, HX⟩ := hrel
  by_cases hlt : k < g.edges.length
  ·obtain ⟨b, o, rfl, hc⟩ := HE.out.at_ hlt
   obtain ⟨-, d0, d1, d2, d3, B', d', d4, -, -⟩ := hc k hlt
   replace d0 := HX.out.cell d0
   replace d1 := HX.out.cell d1
   replace d2 := HX.out.cell d2
   replace d3 := HX.out.cell d3
   replace d4 := HX.out.cell d4
   have HS := Lib.hid (HSN.out k hlt)
   have HC := Lib.hid (HT.out g.edges[k]!)
   have hkb : (stAcc g types dir n k).length + 1 ≤ 8388608 := by have := HLA.out k; omega
   clear hc HSN HT HE HLA HAL HR
   obtain ⟨H0, hH0⟩ : ∃ H0, H0 = stAcc g types dir n k := ⟨_, rfl⟩
   obtain ⟨H1, hH1⟩ : ∃ H1, H1 = stAcc g types dir n (k + 1) := ⟨_, rfl⟩
   rw [← hH0] at HO hkb HS
   rw [← hH1] at HS
   have HQ1 := Lib.hid hH1
   clear hH0 hH1
   generalize g.edges[k]! = x at *
   obtain ⟨y, w2, hy, hw2, ⟨a0, a1, a2, a3, a4⟩, hx2⟩ := box_edgeX wr x B' d' 58
   have HW2 := Lib.hid hw2
   have HY := Lib.hid hy
   have HX2 := Lib.hid (HX.out.trans hx2)
   clear hw2 hy
   go_upto_region 5 with (fail)
   rw [← HW2.out, ← HY.out]
   clear HW2 HY d0 d1 d2 d3 d4
   obtain ⟨r, hr⟩ : ∃ r, r = toE types dir n x := ⟨_, rfl⟩
   rw [← hr] at HS
   cases htb : typB types x.typ
   ·rw [htb] at HC
    have hr0 : r = none := by rw [hr]; unfold toE; rw [htb, if_neg Bool.false_ne_true]
    subst hr0
    have HS' := Lib.hid (HS.out.trans (List.append_nil _))
    clear hr htb HS
    go_wp2_with (go_at_call 50; ((with_reducible refine (HC.out _ _ _ _ HX2.out).mono ?_); rintro e w3 ⟨rfl, hx3⟩))
    have HO3 := Lib.hid (own_ext HO.out (hx2.trans hx3))
    have HX3 := Lib.hid (HX2.out.trans hx3)
    clear HO HX
    go_roundw
    case rel => exact ⟨k + 1, by go_num, by omega, by rw [← HQ1.out, HS'.out]; exact HO3, HX3⟩
    case measure => simp [intOf]; omega
   ·rw [htb] at HC
    go_upto_region 6 with (go_at_call 50; ((with_reducible refine (HC.out _ _ _ _ HX2.out).mono ?_); rintro e w3 ⟨rfl, hx3⟩; replace a0 := hx3.cell a0; replace a1 := hx3.cell a1; replace a2 := hx3.cell a2))
    have HO3 := Lib.hid (own_ext HO.out (hx2.trans hx3))
    have HX3 := Lib.hid (HX2.out.trans hx3)
    clear a3 a4 HO HX HX2 hx2 hx3 HC
    have hdd : dir = 1 ∨ dir = 2 ∨ dir = 3 ∨ ((dir == 1) = false ∧ (dir == 2) = false ∧ (dir == 3) = false) := by simp only [beq_eq_false_iff_ne]; omega
    rcases hdd with rfl | rfl | rfl | ⟨h1, h2, h3⟩
    ·by_cases hf : x.frm = n
     ·have hr0 : r = some x.to_ := by rw [hr]; unfold toE; rw [htb]; simp [hf]
      have hf' : (x.frm == n) = true := by simpa using hf
      have HS' := Lib.hid (HS.out.trans (by rw [hr0] : _ = H0 ++ [(x.id, x.to_)]))
      clear hr htb HS hr0
      go_wp2_with (at_builtin; refine own_push El_adj rfl (.tmp 36) (.tmp 43) rfl w1 w3 _ _ _ [.int .i64 n, .int .i64 x.to_, .int .i64 x.id] rfl HO3.out HX3.out rfl rfl rfl (by simp [Value.oneCell']) hkb (by decide) ?_; intro v2 w9 hown2 hE9)
      have HO9 := Lib.hid (show w9.ownsRow w1.heap.size 41 3 v2 H1.length ((H1.map (adjOf n)).flatMap Sh.cells) by rw [HS'.out, stAcc_cells, List.length_append]; exact hown2)
      have HE9 := Lib.hid hE9
      clear hown2 hE9 HO3 HX3 HS'
      go_roundw
      case rel => exact ⟨k + 1, by go_num, by omega, by rw [← HQ1.out]; exact HO9, HE9⟩
      case measure => simp [intOf]; omega
     ·have hr0 : r = none := by rw [hr]; unfold toE; rw [htb]; simp [hf]
      have hf' : (x.frm == n) = false := by simpa using hf
      have HS' := Lib.hid (HS.out.trans (by rw [hr0]; exact List.append_nil _ : _ = H0))
      clear hr htb HS hr0
      go_wp2_with fail
      go_roundw
      case rel => exact ⟨k + 1, by go_num, by omega, by rw [← HQ1.out, HS'.out]; exact HO3, HX3⟩
      case measure => simp [intOf]; omega
    ·by_cases hf : x.to_ = n
     ·have hr0 : r = some x.frm := by rw [hr]; unfold toE; rw [htb]; simp [hf]
      have hf' : (x.to_ == n) = true := by simpa using hf
      have HS' := Lib.hid (HS.out.trans (by rw [hr0] : _ = H0 ++ [(x.id, x.frm)]))
      clear hr htb HS hr0
      go_wp2_with (at_builtin; refine own_push El_adj rfl (.tmp 58) (.tmp 65) rfl w1 w3 _ _ _ [.int .i64 n, .int .i64 x.frm, .int .i64 x.id] rfl HO3.out HX3.out rfl rfl rfl (by simp [Value.oneCell']) hkb (by decide) ?_; intro v2 w9 hown2 hE9)
      have HO9 := Lib.hid (show w9.ownsRow w1.heap.size 41 3 v2 H1.length ((H1.map (adjOf n)).flatMap Sh.cells) by rw [HS'.out, stAcc_cells, List.length_append]; exact hown2)
      have HE9 := Lib.hid hE9
      clear hown2 hE9 HO3 HX3 HS'
      go_roundw
      case rel => exact ⟨k + 1, by go_num, by omega, by rw [← HQ1.out]; exact HO9, HE9⟩
      case measure => simp [intOf]; omega
     ·have hr0 : r = none := by rw [hr]; unfold toE; rw [htb]; simp [hf]
      have hf' : (x.to_ == n) = false := by simpa using hf
      have HS' := Lib.hid (HS.out.trans (by rw [hr0]; exact List.append_nil _ : _ = H0))
      clear hr htb HS hr0
      go_wp2_with fail
      go_roundw
      case rel => exact ⟨k + 1, by go_num, by omega, by rw [← HQ1.out, HS'.out]; exact HO3, HX3⟩
      case measure => simp [intOf]; omega
    ·by_cases hf : x.frm = n
     ·have hr0 : r = some x.to_ := by rw [hr]; unfold toE; rw [htb]; simp [hf]
      have hf' : (x.frm == n) = true := by simpa using hf
      have HS' := Lib.hid (HS.out.trans (by rw [hr0] : _ = H0 ++ [(x.id, x.to_)]))
      clear hr htb HS hr0
      go_wp2_with (at_builtin; refine own_push El_adj rfl (.tmp 36) (.tmp 43) rfl w1 w3 _ _ _ [.int .i64 n, .int .i64 x.to_, .int .i64 x.id] rfl HO3.out HX3.out rfl rfl rfl (by simp [Value.oneCell']) hkb (by decide) ?_; intro v2 w9 hown2 hE9)
      have HO9 := Lib.hid (show w9.ownsRow w1.heap.size 41 3 v2 H1.length ((H1.map (adjOf n)).flatMap Sh.cells) by rw [HS'.out, stAcc_cells, List.length_append]; exact hown2)
      have HE9 := Lib.hid hE9
      clear hown2 hE9 HO3 HX3 HS'
      go_roundw
      case rel => exact ⟨k + 1, by go_num, by omega, by rw [← HQ1.out]; exact HO9, HE9⟩
      case measure => simp [intOf]; omega
     ·have hf' : (x.frm == n) = false := by simpa using hf
      by_cases ht : x.to_ = n
      ·have hr0 : r = some x.frm := by rw [hr]; unfold toE; rw [htb]; simp [hf, ht]
       have ht' : (x.to_ == n) = true := by simpa using ht
       have HS' := Lib.hid (HS.out.trans (by rw [hr0] : _ = H0 ++ [(x.id, x.frm)]))
       clear hr htb HS hr0
       go_wp2_with (at_builtin; refine own_push El_adj rfl (.tmp 58) (.tmp 65) rfl w1 w3 _ _ _ [.int .i64 n, .int .i64 x.frm, .int .i64 x.id] rfl HO3.out HX3.out rfl rfl rfl (by simp [Value.oneCell']) hkb (by decide) ?_; intro v2 w9 hown2 hE9)
       have HO9 := Lib.hid (show w9.ownsRow w1.heap.size 41 3 v2 H1.length ((H1.map (adjOf n)).flatMap Sh.cells) by rw [HS'.out, stAcc_cells, List.length_append]; exact hown2)
       have HE9 := Lib.hid hE9
       clear hown2 hE9 HO3 HX3 HS'
       go_roundw
       case rel => exact ⟨k + 1, by go_num, by omega, by rw [← HQ1.out]; exact HO9, HE9⟩
       case measure => simp [intOf]; omega
      ·have hr0 : r = none := by rw [hr]; unfold toE; rw [htb]; simp [hf, ht]
       have ht' : (x.to_ == n) = false := by simpa using ht
       have HS' := Lib.hid (HS.out.trans (by rw [hr0]; exact List.append_nil _ : _ = H0))
       clear hr htb HS hr0
       go_wp2_with fail
       go_roundw
       case rel => exact ⟨k + 1, by go_num, by omega, by rw [← HQ1.out, HS'.out]; exact HO3, HX3⟩
       case measure => simp [intOf]; omega
    ·have hr0 : r = none := by
      rw [beq_eq_false_iff_ne] at h1 h2 h3
      rw [hr]; unfold toE; rw [htb]; simp [h1, h2, h3]
     have HS' := Lib.hid (HS.out.trans (by rw [hr0]; exact List.append_nil _ : _ = H0))
     clear hr htb HS hr0
     go_wp2_with fail
     go_roundw
     case rel => exact ⟨k + 1, by go_num, by omega, by rw [← HQ1.out, HS'.out]; exact HO3, HX3⟩
     case measure => simp [intOf]; omega
  ·have hkk : k = g.edges.length := by omega
   have HO1 := Lib.hid (by have := HO.out; rwa [hkk, HAL.out] at this : wr.ownsRow w1.heap.size 41 3 u9 (hopsE g types dir n).length (((hopsE g types dir n).map (adjOf n)).flatMap Sh.cells))
   have HHL := Lib.hid (by rw [← HAL.out]; exact HLA.out _ : (hopsE g types dir n).length ≤ g.edges.length)
   have HRR := Lib.hid (HR.out.trans (show stepsL g types dir n = sortO cmpHop (hopsE g types dir n) from rfl))
   clear hkk HO HLA HAL HR HSN HT HE
   generalize hopsE g types dir n = H at *
   rcases HO1.out.2 with ⟨rfl, h0⟩ | ⟨g', cap, cur, rfl, hb, hh, -⟩
   ·have hH : H = [] := List.eq_nil_of_length_eq_zero h0
    have hR0 : R = [] := by rw [HRR.out, hH]; rfl
    subst hR0
    clear hH h0 HO1 HRR HHL
    go_wp2_with (go_at_call 51; ((with_reducible refine (sm_sort0 _ _ _ _).mono ?_); rintro e w5 ⟨rfl, rfl⟩))
    go_ret
    exact ⟨none, 0, rfl, Nat.le_refl _, SliceR.nil _ _ _, hx1.trans HX.out⟩
   ·have HSO := Lib.hid (sort_adj wr w1.heap.size g' cap H.length n H rfl (by have := HHL.out; omega) HO1.out)
    have HB := Lib.hid hb
    clear HO1 hb hh
    go_wp2_with (go_at_call 51; ((with_reducible refine (HSO.out).mono ?_); rintro e w5 ⟨rfl, hg5, hO5⟩))
    have hlR : R.length = H.length := by rw [HRR.out]; exact sortO_len TotC.hop _
    obtain ⟨A9, c9, e9, h9, hV9⟩ := shares_of_own (l := R.map (adjOf n)) (by rw [HRR.out]; exact hO5) (by rw [List.length_map, hlR]) (by rw [List.length_map, hlR]; have := HHL.out; omega)
    injection e9 with e1 e2 e3
    subst e1 e3
    rw [List.length_map, hlR] at h9
    go_ret
    exact ⟨_, _, by rw [hlR]; rfl, by rw [hlR]; exact h9, SliceR.mono hV9 (fun b o x _ h => ⟨Nat.le_trans HLE.out h.1, h.2⟩), hx1.trans (HX.out.grown hg5 (fun b hb => by injection hb with hb; have := HB.out; omega))⟩
end Go.Proofs.YtnheioehadldmaaGreat

/- PLAIN: the column of some entries, the column of a graph. -/
namespace Go.Proofs.YtnheioehadldmaaGreat
open Go.RowKit
def noCol : Col := ⟨[], [], [], []⟩
def okS (a : Sh) : Bool := (decide (1 ≤ a.id) && decide (a.id ≤ 1000000)) && (decide (1 ≤ a.n) && decide (a.n ≤ 1000000)) && (decide (1 ≤ a.d) && decide (a.d ≤ 1000000))
theorem okS_iff {a : Sh} : okS a = true ↔ idOk a.id ∧ idOk a.n ∧ idOk a.d := by
 unfold okS idOk; simp [and_assoc]
/-- the column of some entries -/
def ofR (l : List Sh) : Int × Col := if l.all okS = true then (if (l.map Sh.d).Nodup then (0, packC (sortO adjOrd l)) else (7, noCol)) else (1, noCol)
theorem sort_good {l : List Sh} (h : ∀ a ∈ l, idOk a.id ∧ idOk a.n ∧ idOk a.d) (hn : (l.map Sh.d).Nodup) : GoodL (sortO adjOrd l) := by
 have hp := sortO_perm TotC.adj l
 have hN : ((sortO adjOrd l).map Sh.d).Nodup := (hp.map Sh.d).nodup_iff.2 hn
 refine ⟨fun a ha => h a (hp.mem_iff.1 ha), ?_, hN⟩
 have hr := sortO_rise TotC.adj l
 rw [List.pairwise_iff_getElem] at hr ⊢
 intro i j hi hj hij
 have h1 := hr i j hi hj hij
 rcases Int.lt_or_eq_of_le h1 with h2 | h2
 ·exact h2
 ·exfalso
  have h3 := (TotC.adj.zero _ _).1 h2
  have h4 := List.pairwise_iff_getElem.1 hN i j (by simpa using hi) (by simpa using hj) hij
  rw [List.getElem_map, List.getElem_map, h3] at h4
  exact h4 rfl
theorem ofR_valid (l : List Sh) : validP (ofR l).2 := by
 unfold ofR
 split
 ·rename_i h1
  split
  ·rename_i h2
   exact pack_valid (sort_good (fun a ha => okS_iff.1 (List.all_eq_true.1 h1 a ha)) h2)
  ·exact .inl ⟨rfl, rfl, rfl, rfl⟩
 ·exact .inl ⟨rfl, rfl, rfl, rfl⟩
/-- the types that are asked for -/
def typsOf (typ : ByteArray) : List ByteArray := if typ = ByteArray.empty then [] else [typ]
def rowsG (g : GraphG) (types : List ByteArray) (dir : Int) : List Sh := g.nodes.flatMap (fun n => (stepsL g types dir n.id).map (adjOf n.id))
end Go.Proofs.YtnheioehadldmaaGreat

/- MAPS THAT A CALL OWNS, element by element, elements of any type: what lies at each key. -/
namespace Go.Proofs.YtnheioehadldmaaGreat
open Go.RowKit Go.ChangeMaps
open Go.Maps (Keyed has IsMap)
/-- block b is a map of at most n entries; g: what lies at each key -/
def MapOf (P : Program) (k : TypeId) (w : World) (b n : Nat) (g : Lit → Option Value) : Prop :=
 ∃ D : DataW Value, w.ownsMap P k (fun v => some (.held v, [])) b n D ∧ IsMap D ∧ ∀ kl, match g kl with
  | none => has D kl = false
  | some v => has D kl = true ∧ ∀ z, D.atKey kl z = .held v
section
variable {P : Program} {k e t : TypeId} {w w' : World} {b n : Nat} {g : Lit → Option Value}
theorem MapOf.made (P : Program) (k : TypeId) (w : World) : MapOf P k (w.alloc (.map #[] 0)) w.heap.size 0 (fun _ => none) :=
 ⟨.map [], World.ownsMap_made w P k _, Maps.isMap_empty, fun _ => rfl⟩
theorem MapOf.lt (h : MapOf P k w b n g) : b < w.heap.size := let ⟨_, h1, _⟩ := h; h1.lt
theorem MapOf.grown {row : Option Nat} (h : MapOf P k w b n g) (hg : w.grownBy w' row) (hne : some b ≠ row) : MapOf P k w' b n g :=
 let ⟨D, h1, h2, h3⟩ := h
 ⟨D, h1.kept hg hne, h2, h3⟩
theorem MapOf.ext (h : MapOf P k w b n g) (x : Ext w w') : MapOf P k w' b n g :=
 h.grown (row := none) ⟨x.os, x.tape, x.output, x.size, fun i hi _ => x.block i hi⟩ (by simp)
theorem MapOf.mono {n' : Nat} (h : MapOf P k w b n g) (hn : n ≤ n') : MapOf P k w b n' g :=
 let ⟨D, h1, h2, h3⟩ := h
 ⟨D, h1.mono hn, h2, h3⟩
theorem MapOf.look (h : MapOf P k w b n g) (K : Keyed P k) (ht : P.underlying t = some (.map k e)) {z : Value} (hz : (zeroValue e).run P w = .ok z w) {key : Value} {kl : Lit} (hkey : keyOf P k key = some kl) :
  (Instr.lookup t (.map (some b)) key false).run P w = .ok ((g kl).getD z) w := by
 obtain ⟨D, h1, h2, h3⟩ := h
 obtain ⟨v, ps, hrun, hR⟩ := h1.lookup K ht hz (zd := .held z) (zp := []) rfl hkey
 rw [hrun]
 have h4 := h3 kl
 injection hR with hR
 rw [Prod.mk.injEq] at hR
 cases hg : g kl with
 | none =>
  rw [hg] at h4
  rw [Maps.atKey_of_not_has h4] at hR
  injection hR.1 with e1
  rw [e1]; rfl
 | some u =>
  rw [hg] at h4
  rw [h4.2] at hR
  injection hR.1 with e1
  rw [e1]; rfl
open Classical in
noncomputable def putM (g : Lit → Option Value) (kl : Lit) (v : Value) : Lit → Option Value := fun x => if x = kl then some v else g x
theorem putM_same (g : Lit → Option Value) (kl : Lit) (v : Value) : putM g kl v kl = some v := by unfold putM; rw [if_pos rfl]
theorem putM_other (g : Lit → Option Value) {kl x : Lit} (v : Value) (h : x ≠ kl) : putM g kl v x = g x := by unfold putM; rw [if_neg h]
theorem MapOf.put (h : MapOf P k w b n g) (K : Keyed P k) (ht : P.underlying t = some (.map k e)) (hn : n < maxLen) {key : Value} {kl : Lit} (hkey : keyOf P k key = some kl) (val : Value) :
  ∃ w', (Instr.mapUpdate t (.map (some b)) key val).run P w = .ok () w' ∧ MapOf P k w' b (n + 1) (putM g kl val) ∧ w.grownBy w' (some b) := by
 obtain ⟨D, h1, h2, h3⟩ := h
 obtain ⟨w', r0, r1, r2⟩ := h1.update K ht hn hkey (val := val) (d := .held val) (ps := []) rfl
 refine ⟨w', r0, ⟨_, r1, h2.put _ _, fun x => ?_⟩, r2⟩
 by_cases hx : x = kl
 ·subst hx
  rw [putM_same]
  exact ⟨Maps.has_put_same h2 (K.key hkey) _, fun z => Maps.atKey_put_same h2 (K.key hkey) _ z⟩
 ·rw [putM_other _ _ hx]
  have h4 := h3 x
  cases hg : g x with
  | none => rw [hg] at h4; exact (Maps.has_put_other hx _).trans h4
  | some u => rw [hg] at h4; exact ⟨(Maps.has_put_other hx _).trans h4.1, fun z => (Maps.atKey_put_other hx _ z).trans (h4.2 z)⟩
end
theorem wpList_put {P : Program} {w : World} {ops : Array Oper} {rest : List Oper} {o : Oper} {a : Act} {Q : Exit → Act → World → Prop} (hg : o.guard = none) (m x v : Operand) (t : TypeId) (hop : o.op = Op.mapUpdate t m x v)
  {k e : TypeId} (K : Keyed P k) (ht : P.underlying t = some (.map k e)) (b n : Nat) (g : Lit → Option Value) (hm : a.eval m = .map (some b)) (hown : MapOf P k w b n g) (hn : n < maxLen) (key val : Value) (kl : Lit) (hx : a.eval x = key) (hv : a.eval v = val) (hkey : keyOf P k key = some kl)
  (hK : ∀ w', MapOf P k w' b (n + 1) (putM g kl val) → w.grownBy w' (some b) → wpList P ops Q rest (a.put o.dst undef) w') : wpList P ops Q (o :: rest) a w := by
 refine wpList_plain hg fun K' hK' => ?_
 obtain ⟨w', hrun, r1, r2⟩ := hown.put K ht hn hkey val
 unfold Oper.wp
 simp [execOp, hop, hm, hx, hv, hrun, Result.andThen]
 exact hK' _ _ (hK w' r1 r2)
end Go.Proofs.YtnheioehadldmaaGreat

/- COLUMNS IN MEMORY; the leaf functions: ids, the order of entries, lists compared. -/
namespace Go.Proofs.YtnheioehadldmaaGreat
open Go.RowKit
def idB (n : Int) : Bool := decide (1 ≤ n) && decide (n ≤ 1000000)
theorem idB_iff {n : Int} : idB n = true ↔ idOk n := by unfold idB idOk; simp
theorem okS_idB (a : Sh) : okS a = (idB a.id && idB a.n && idB a.d) := rfl
/-- a byte in memory -/
def ByteC (w : World) (ok : Nat → Prop) (b o : Nat) (n : Nat) : Prop := ok b ∧ w.cell? ⟨b, o, none⟩ = some (.int .u8 (n : Int))
def Byts (w : World) (ok : Nat → Prop) (A : Option Addr) (l : List Nat) : Prop := SliceR (ByteC w ok) 1 A l
theorem Byts.ext {a w : World} {ok : Nat → Prop} {A : Option Addr} {l : List Nat} (h : Byts a ok A l) (e : Ext a w) : Byts w ok A l := SliceR.mono h (fun _ _ _ _ hx => ⟨hx.1, e.cell hx.2⟩)
/-- a column in memory -/
structure ColAt (w : World) (ok : Nat → Prop) (A B C D : Option Addr) (c : Col) : Prop where
 n : Nums w ok A c.nodes
 f : Nums w ok B c.first
 t : Nums w ok C c.tos
 e : Nums w ok D c.edges
theorem ColAt.ext {a w : World} {ok : Nat → Prop} {A B C D : Option Addr} {c : Col} (h : ColAt a ok A B C D c) (x : Ext a w) : ColAt w ok A B C D c := ⟨h.n.ext x, h.f.ext x, h.t.ext x, h.e.ext x⟩
abbrev agC (c : Col) (A B C D : Option Addr) (k0 k1 k2 k3 : Nat) : Value := .agg #[.slice A c.nodes.length k0, .slice B c.first.length k1, .slice C c.tos.length k2, .slice D c.edges.length k3]
theorem box_col (w : World) (c : Col) (A B C D : Option Addr) (k0 k1 k2 k3 : Nat) (t : TypeId) : ∃ (q : Nat) (w1 : World), q = w.heap.size ∧ w1 = w.alloc (.cells #[.slice A c.nodes.length k0, .slice B c.first.length k1, .slice C c.tos.length k2, .slice D c.edges.length k3] t) ∧ (w1.cell? ⟨q, 0, none⟩ = some (.slice A c.nodes.length k0) ∧ w1.cell? ⟨q, 1, none⟩ = some (.slice B c.first.length k1) ∧ w1.cell? ⟨q, 2, none⟩ = some (.slice C c.tos.length k2) ∧ w1.cell? ⟨q, 3, none⟩ = some (.slice D c.edges.length k3)) ∧ Ext w w1 :=
 ⟨_, _, rfl, rfl, ⟨by go_simp, by go_simp, by go_simp, by go_simp⟩, (Ext.refl _).alloc _⟩
theorem box_adj (w : World) (a : Sh) (t : TypeId) : ∃ (q : Nat) (w1 : World), q = w.heap.size ∧ w1 = w.alloc (.cells #[.int .i64 a.id, .int .i64 a.n, .int .i64 a.d] t) ∧ (w1.cell? ⟨q, 0, none⟩ = some (.int .i64 a.id) ∧ w1.cell? ⟨q, 1, none⟩ = some (.int .i64 a.n) ∧ w1.cell? ⟨q, 2, none⟩ = some (.int .i64 a.d)) ∧ Ext w w1 :=
 ⟨_, _, rfl, rfl, ⟨by go_simp, by go_simp, by go_simp⟩, (Ext.refl _).alloc _⟩
theorem co_id (n : Int) (w : World) : Calls Tryz.prog 39 #[.int .i64 n] w fun e w' => e = .returned (.bool (idB n)) ∧ Ext w w' := by
 unfold idB
 go_enter Tryz.func39, Tryz.ntmps39
 by_cases h : 1 ≤ n
 ·go_wp2_with fail
  go_ret
  exact ⟨by simp [h], (by solve_by_elim [X0, X1, X2, X3])⟩
 ·go_wp2_with fail
  go_ret
  exact ⟨by rw [decide_eq_false (show ¬ 1 ≤ n by omega)]; rfl, (by solve_by_elim [X0, X1, X2, X3])⟩
theorem r12_id (n : Int) (w : World) : Calls Tryz.prog 32 #[.int .i64 n] w fun e w' => e = .returned (.bool (idB n)) ∧ Ext w w' := by
 unfold idB
 go_enter Tryz.func32, Tryz.ntmps32
 by_cases h : 1 ≤ n
 ·go_wp2_with fail
  go_ret
  exact ⟨by simp [h], (by solve_by_elim [X0, X1, X2, X3])⟩
 ·go_wp2_with fail
  go_ret
  exact ⟨by rw [decide_eq_false (show ¬ 1 ≤ n by omega)]; rfl, (by solve_by_elim [X0, X1, X2, X3])⟩
theorem less_ord (a b : Sh) : decide (adjOrd a b < 0) = if a.id ≠ b.id then decide (a.id < b.id) else if a.n ≠ b.n then decide (a.n < b.n) else decide (a.d < b.d) := by
 have lt : ∀ {x y : Int}, x < y → Lib.compareInt x y = -1 := fun h => by unfold Lib.compareInt; rw [if_pos h]
 have gt : ∀ {x y : Int}, y < x → Lib.compareInt x y = 1 := fun h => by unfold Lib.compareInt; rw [if_neg (by omega), if_pos h]
 have eq : ∀ {x y : Int}, x = y → Lib.compareInt x y = 0 := fun h => by rw [h]; exact TotC.int.refl _
 unfold adjOrd
 rcases Int.lt_trichotomy a.id b.id with h | h | h
 ·rw [if_pos (by omega), lt h, decide_eq_true h]; rfl
 ·rw [if_neg (by omega), eq h]
  rcases Int.lt_trichotomy a.n b.n with k | k | k
  ·rw [if_pos (by omega), lt k, decide_eq_true k]; rfl
  ·rw [if_neg (by omega), eq k]
   rcases Int.lt_trichotomy a.d b.d with j | j | j
   ·rw [lt j, decide_eq_true j]; rfl
   ·rw [eq j, decide_eq_false (show ¬ a.d < b.d by omega)]; rfl
   ·rw [gt j, decide_eq_false (show ¬ a.d < b.d by omega)]; rfl
  ·rw [if_pos (by omega), gt k, decide_eq_false (show ¬ a.n < b.n by omega)]; rfl
 ·rw [if_pos (by omega), gt h, decide_eq_false (show ¬ a.id < b.id by omega)]; rfl
theorem r12_Less (a b : Sh) (w : World) : Calls Tryz.prog 65 #[.agg #[.int .i64 a.id, .int .i64 a.n, .int .i64 a.d], .agg #[.int .i64 b.id, .int .i64 b.n, .int .i64 b.d]] w fun e w' => e = .returned (.bool (decide (adjOrd a b < 0))) ∧ Ext w w' := by
 rw [less_ord]
 go_enter Tryz.func65, Tryz.ntmps65
 by_cases h : a.id = b.id
 ·have h' : (a.id != b.id) = false := by simp [h]
  by_cases k : a.n = b.n
  ·have k' : (a.n != b.n) = false := by simp [k]
   rw [if_neg (by simp [h]), if_neg (by simp [k])]
   clear h k
   go_wp2_with fail
   go_ret
   exact ⟨rfl, (by solve_by_elim [X0, X1, X2, X3])⟩
  ·have k' : (a.n != b.n) = true := by simp [k]
   rw [if_neg (by simp [h]), if_pos k]
   clear h k
   go_wp2_with fail
   go_ret
   exact ⟨rfl, (by solve_by_elim [X0, X1, X2, X3])⟩
 ·have h' : (a.id != b.id) = true := by simp [h]
  rw [if_pos h]
  clear h
  go_wp2_with fail
  go_ret
  exact ⟨rfl, (by solve_by_elim [X0, X1, X2, X3])⟩
end Go.Proofs.YtnheioehadldmaaGreat

/- THE ORDER of entries (program); lists and columns compared (reference). -/
namespace Go.Proofs.YtnheioehadldmaaGreat
open Go.RowKit
theorem adj_orL (a b : Sh) : orL [Lib.compareInt a.id b.id, Lib.compareInt a.n b.n, Lib.compareInt a.d b.d] = adjOrd a b := by
 unfold adjOrd orL
 unfold orL orL orL
 rw [thenC_0]
theorem sh_eq {a b : Sh} (h0 : a.id = b.id) (h1 : a.n = b.n) (h2 : a.d = b.d) : a = b := by cases a; cases b; cases h0; cases h1; cases h2; rfl
theorem if3_noC {α : Type} {p q r : Prop} [Decidable p] [Decidable q] [Decidable r] {X Y : α} (h : ¬ (p ∧ q ∧ r)) : (if p then (if q then (if r then X else Y) else Y) else Y) = Y := by
 split
 ·split
  ·split
   ·rename_i h1 h2 h3; exact absurd ⟨h1, h2, h3⟩ h
   ·rfl
  ·rfl
 ·rfl
set_option maxRecDepth 100000 in
theorem co_order (a b : Sh) (w : World) :
  Calls Tryz.prog 42 #[.agg #[.int .i64 a.id, .int .i64 a.n, .int .i64 a.d], .agg #[.int .i64 b.id, .int .i64 b.n, .int .i64 b.d]] w fun e w' => e = .returned (.int .i64 (adjOrd a b)) ∧ Ext w w' := by
 obtain ⟨q, w2, hq, hw2, hc, hx⟩ : ∃ (q : Nat) (w2 : World), q = w.heap.size ∧ w2 = (w.alloc (.cells #[.int .i64 a.id, .int .i64 a.n, .int .i64 a.d] 41)).alloc (.cells #[.int .i64 b.id, .int .i64 b.n, .int .i64 b.d] 41) ∧ ((w2.cell? ⟨q, 0, none⟩ = some (.int .i64 a.id) ∧ w2.cell? ⟨q, 1, none⟩ = some (.int .i64 a.n) ∧ w2.cell? ⟨q, 2, none⟩ = some (.int .i64 a.d)) ∧ w2.cell? ⟨q + 1, 0, none⟩ = some (.int .i64 b.id) ∧ w2.cell? ⟨q + 1, 1, none⟩ = some (.int .i64 b.n) ∧ w2.cell? ⟨q + 1, 2, none⟩ = some (.int .i64 b.d)) ∧ Ext w w2 :=
  ⟨_, _, rfl, rfl, ⟨⟨by go_simp, by go_simp, by go_simp⟩, by go_simp, by go_simp, by go_simp⟩, (by solve_by_elim [X0, X1, X2, X3])⟩
 have HW := Lib.hid hw2
 have HG := Lib.hid hq
 have HT := Lib.hid (adj_orL a b)
 have MK := Lib.hid (fun V (e : Ext w2 V) => (⟨⟨e.cell hc.1.1, e.cell hc.1.2.1, e.cell hc.1.2.2⟩, e.cell hc.2.1, e.cell hc.2.2.1, e.cell hc.2.2.2⟩ : (V.cell? ⟨q, 0, none⟩ = some (.int .i64 a.id) ∧ V.cell? ⟨q, 1, none⟩ = some (.int .i64 a.n) ∧ V.cell? ⟨q, 2, none⟩ = some (.int .i64 a.d)) ∧ V.cell? ⟨q + 1, 0, none⟩ = some (.int .i64 b.id) ∧ V.cell? ⟨q + 1, 1, none⟩ = some (.int .i64 b.n) ∧ V.cell? ⟨q + 1, 2, none⟩ = some (.int .i64 b.d)))
 clear hw2 hq hc
 generalize adjOrd a b = tc at *
 go_enter Tryz.func42, Tryz.ntmps42
 go_upto_region 1 with (fail)
 rw [← HW.out, ← HG.out]
 clear HW HG
 refine wp_region_held_drew (S := (fun V => (V.cell? ⟨q, 0, none⟩ = some (.int .i64 a.id) ∧ V.cell? ⟨q, 1, none⟩ = some (.int .i64 a.n) ∧ V.cell? ⟨q, 2, none⟩ = some (.int .i64 a.d)) ∧ V.cell? ⟨q + 1, 0, none⟩ = some (.int .i64 b.id) ∧ V.cell? ⟨q + 1, 1, none⟩ = some (.int .i64 b.n) ∧ V.cell? ⟨q + 1, 2, none⟩ = some (.int .i64 b.d))) (by kernel_rfl) ?hs30001 (fun hHeld => ?go30001)
 case hs30001 => (exact MK.out _ (by solve_by_elim [X0, X1, X2, X3]))
 refine TK 0 (v := ?v30002) hHeld ?hy30002 ?_
 case hy30002 => (intro w hSw; (try dsimp only at hSw); go_simp <;> first | with_reducible rfl | rw [if_neg (by omega)] | rw [if_pos (by omega)])
 (try simp only [PU])
 refine TK 1 (v := ?v30003) hHeld ?hy30003 ?_
 case hy30003 => (intro w hSw; (try dsimp only at hSw); go_simp <;> first | with_reducible rfl | rw [if_neg (by omega)] | rw [if_pos (by omega)])
 (try simp only [PU])
 refine TK 2 (v := ?v30004) hHeld ?hy30004 ?_
 case hy30004 => (intro w hSw; (try dsimp only at hSw); go_simp <;> first | with_reducible rfl | rw [if_neg (by omega)] | rw [if_pos (by omega)])
 (try simp only [PU])
 refine TK 3 (v := ?v30005) hHeld ?hy30005 ?_
 case hy30005 => (intro w hSw; (try dsimp only at hSw); go_simp <;> first | with_reducible rfl | rw [if_neg (by omega)] | rw [if_pos (by omega)])
 (try simp only [PU])
 refine TK 5 (v := ?v30006) hHeld ?hy30006 ?_
 case hy30006 => (intro w hSw; (try dsimp only at hSw); go_simp <;> first | with_reducible rfl | rw [if_neg (by omega)] | rw [if_pos (by omega)])
 (try simp only [PU])
 refine TK 6 (v := ?v30007) hHeld ?hy30007 ?_
 case hy30007 => (intro w hSw; (try dsimp only at hSw); go_simp <;> first | with_reducible rfl | rw [if_neg (by omega)] | rw [if_pos (by omega)])
 (try simp only [PU])
 refine TK 7 (v := ?v30008) hHeld ?hy30008 ?_
 case hy30008 => (intro w hSw; (try dsimp only at hSw); go_simp <;> first | with_reducible rfl | rw [if_neg (by omega)] | rw [if_pos (by omega)])
 (try simp only [PU])
 refine TK 8 (v := ?v30009) hHeld ?hy30009 ?_
 case hy30009 => (intro w hSw; (try dsimp only at hSw); go_simp <;> first | with_reducible rfl | rw [if_neg (by omega)] | rw [if_pos (by omega)])
 (try simp only [PU])
 refine TK 10 (v := ?v30010) hHeld ?hy30010 ?_
 case hy30010 => (intro w hSw; (try dsimp only at hSw); go_simp <;> first | with_reducible rfl | rw [if_neg (by omega)] | rw [if_pos (by omega)])
 (try simp only [PU])
 refine TK 11 (v := ?v30011) hHeld ?hy30011 ?_
 case hy30011 => (intro w hSw; (try dsimp only at hSw); go_simp <;> first | with_reducible rfl | rw [if_neg (by omega)] | rw [if_pos (by omega)])
 (try simp only [PU])
 refine TK 12 (v := ?v30012) hHeld ?hy30012 ?_
 case hy30012 => (intro w hSw; (try dsimp only at hSw); go_simp <;> first | with_reducible rfl | rw [if_neg (by omega)] | rw [if_pos (by omega)])
 (try simp only [PU])
 refine TK 13 (v := ?v30013) hHeld ?hy30013 ?_
 case hy30013 => (intro w hSw; (try dsimp only at hSw); go_simp <;> first | with_reducible rfl | rw [if_neg (by omega)] | rw [if_pos (by omega)])
 (try simp only [PU])
 refine wpAnyH_ready (rs := [4]) (by kernel_rfl) (by simp) ?_
 refine AllReadyH.cons (o := ⟨_, _, _, _, _, _⟩) rfl (fun K hK => ?step30014x0) ?more30014x0
 case more30014x0 => exact AllReadyH.nil
 go_simp
 (refine (c_cmp_int _ _ _).mono ?_; rintro e w4 ⟨rfl, rfl⟩)
 refine hK.out _ _ ?hS30014x0 (fun H30014 => ?_)
 case hS30014x0 => first | (exact MK.out _ (by solve_by_elim [X0, X1, X2, X3])) | ((try dsimp only); (exact MK.out _ (by solve_by_elim [X0, X1, X2, X3])))
 clear hK K
 clear hHeld
 (try simp only [PU])
 refine wpAnyH_ready (rs := [9]) (by kernel_rfl) (by simp) ?_
 refine AllReadyH.cons (o := ⟨_, _, _, _, _, _⟩) rfl (fun K hK => ?step30015x0) ?more30015x0
 case more30015x0 => exact AllReadyH.nil
 go_simp
 (refine (c_cmp_int _ _ _).mono ?_; rintro e w9 ⟨rfl, rfl⟩)
 refine hK.out _ _ ?hS30015x0 (fun H30015 => ?_)
 case hS30015x0 => first | (exact MK.out _ (by solve_by_elim [X0, X1, X2, X3])) | ((try dsimp only); (exact MK.out _ (by solve_by_elim [X0, X1, X2, X3])))
 clear hK K
 clear H30014
 (try simp only [PU])
 refine wpAnyH_ready (rs := [14]) (by kernel_rfl) (by simp) ?_
 refine AllReadyH.cons (o := ⟨_, _, _, _, _, _⟩) rfl (fun K hK => ?step30016x0) ?more30016x0
 case more30016x0 => exact AllReadyH.nil
 go_simp
 (refine (c_cmp_int _ _ _).mono ?_; rintro e w14 ⟨rfl, rfl⟩)
 refine hK.out _ _ ?hS30016x0 (fun H30016 => ?_)
 case hS30016x0 => first | (exact MK.out _ (by solve_by_elim [X0, X1, X2, X3])) | ((try dsimp only); (exact MK.out _ (by solve_by_elim [X0, X1, X2, X3])))
 clear hK K
 clear H30015
 (try simp only [PU])
 refine wpAnyH_ready (rs := [15]) (by kernel_rfl) (by simp) ?_
 refine AllReadyH.cons (o := ⟨_, _, _, _, _, _⟩) rfl (fun K hK => ?step30017x0) ?more30017x0
 case more30017x0 => exact AllReadyH.nil
 go_simp
 refine hK.out _ _ ?hS30017x0 (fun H30017 => ?_)
 case hS30017x0 => first | (exact MK.out _ (by solve_by_elim [X0, X1, X2, X3])) | ((try dsimp only); (exact MK.out _ (by solve_by_elim [X0, X1, X2, X3])))
 clear hK K
 clear H30016
 (try simp only [PU])
 refine wpAnyH_ready (rs := [16]) (by kernel_rfl) (by simp) ?_
 refine AllReadyH.cons (o := ⟨_, _, _, _, _, _⟩) rfl (fun K hK => ?step30018x0) ?more30018x0
 case more30018x0 => exact AllReadyH.nil
 go_simp
 (refine Calls.mono (c_or_int _ [Lib.compareInt a.id b.id, Lib.compareInt a.n b.n, Lib.compareInt a.d b.d] _ (by simp) ?hcs) ?_; (case hcs => (intro j hj; have hj6 : j = 0 ∨ j = 1 ∨ j = 2 := (by simp at hj; omega); rcases hj6 with rfl | rfl | rfl <;> (go_simp; done))); rintro e w5 ⟨rfl, rfl⟩)
 refine hK.out _ _ ?hS30018x0 (fun H30018 => ?_)
 case hS30018x0 => first | (exact MK.out _ (by solve_by_elim [X0, X1, X2, X3])) | ((try dsimp only); (exact MK.out _ (by solve_by_elim [X0, X1, X2, X3])))
 clear hK K
 clear H30017
 (try simp only [PU])
 refine TK 17 (v := ?v30019) H30018 ?hy30019 ?_
 case hy30019 => (intro w hSw; (try dsimp only at hSw); go_simp <;> first | with_reducible rfl | rw [if_neg (by omega)] | rw [if_pos (by omega)])
 (try simp only [PU])
 refine wpAnyH_done (by kernel_rfl) ?_ _
 clear H30018
 go_wp2_with fail
 go_ret
 exact ⟨by first | rfl | (rw [← HT.out]; rfl) | rw [HT.out], hx.trans (by solve_by_elim [X0, X1, X2, X3])⟩
set_option maxRecDepth 100000 in
theorem r12_Ints (l m : List Int) (ok ok' : Nat → Prop) (A B : Option Addr) (c d : Nat) (w : World) (ha : Nums w ok A l) (hb : Nums w ok' B m) :
  Calls Tryz.prog 27 #[.slice A l.length c, .slice B m.length d] w fun e w' => e = .returned (.bool (decide (l = m))) ∧ Ext w w' := by
 have hla := ha.len
 have hlb := hb.len
 have HA := Lib.hid ha
 have HB := Lib.hid hb
 go_enter Tryz.func27, Tryz.ntmps27
 by_cases hl : l.length = m.length
 ·have hlI : ((l.length : Int) != (m.length : Int)) = false := by simp [hl]
  have HY := Lib.hid (fun (h : ∀ t, t < l.length → l[t]! = m[t]!) => decide_eq_true (ext_bang hl (fun i hi => h i (by omega))))
  have HN := Lib.hid (fun k (hk : k < l.length) (h : l[k]! ≠ m[k]!) => decide_eq_false (show ¬ l = m from fun e => h (by rw [e])))
  clear ha hb
  generalize decide (l = m) = T at *
  generalize hn : m.length = n at *
  subst hl
  go_wp2_with fail
  go_loopw [5] (fun u W => ∃ k : Nat, u = .int .i64 k ∧ k ≤ l.length ∧ Hid (∀ t, t < k → l[t]! = m[t]!) ∧ Hid (Ext w W)) (fun u _ => l.length - (intOf u).toNat)
  case atStart => exact ⟨0, rfl, Nat.zero_le _, Lib.hid (fun t ht => absurd ht (by omega)), Lib.hid (by solve_by_elim [X0, X1, X2, X3])⟩
  case round =>
   obtain ⟨k, rfl, hk, HG, hE⟩ := hrel
   by_cases hlt : k < l.length
   ·obtain ⟨b, o, rfl, hca⟩ := HA.out.2 (by omega)
    obtain ⟨b2, o2, rfl, hcb⟩ := HB.out.2 (by omega)
    obtain ⟨-, x0⟩ := hca k hlt
    obtain ⟨-, y0⟩ := hcb k (by omega)
    rw [← getElem!_pos l k hlt, Nat.mul_one] at x0
    rw [← getElem!_pos m k (by omega), Nat.mul_one] at y0
    have MK := Lib.hid (fun V (e' : Ext wr V) => (⟨(hE.out.trans e').cell x0, (hE.out.trans e').cell y0⟩ : V.cell? ⟨b, o + k, none⟩ = some (.int .i64 l[k]!) ∧ V.cell? ⟨b2, o2 + k, none⟩ = some (.int .i64 m[k]!)))
    have HS := Lib.hid (fun (h : l[k]! = m[k]!) t (ht : t < k + 1) => (if e : t = k then (by rw [e]; exact h) else HG.out t (by omega) : l[t]! = m[t]!))
    have HX := Lib.hid (fun h => HN.out k hlt h)
    clear hca hcb x0 y0 HY HN HG
    generalize l[k]! = x at *
    generalize m[k]! = y at *
    by_cases hxy : x = y
    ·have HT := Lib.hid (HS.out hxy)
     have hbe : (x != y) = false := by simp [hxy]
     clear HS HX hxy
     go_upto_region 6 with (fail)
     refine wp_region_held_drew (S := (fun V => V.cell? ⟨b, o + k, none⟩ = some (.int .i64 x) ∧ V.cell? ⟨b2, o2 + k, none⟩ = some (.int .i64 y))) (by kernel_rfl) ?hs30020 (fun hHeld => ?go30020)
     case hs30020 => (exact MK.out _ (by solve_by_elim [X0, X1, X2, X3]))
     refine TK 0 (v := ?v30021) hHeld ?hy30021 ?_
     case hy30021 => (intro w hSw; (try dsimp only at hSw); go_simp <;> first | with_reducible rfl | rw [if_neg (by omega)] | rw [if_pos (by omega)])
     (try simp only [PU])
     refine TK 1 (v := ?v30022) hHeld ?hy30022 ?_
     case hy30022 => (intro w hSw; (try dsimp only at hSw); go_simp <;> first | with_reducible rfl | rw [if_neg (by omega)] | rw [if_pos (by omega)])
     (try simp only [PU])
     refine TK 2 (v := ?v30023) hHeld ?hy30023 ?_
     case hy30023 => (intro w hSw; (try dsimp only at hSw); go_simp <;> first | with_reducible rfl | rw [if_neg (by omega)] | rw [if_pos (by omega)])
     (try simp only [PU])
     refine TK 3 (v := ?v30024) hHeld ?hy30024 ?_
     case hy30024 => (intro w hSw; (try dsimp only at hSw); go_simp <;> first | with_reducible rfl | rw [if_neg (by omega)] | rw [if_pos (by omega)])
     (try simp only [PU])
     refine TK 4 (v := ?v30025) hHeld ?hy30025 ?_
     case hy30025 => (intro w hSw; (try dsimp only at hSw); go_simp <;> first | with_reducible rfl | rw [if_neg (by omega)] | rw [if_pos (by omega)])
     (try simp only [PU])
     refine TK 5 (v := ?v30026) hHeld ?hy30026 ?_
     case hy30026 => (intro w hSw; (try dsimp only at hSw); go_simp <;> first | with_reducible rfl | rw [if_neg (by omega)] | rw [if_pos (by omega)])
     (try simp only [PU])
     refine TK 6 (v := ?v30027) hHeld ?hy30027 ?_
     case hy30027 => (intro w hSw; (try dsimp only at hSw); go_simp <;> first | with_reducible rfl | rw [if_neg (by omega)] | rw [if_pos (by omega)])
     (try simp only [PU])
     refine TK 7 (v := ?v30028) hHeld ?hy30028 ?_
     case hy30028 => (intro w hSw; (try dsimp only at hSw); go_simp <;> first | with_reducible rfl | rw [if_neg (by omega)] | rw [if_pos (by omega)])
     (try simp only [PU])
     refine TK 8 (v := ?v30029) hHeld ?hy30029 ?_
     case hy30029 => (intro w hSw; (try dsimp only at hSw); go_simp <;> first | with_reducible rfl | rw [if_neg (by omega)] | rw [if_pos (by omega)])
     (try simp only [PU])
     refine wpAnyH_done (by kernel_rfl) ?_ _
     clear hHeld
     go_wp2_with fail
     go_roundw
     case rel => exact ⟨k + 1, by go_num, by omega, HT, Lib.hid (hE.out.trans (by solve_by_elim [X0, X1, X2, X3]))⟩
     case measure => simp [intOf]; omega
    ·have HT := Lib.hid (HX.out hxy)
     have hbe : (x != y) = true := by simp [hxy]
     clear HS HX hxy
     go_upto_region 6 with (fail)
     refine wp_region_held_drew (S := (fun V => V.cell? ⟨b, o + k, none⟩ = some (.int .i64 x) ∧ V.cell? ⟨b2, o2 + k, none⟩ = some (.int .i64 y))) (by kernel_rfl) ?hs30030 (fun hHeld => ?go30030)
     case hs30030 => (exact MK.out _ (by solve_by_elim [X0, X1, X2, X3]))
     refine TK 0 (v := ?v30031) hHeld ?hy30031 ?_
     case hy30031 => (intro w hSw; (try dsimp only at hSw); go_simp <;> first | with_reducible rfl | rw [if_neg (by omega)] | rw [if_pos (by omega)])
     (try simp only [PU])
     refine TK 1 (v := ?v30032) hHeld ?hy30032 ?_
     case hy30032 => (intro w hSw; (try dsimp only at hSw); go_simp <;> first | with_reducible rfl | rw [if_neg (by omega)] | rw [if_pos (by omega)])
     (try simp only [PU])
     refine TK 2 (v := ?v30033) hHeld ?hy30033 ?_
     case hy30033 => (intro w hSw; (try dsimp only at hSw); go_simp <;> first | with_reducible rfl | rw [if_neg (by omega)] | rw [if_pos (by omega)])
     (try simp only [PU])
     refine TK 3 (v := ?v30034) hHeld ?hy30034 ?_
     case hy30034 => (intro w hSw; (try dsimp only at hSw); go_simp <;> first | with_reducible rfl | rw [if_neg (by omega)] | rw [if_pos (by omega)])
     (try simp only [PU])
     refine TK 4 (v := ?v30035) hHeld ?hy30035 ?_
     case hy30035 => (intro w hSw; (try dsimp only at hSw); go_simp <;> first | with_reducible rfl | rw [if_neg (by omega)] | rw [if_pos (by omega)])
     (try simp only [PU])
     refine TK 5 (v := ?v30036) hHeld ?hy30036 ?_
     case hy30036 => (intro w hSw; (try dsimp only at hSw); go_simp <;> first | with_reducible rfl | rw [if_neg (by omega)] | rw [if_pos (by omega)])
     (try simp only [PU])
     refine TK 6 (v := ?v30037) hHeld ?hy30037 ?_
     case hy30037 => (intro w hSw; (try dsimp only at hSw); go_simp <;> first | with_reducible rfl | rw [if_neg (by omega)] | rw [if_pos (by omega)])
     (try simp only [PU])
     refine TK 7 (v := ?v30038) hHeld ?hy30038 ?_
     case hy30038 => (intro w hSw; (try dsimp only at hSw); go_simp <;> first | with_reducible rfl | rw [if_neg (by omega)] | rw [if_pos (by omega)])
     (try simp only [PU])
     refine TK 8 (v := ?v30039) hHeld ?hy30039 ?_
     case hy30039 => (intro w hSw; (try dsimp only at hSw); go_simp <;> first | with_reducible rfl | rw [if_neg (by omega)] | rw [if_pos (by omega)])
     (try simp only [PU])
     refine wpAnyH_done (by kernel_rfl) ?_ _
     clear hHeld
     go_wp2_with fail
     go_ret
     exact ⟨ret_bool HT.out.symm, hE.out.trans (by solve_by_elim [X0, X1, X2, X3])⟩
   ·have HT := Lib.hid (HY.out (fun t ht => HG.out t (by omega)))
    clear HY HN HG
    go_wp2_with fail
    go_ret
    exact ⟨ret_bool HT.out.symm, hE.out⟩
 ·have hlI : ((l.length : Int) != (m.length : Int)) = true := by simp; omega
  have HT := Lib.hid (decide_eq_false (show ¬ l = m from fun e => hl (by rw [e])))
  clear hl
  go_wp2_with fail
  go_ret
  exact ⟨ret_bool HT.out.symm, (by solve_by_elim [X0, X1, X2, X3])⟩
set_option maxRecDepth 100000 in
theorem r12_Adjs (l m : List Sh) (ok ok' : Nat → Prop) (A B : Option Addr) (c d : Nat) (w : World) (ha : Shares w ok A l) (hb : Shares w ok' B m) :
  Calls Tryz.prog 16 #[.slice A l.length c, .slice B m.length d] w fun e w' => e = .returned (.bool (decide (l = m))) ∧ Ext w w' := by
 have hla := ha.len
 have hlb := hb.len
 have HA := Lib.hid ha
 have HB := Lib.hid hb
 go_enter Tryz.func16, Tryz.ntmps16
 by_cases hl : l.length = m.length
 ·have hlI : ((l.length : Int) != (m.length : Int)) = false := by simp [hl]
  have HY := Lib.hid (fun (h : ∀ t, t < l.length → l[t]! = m[t]!) => decide_eq_true (ext_bang hl (fun i hi => h i (by omega))))
  have HN := Lib.hid (fun k (hk : k < l.length) (h : l[k]! ≠ m[k]!) => decide_eq_false (show ¬ l = m from fun e => h (by rw [e])))
  clear ha hb
  generalize decide (l = m) = T at *
  generalize hn : m.length = n at *
  subst hl
  go_wp2_with fail
  go_loopw [5] (fun u W => ∃ k : Nat, u = .int .i64 k ∧ k ≤ l.length ∧ Hid (∀ t, t < k → l[t]! = m[t]!) ∧ Hid (Ext w W)) (fun u _ => l.length - (intOf u).toNat)
  case atStart => exact ⟨0, rfl, Nat.zero_le _, Lib.hid (fun t ht => absurd ht (by omega)), Lib.hid (by solve_by_elim [X0, X1, X2, X3])⟩
  case round =>
   obtain ⟨k, rfl, hk, HG, hE⟩ := hrel
   by_cases hlt : k < l.length
   ·obtain ⟨b, o, rfl, hca⟩ := HA.out.2 (by omega)
    obtain ⟨b2, o2, rfl, hcb⟩ := HB.out.2 (by omega)
    obtain ⟨-, x0, x1, x2⟩ := hca k hlt
    obtain ⟨-, y0, y1, y2⟩ := hcb k (by omega)
    rw [← getElem!_pos l k hlt] at x0 x1 x2
    rw [← getElem!_pos m k (by omega)] at y0 y1 y2
    have MK := Lib.hid (fun V (e' : Ext wr V) => (⟨⟨(hE.out.trans e').cell x0, (hE.out.trans e').cell x1, (hE.out.trans e').cell x2⟩, (hE.out.trans e').cell y0, (hE.out.trans e').cell y1, (hE.out.trans e').cell y2⟩ : (V.cell? ⟨b, o + k * 3, none⟩ = some (.int .i64 l[k]!.id) ∧ V.cell? ⟨b, o + k * 3 + 1, none⟩ = some (.int .i64 l[k]!.n) ∧ V.cell? ⟨b, o + k * 3 + 2, none⟩ = some (.int .i64 l[k]!.d)) ∧ V.cell? ⟨b2, o2 + k * 3, none⟩ = some (.int .i64 m[k]!.id) ∧ V.cell? ⟨b2, o2 + k * 3 + 1, none⟩ = some (.int .i64 m[k]!.n) ∧ V.cell? ⟨b2, o2 + k * 3 + 2, none⟩ = some (.int .i64 m[k]!.d)))
    have HS := Lib.hid (fun (h : l[k]!.id = m[k]!.id ∧ l[k]!.n = m[k]!.n ∧ l[k]!.d = m[k]!.d) t (ht : t < k + 1) => (if e : t = k then (by rw [e]; exact sh_eq h.1 h.2.1 h.2.2) else HG.out t (by omega) : l[t]! = m[t]!))
    have HX := Lib.hid (fun (h : ¬ (l[k]!.id = m[k]!.id ∧ l[k]!.n = m[k]!.n ∧ l[k]!.d = m[k]!.d)) => HN.out k hlt (fun e => h (by rw [e]; exact ⟨rfl, rfl, rfl⟩)))
    clear hca hcb x0 x1 x2 y0 y1 y2 HY HN HG
    generalize l[k]!.id = x0 at *
    generalize l[k]!.n = x1 at *
    generalize l[k]!.d = x2 at *
    generalize m[k]!.id = y0 at *
    generalize m[k]!.n = y1 at *
    generalize m[k]!.d = y2 at *
    by_cases hxy : x0 = y0 ∧ x1 = y1 ∧ x2 = y2
    ·have HT := Lib.hid (HS.out hxy)
     obtain ⟨rfl, rfl, rfl⟩ := hxy
     clear HS HX
     go_upto_region 6 with (fail)
     refine wp_region_held_drew (S := (fun V => (V.cell? ⟨b, o + k * 3, none⟩ = some (.int .i64 x0) ∧ V.cell? ⟨b, o + k * 3 + 1, none⟩ = some (.int .i64 x1) ∧ V.cell? ⟨b, o + k * 3 + 2, none⟩ = some (.int .i64 x2)) ∧ V.cell? ⟨b2, o2 + k * 3, none⟩ = some (.int .i64 x0) ∧ V.cell? ⟨b2, o2 + k * 3 + 1, none⟩ = some (.int .i64 x1) ∧ V.cell? ⟨b2, o2 + k * 3 + 2, none⟩ = some (.int .i64 x2))) (by kernel_rfl) ?hs30040 (fun hHeld => ?go30040)
     case hs30040 => (exact MK.out _ (by solve_by_elim [X0, X1, X2, X3]))
     refine TK 0 (v := ?v30041) hHeld ?hy30041 ?_
     case hy30041 => (intro w hSw; (try dsimp only at hSw); go_simp <;> first | with_reducible rfl | rw [if_neg (by omega)] | rw [if_pos (by omega)])
     (try simp only [PU])
     refine TK 1 (v := ?v30042) hHeld ?hy30042 ?_
     case hy30042 => (intro w hSw; (try dsimp only at hSw); go_simp <;> first | with_reducible rfl | rw [if_neg (by omega)] | rw [if_pos (by omega)])
     (try simp only [PU])
     refine TK 2 (v := ?v30043) hHeld ?hy30043 ?_
     case hy30043 => (intro w hSw; (try dsimp only at hSw); go_simp <;> first | with_reducible rfl | rw [if_neg (by omega)] | rw [if_pos (by omega)])
     (try simp only [PU])
     refine TK 3 (v := ?v30044) hHeld ?hy30044 ?_
     case hy30044 => (intro w hSw; (try dsimp only at hSw); go_simp <;> first | with_reducible rfl | rw [if_neg (by omega)] | rw [if_pos (by omega)])
     (try simp only [PU])
     refine TK 4 (v := ?v30045) hHeld ?hy30045 ?_
     case hy30045 => (intro w hSw; (try dsimp only at hSw); go_simp <;> first | with_reducible rfl | rw [if_neg (by omega)] | rw [if_pos (by omega)])
     (try simp only [PU])
     refine TK 5 (v := ?v30046) hHeld ?hy30046 ?_
     case hy30046 => (intro w hSw; (try dsimp only at hSw); go_simp <;> first | with_reducible rfl | rw [if_neg (by omega)] | rw [if_pos (by omega)])
     (try simp only [PU])
     refine TK 6 (v := ?v30047) hHeld ?hy30047 ?_
     case hy30047 => (intro w hSw; (try dsimp only at hSw); go_simp <;> first | with_reducible rfl | rw [if_neg (by omega)] | rw [if_pos (by omega)])
     (try simp only [PU])
     refine TK 7 (v := ?v30048) hHeld ?hy30048 ?_
     case hy30048 => (intro w hSw; (try dsimp only at hSw); go_simp <;> first | with_reducible rfl | rw [if_neg (by omega)] | rw [if_pos (by omega)])
     (try simp only [PU])
     refine TK 8 (v := ?v30049) hHeld ?hy30049 ?_
     case hy30049 => (intro w hSw; (try dsimp only at hSw); go_simp <;> first | with_reducible rfl | rw [if_neg (by omega)] | rw [if_pos (by omega)])
     (try simp only [PU])
     refine wpAnyH_done (by kernel_rfl) ?_ _
     clear hHeld
     go_wp2_with fail
     go_roundw
     case rel => exact ⟨k + 1, by go_num, by omega, HT, Lib.hid (hE.out.trans (by solve_by_elim [X0, X1, X2, X3]))⟩
     case measure => simp [intOf]; omega
    ·have HT := Lib.hid (HX.out hxy)
     have HQ3 := Lib.hid hxy
     clear HS HX hxy
     go_upto_region 6 with (fail)
     refine wp_region_held_drew (S := (fun V => (V.cell? ⟨b, o + k * 3, none⟩ = some (.int .i64 x0) ∧ V.cell? ⟨b, o + k * 3 + 1, none⟩ = some (.int .i64 x1) ∧ V.cell? ⟨b, o + k * 3 + 2, none⟩ = some (.int .i64 x2)) ∧ V.cell? ⟨b2, o2 + k * 3, none⟩ = some (.int .i64 y0) ∧ V.cell? ⟨b2, o2 + k * 3 + 1, none⟩ = some (.int .i64 y1) ∧ V.cell? ⟨b2, o2 + k * 3 + 2, none⟩ = some (.int .i64 y2))) (by kernel_rfl) ?hs30050 (fun hHeld => ?go30050)
     case hs30050 => (exact MK.out _ (by solve_by_elim [X0, X1, X2, X3]))
     refine TK 0 (v := ?v30051) hHeld ?hy30051 ?_
     case hy30051 => (intro w hSw; (try dsimp only at hSw); go_simp <;> first | with_reducible rfl | rw [if_neg (by omega)] | rw [if_pos (by omega)])
     (try simp only [PU])
     refine TK 1 (v := ?v30052) hHeld ?hy30052 ?_
     case hy30052 => (intro w hSw; (try dsimp only at hSw); go_simp <;> first | with_reducible rfl | rw [if_neg (by omega)] | rw [if_pos (by omega)])
     (try simp only [PU])
     refine TK 2 (v := ?v30053) hHeld ?hy30053 ?_
     case hy30053 => (intro w hSw; (try dsimp only at hSw); go_simp <;> first | with_reducible rfl | rw [if_neg (by omega)] | rw [if_pos (by omega)])
     (try simp only [PU])
     refine TK 3 (v := ?v30054) hHeld ?hy30054 ?_
     case hy30054 => (intro w hSw; (try dsimp only at hSw); go_simp <;> first | with_reducible rfl | rw [if_neg (by omega)] | rw [if_pos (by omega)])
     (try simp only [PU])
     refine TK 4 (v := ?v30055) hHeld ?hy30055 ?_
     case hy30055 => (intro w hSw; (try dsimp only at hSw); go_simp <;> first | with_reducible rfl | rw [if_neg (by omega)] | rw [if_pos (by omega)])
     (try simp only [PU])
     refine TK 5 (v := ?v30056) hHeld ?hy30056 ?_
     case hy30056 => (intro w hSw; (try dsimp only at hSw); go_simp <;> first | with_reducible rfl | rw [if_neg (by omega)] | rw [if_pos (by omega)])
     (try simp only [PU])
     refine TK 6 (v := ?v30057) hHeld ?hy30057 ?_
     case hy30057 => (intro w hSw; (try dsimp only at hSw); go_simp <;> first | with_reducible rfl | rw [if_neg (by omega)] | rw [if_pos (by omega)])
     (try simp only [PU])
     refine TK 7 (v := ?v30058) hHeld ?hy30058 ?_
     case hy30058 => (intro w hSw; (try dsimp only at hSw); go_simp <;> first | with_reducible rfl | rw [if_neg (by omega)] | rw [if_pos (by omega)])
     (try simp only [PU])
     refine TK 8 (v := ?v30059) hHeld ?hy30059 ?_
     case hy30059 => (intro w hSw; (try dsimp only at hSw); go_simp; exact if3_noC HQ3.out)
     (try simp only [PU])
     refine wpAnyH_done (by kernel_rfl) ?_ _
     clear hHeld
     go_wp2_with fail
     go_ret
     exact ⟨ret_bool HT.out.symm, hE.out.trans (by solve_by_elim [X0, X1, X2, X3])⟩
   ·have HT := Lib.hid (HY.out (fun t ht => HG.out t (by omega)))
    clear HY HN HG
    go_wp2_with fail
    go_ret
    exact ⟨ret_bool HT.out.symm, hE.out⟩
 ·have hlI : ((l.length : Int) != (m.length : Int)) = true := by simp; omega
  have HT := Lib.hid (decide_eq_false (show ¬ l = m from fun e => hl (by rw [e])))
  clear hl
  go_wp2_with fail
  go_ret
  exact ⟨ret_bool HT.out.symm, (by solve_by_elim [X0, X1, X2, X3])⟩
set_option maxRecDepth 100000 in
theorem r12_Same (c d : Col) (ok ok' : Nat → Prop) (A B C D E F G H : Option Addr) (k0 k1 k2 k3 j0 j1 j2 j3 : Nat) (w : World) (ha : ColAt w ok A B C D c) (hb : ColAt w ok' E F G H d) :
  Calls Tryz.prog 8 #[agC c A B C D k0 k1 k2 k3, agC d E F G H j0 j1 j2 j3] w fun e w' => e = .returned (.bool (decide (c.nodes = d.nodes) && decide (c.first = d.first) && decide (c.tos = d.tos) && decide (c.edges = d.edges))) ∧ Ext w w' := by
 obtain ⟨q, w2, hq, hw2, ⟨a0, a1, a2, a3⟩, ⟨b0, b1, b2, b3⟩, hx⟩ : ∃ (q : Nat) (w2 : World), q = w.heap.size ∧ w2 = (w.alloc (.cells #[.slice A c.nodes.length k0, .slice B c.first.length k1, .slice C c.tos.length k2, .slice D c.edges.length k3] 29)).alloc (.cells #[.slice E d.nodes.length j0, .slice F d.first.length j1, .slice G d.tos.length j2, .slice H d.edges.length j3] 29) ∧ (w2.cell? ⟨q, 0, none⟩ = some (.slice A c.nodes.length k0) ∧ w2.cell? ⟨q, 1, none⟩ = some (.slice B c.first.length k1) ∧ w2.cell? ⟨q, 2, none⟩ = some (.slice C c.tos.length k2) ∧ w2.cell? ⟨q, 3, none⟩ = some (.slice D c.edges.length k3)) ∧ (w2.cell? ⟨q + 1, 0, none⟩ = some (.slice E d.nodes.length j0) ∧ w2.cell? ⟨q + 1, 1, none⟩ = some (.slice F d.first.length j1) ∧ w2.cell? ⟨q + 1, 2, none⟩ = some (.slice G d.tos.length j2) ∧ w2.cell? ⟨q + 1, 3, none⟩ = some (.slice H d.edges.length j3)) ∧ Ext w w2 :=
  ⟨_, _, rfl, rfl, ⟨by go_simp, by go_simp, by go_simp, by go_simp⟩, ⟨by go_simp, by go_simp, by go_simp, by go_simp⟩, (by solve_by_elim [X0, X1, X2, X3])⟩
 have HW := Lib.hid hw2
 have HG := Lib.hid hq
 have HX := Lib.hid hx
 have H0 := Lib.hid (fun W (e : Ext w2 W) => r12_Ints c.nodes d.nodes ok ok' A E k0 j0 W (ha.n.ext (hx.trans e)) (hb.n.ext (hx.trans e)))
 have H1 := Lib.hid (fun W (e : Ext w2 W) => r12_Ints c.first d.first ok ok' B F k1 j1 W (ha.f.ext (hx.trans e)) (hb.f.ext (hx.trans e)))
 have H2 := Lib.hid (fun W (e : Ext w2 W) => r12_Ints c.tos d.tos ok ok' C G k2 j2 W (ha.t.ext (hx.trans e)) (hb.t.ext (hx.trans e)))
 have H3 := Lib.hid (fun W (e : Ext w2 W) => r12_Ints c.edges d.edges ok ok' D H k3 j3 W (ha.e.ext (hx.trans e)) (hb.e.ext (hx.trans e)))
 have MK := Lib.hid (fun V (e' : Ext w2 V) => (⟨⟨e'.cell a0, e'.cell a1, e'.cell a2, e'.cell a3⟩, e'.cell b0, e'.cell b1, e'.cell b2, e'.cell b3⟩ : (V.cell? ⟨q, 0, none⟩ = some (.slice A c.nodes.length k0) ∧ V.cell? ⟨q, 1, none⟩ = some (.slice B c.first.length k1) ∧ V.cell? ⟨q, 2, none⟩ = some (.slice C c.tos.length k2) ∧ V.cell? ⟨q, 3, none⟩ = some (.slice D c.edges.length k3)) ∧ V.cell? ⟨q + 1, 0, none⟩ = some (.slice E d.nodes.length j0) ∧ V.cell? ⟨q + 1, 1, none⟩ = some (.slice F d.first.length j1) ∧ V.cell? ⟨q + 1, 2, none⟩ = some (.slice G d.tos.length j2) ∧ V.cell? ⟨q + 1, 3, none⟩ = some (.slice H d.edges.length j3)))
 clear hw2 hq ha hb hx
 generalize decide (c.nodes = d.nodes) = t0 at *
 generalize decide (c.first = d.first) = t1 at *
 generalize decide (c.tos = d.tos) = t2 at *
 generalize decide (c.edges = d.edges) = t3 at *
 go_enter Tryz.func8, Tryz.ntmps8
 go_upto_region 1 with (fail)
 rw [← HW.out, ← HG.out]
 clear HW HG
 cases t0
 ·go_wp2_with ((go_at_call 27; ((with_reducible refine (H0.out _ (Ext.refl _)).mono ?_); rintro e w3 ⟨rfl, hx3⟩)))
  go_ret
  exact ⟨rfl, HX.out.trans (by solve_by_elim [X0, X1, X2, X3])⟩
 ·cases t1
  ·go_wp2_with (first | (go_at_call 27; ((with_reducible refine (H0.out _ (Ext.refl _)).mono ?_); rintro e w3 ⟨rfl, hx3⟩; obtain ⟨⟨a0, a1, a2, a3⟩, b0, b1, b2, b3⟩ := MK.out _ hx3; clear H0)) | (go_at_call 27; ((with_reducible refine (H1.out _ hx3).mono ?_); rintro e w4 ⟨rfl, hx4⟩)))
   go_ret
   exact ⟨rfl, HX.out.trans (hx3.trans (by solve_by_elim [X0, X1, X2, X3]))⟩
  ·cases t2
   ·go_wp2_with (first | (go_at_call 27; ((with_reducible refine (H0.out _ (Ext.refl _)).mono ?_); rintro e w3 ⟨rfl, hx3⟩; obtain ⟨⟨a0, a1, a2, a3⟩, b0, b1, b2, b3⟩ := MK.out _ hx3; clear H0)) | (go_at_call 27; ((with_reducible refine (H1.out _ hx3).mono ?_); rintro e w4 ⟨rfl, hx4⟩; replace hx4 := hx3.trans hx4; obtain ⟨⟨a0, a1, a2, a3⟩, b0, b1, b2, b3⟩ := MK.out _ hx4; clear H1)) | (go_at_call 27; ((with_reducible refine (H2.out _ hx4).mono ?_); rintro e w5 ⟨rfl, hx5⟩)))
    go_ret
    exact ⟨rfl, HX.out.trans (hx4.trans (by solve_by_elim [X0, X1, X2, X3]))⟩
   ·go_wp2_with (first | (go_at_call 27; ((with_reducible refine (H0.out _ (Ext.refl _)).mono ?_); rintro e w3 ⟨rfl, hx3⟩; obtain ⟨⟨a0, a1, a2, a3⟩, b0, b1, b2, b3⟩ := MK.out _ hx3; clear H0)) | (go_at_call 27; ((with_reducible refine (H1.out _ hx3).mono ?_); rintro e w4 ⟨rfl, hx4⟩; replace hx4 := hx3.trans hx4; obtain ⟨⟨a0, a1, a2, a3⟩, b0, b1, b2, b3⟩ := MK.out _ hx4; clear H1)) | (go_at_call 27; ((with_reducible refine (H2.out _ hx4).mono ?_); rintro e w5 ⟨rfl, hx5⟩; replace hx5 := hx4.trans hx5; obtain ⟨⟨a0, a1, a2, a3⟩, b0, b1, b2, b3⟩ := MK.out _ hx5; clear H2)) | (go_at_call 27; ((with_reducible refine (H3.out _ hx5).mono ?_); rintro e w6 ⟨rfl, hx6⟩)))
    go_ret
    exact ⟨by cases t3 <;> rfl, HX.out.trans (hx5.trans (by solve_by_elim [X0, X1, X2, X3]))⟩
end Go.Proofs.YtnheioehadldmaaGreat
